/- Lemmas for the rows: EvS OpnE OpnW. -/
import Derived.Test.YtdiaecgpjgdkdaaGreatThS31
import Derived.Test.YtdiaecgpjgdkdaaGreatThS13
import Derived.Test.YtdiaecgpjgdkdaaGreatThS05
set_option linter.unusedSimpArgs false
set_option linter.unusedVariables false
namespace Go.Proofs.YtdiaecgpjgdkdaaGreat
open Go.RowKit

def fitB : List Va → List Int → Bool
 | [], [] => true
 | v :: r, k :: l => (vvB v && (v.k == 0 || v.k == k)) && fitB r l
 | _, _ => false
theorem fitB_ne : ∀ {r : List Va} {l : List Int}, r.length ≠ l.length → fitB r l = false
 | [], [], h => absurd rfl h
 | [], _ :: _, _ => rfl
 | _ :: _, [], _ => rfl
 | v :: r, k :: l, h => by rw [fitB, fitB_ne (r := r) (l := l) (fun e => h (by simp [e])), Bool.and_false]
theorem fitB_step {r : List Va} {l : List Int} {k : Nat} {v : Va} {i : Int} (h1 : r[k]? = some v) (h2 : l[k]? = some i) : fitB (r.drop k) (l.drop k) = ((vvB v && (v.k == 0 || v.k == i)) && fitB (r.drop (k + 1)) (l.drop (k + 1))) := by
 obtain ⟨a1, b1⟩ := List.getElem?_eq_some_iff.1 h1
 obtain ⟨a2, b2⟩ := List.getElem?_eq_some_iff.1 h2
 rw [List.drop_eq_getElem_cons a1, List.drop_eq_getElem_cons a2, b1, b2, fitB]
set_option maxRecDepth 100000 in
set_option maxHeartbeats 8000000 in
theorem fits_any (RA K : Option Addr) (n rc nk kc : Nat) (row : List Va) (lk : List Int) (w : World) (hn : row.length = n) (hnk : lk.length = nk) (hR : Rd w 3 RA n (vcl row)) (hK : Rd w 1 K nk (ic lk)) (nr : n ≤ 9223372036854775807) (nn : nk ≤ 9223372036854775807) (hz : ∀ v ∈ row, v.t.size ≤ 9223372036854775807) :
  Calls Tryz.prog 37 #[.slice RA n rc, .slice K nk kc] w fun e w' => e = .returned (.bool (fitB row lk)) ∧ Ext w w' := by
 have HR : Hid (fitB row lk = fitB (row.drop 0) (lk.drop 0)) := Lib.hid rfl
 have HN := Lib.hid hn
 have HK := Lib.hid hnk
 have HZ := Lib.hid hz
 rcases hq : ((n : Int) != (nk : Int)) with _ | _
 case true =>
  have H0 : Hid (fitB row lk = false) := Lib.hid (fitB_ne (by rw [hn, hnk]; intro h; subst h; simp at hq))
  clear HR hz hn hnk
  generalize fitB row lk = fb at H0 ⊢
  go_enter Tryz.func37, Tryz.ntmps37
  go_wp2
  go_ret
  exact ⟨by rw [H0.out]; rfl, ex_⟩
 have hnn : n = nk := by simp at hq; omega
 clear hz hn hnk
 generalize fitB row lk = fb at HR ⊢
 go_enter Tryz.func37, Tryz.ntmps37
 go_wp2
 go_loopg [5] n (fun g ix wr => ∃ k : Nat, ix = .int .i64 k ∧ k ≤ n ∧ n - k ≤ g ∧ Hid (fb = fitB (row.drop k) (lk.drop k)) ∧ Ext w wr)
 case atStart => exact ⟨0, rfl, by omega, by omega, HR, ex_⟩
 case round =>
  obtain ⟨k, rfl, hk, hg, HC, hE⟩ := hrel
  obtain ⟨x, rfl⟩ := hE.get
  clear hE HR
  have HG := Lib.hid hg
  clear hg
  by_cases hlt : k < n
  ·
   have hkz : (k : Int) < (n : Int) := by omega
   have hkz2 : (k : Int) < (nk : Int) := by omega
   obtain ⟨v, b0, o0, hv0, rfl, hb0, p0, p1, p2⟩ := hR.val3 HN.out hlt
   obtain ⟨kk, b1, o1, hv1, rfl, hb1, p3⟩ := hK.in1 HK.out (show k < nk by omega)
   have HS := Lib.hid (fitB_step hv0 hv1)
   have HV := Lib.hid (fun W => rvv_any v W (HZ.out v (List.mem_of_getElem? hv0)))
   clear hv0 hv1
   rcases hvb : vvB v with _ | _
   ·
    have HD : Hid (fb = false) := Lib.hid (by rw [HC.out, HS.out, hvb]; rfl)
    rw [hvb] at HV
    clear hvb HS HC
    go_wp2_with fail
    refine wp_region_ext (by kernel_rfl) (by kernel_rfl) ?_
    repeat (first | go_big_quiet_step ((go_at_call 79; exact Calls.ext_of (HV.out _))) | quiet_step ((go_at_call 79; exact Calls.ext_of (HV.out _)))) 
    refine wpQuiet_nil ?_
    intro _ hw'
    obtain ⟨xq, hw''⟩ := hw'
    subst hw''
    go_wp2
    go_ret
    exact ⟨by rw [HD.out]; rfl, ex_⟩
   ·
    rw [hvb] at HV
    rcases hq1 : (v.k != 0) with _ | _
    ·
     have HD : Hid (fb = fitB (row.drop (k + 1)) (lk.drop (k + 1))) := Lib.hid (by rw [HC.out, HS.out, hvb]; simp at hq1; simp [hq1])
     clear hvb HS HC
     go_wp2_with fail
     refine wp_region_ext (by kernel_rfl) (by kernel_rfl) ?_
     repeat (first | go_big_quiet_step ((go_at_call 79; exact Calls.ext_of (HV.out _))) | quiet_step ((go_at_call 79; exact Calls.ext_of (HV.out _)))) 
     refine wpQuiet_nil ?_
     intro _ hw'
     obtain ⟨xq, hw''⟩ := hw'
     subst hw''
     go_wp2
     go_roundg (gk - 1)
     case rel => exact ⟨k + 1, by go_num, by omega, by have := HG.out; omega, HD, ex_⟩
     case measure => have := HG.out; omega
    ·
     rcases hq2 : (v.k != kk) with _ | _
     ·
      have HD : Hid (fb = fitB (row.drop (k + 1)) (lk.drop (k + 1))) := Lib.hid (by rw [HC.out, HS.out, hvb]; simp at hq2; simp [hq2])
      clear hvb HS HC
      go_wp2_with fail
      refine wp_region_ext (by kernel_rfl) (by kernel_rfl) ?_
      repeat (first | go_big_quiet_step ((go_at_call 79; exact Calls.ext_of (HV.out _))) | quiet_step ((go_at_call 79; exact Calls.ext_of (HV.out _)))) 
      refine wpQuiet_nil ?_
      intro _ hw'
      obtain ⟨xq, hw''⟩ := hw'
      subst hw''
      go_wp2
      go_roundg (gk - 1)
      case rel => exact ⟨k + 1, by go_num, by omega, by have := HG.out; omega, HD, ex_⟩
      case measure => have := HG.out; omega
     ·
      have HD : Hid (fb = false) := Lib.hid (by rw [HC.out, HS.out, hvb]; simp at hq1 hq2; simp [hq1, hq2])
      clear hvb HS HC
      go_wp2_with fail
      refine wp_region_ext (by kernel_rfl) (by kernel_rfl) ?_
      repeat (first | go_big_quiet_step ((go_at_call 79; exact Calls.ext_of (HV.out _))) | quiet_step ((go_at_call 79; exact Calls.ext_of (HV.out _)))) 
      refine wpQuiet_nil ?_
      intro _ hw'
      obtain ⟨xq, hw''⟩ := hw'
      subst hw''
      go_wp2
      go_ret
      exact ⟨by rw [HD.out]; rfl, ex_⟩
  ·
   have hkz : ¬ ((k : Int) < (n : Int)) := by omega
   have HD : Hid (fb = true) := Lib.hid (by rw [HC.out, List.drop_eq_nil_of_le (by have := HN.out; omega), List.drop_eq_nil_of_le (by have := HK.out; omega)]; rfl)
   clear HC
   go_wp2
   go_ret
   exact ⟨by rw [HD.out]; rfl, ex_⟩
def befV (a b : VeA) : Bool := if a.id = b.id then (if a.s.1 = b.s.1 then decide (a.v.1 < b.v.1) else decide (a.s.1 < b.s.1)) else decide (a.id < b.id)
set_option maxRecDepth 100000 in
set_option maxHeartbeats 8000000 in
theorem before49_any (a b : VeA) (w : World) : Calls Tryz.prog 32 #[.agg #[.int .i64 a.id, .int .i64 a.sch, .slice a.row.A a.row.l.length a.row.c, .int .i64 a.v.1, .int .i64 a.v.2, .int .i64 a.s.1, .int .i64 a.s.2, .int .i64 a.by_, .int .i64 a.un], .agg #[.int .i64 b.id, .int .i64 b.sch, .slice b.row.A b.row.l.length b.row.c, .int .i64 b.v.1, .int .i64 b.v.2, .int .i64 b.s.1, .int .i64 b.s.2, .int .i64 b.by_, .int .i64 b.un]] w fun e w' => e = .returned (.bool (befV a b)) ∧ Ext w w' := by
 go_enter Tryz.func32, Tryz.ntmps32
 go_wp2
 all_goals go_ret
 all_goals refine ⟨?_, ex_⟩
 all_goals simp_all [befV]

def KQ (n1 : Nat) (l : List Int) (e : Ending) (w' : World) : Prop := ∃ (A : Option Addr) (c : Nat), e = .returned (.slice A n1 c) ∧ Hid (Rd w' 1 A n1 (ic l))
theorem KQ.mk (n1 : Nat) (l : List Int) (w' : World) (A : Option Addr) (c : Nat) (h : Rd w' 1 A n1 (ic l)) : KQ n1 l (.returned (.slice A n1 c)) w' := ⟨A, c, rfl, Lib.hid h⟩
set_option maxRecDepth 100000 in
set_option maxHeartbeats 8000000 in
theorem kinds2_any (s0 : ByteArray) (A1 K A3 A4 : Option Addr) (n1 m1 n2 kc n3 m3 n4 m4 : Nat) (cl : List Col) (w : World) (hn : cl.length = n1) (hC : Rd w 3 A1 n1 (cl.flatMap colc)) (hl : n1 ≤ 1048576) : Calls Tryz.prog 38 #[.agg #[.string s0, .slice A1 n1 m1, .slice K n2 kc, .slice A3 n3 m3, .slice A4 n4 m4]] w fun e w' => KQ n1 (cl.map Col.k) e w' ∧ Ext w w' := by
 have HN := Lib.hid hn
 clear hn
 go_enter Tryz.func38, Tryz.ntmps38
 go_wp2
 have hE0 : Ext (w.alloc (.cells #[.string s0, .slice A1 n1 m1, .slice K n2 kc, .slice A3 n3 m3, .slice A4 n4 m4] 27)) (((w.alloc (.cells #[.string s0, .slice A1 n1 m1, .slice K n2 kc, .slice A3 n3 m3, .slice A4 n4 m4] 27))).alloc (.cells #[] 3)) := ex_
 go_loopg [3, 4] n1 (fun g q ix wr => ∃ (k lc : Nat) (lA : Option Addr) (lk : List Int), q = .slice lA k lc ∧ ix = .int .i64 k ∧ k ≤ n1 ∧ n1 - k ≤ g ∧ Hid (lk = (cl.take k).map Col.k) ∧ Hid (wr.ownsRow ((w.alloc (.cells #[.string s0, .slice A1 n1 m1, .slice K n2 kc, .slice A3 n3 m3, .slice A4 n4 m4] 27))).heap.size 3 1 (.slice lA k lc) k (ic lk)) ∧ Ext (w.alloc (.cells #[.string s0, .slice A1 n1 m1, .slice K n2 kc, .slice A3 n3 m3, .slice A4 n4 m4] 27)) wr)
 case atStart => refine ⟨0, 0, _, [], rfl, rfl, by omega, by omega, Lib.hid rfl, Lib.hid (own_lit0d _ _ _ (Nat.le_refl _) _ _ (by simp [size_ext])), hE0⟩
 case round =>
  obtain ⟨k, lc, lA, lk, rfl, rfl, hk, hg, HLK, HO, hE⟩ := hrel
  obtain ⟨x, rfl⟩ := hE.get
  have HG := Lib.hid hg
  clear hg
  by_cases hlt : k < n1
  ·
   have hkz : (k : Int) < (n1 : Int) := by omega
   obtain ⟨cv, b, oo, hcv, rfl, hb, c0, c1, c2⟩ := hC.col HN.out hlt
   have HCV := Lib.hid hcv
   clear hcv
   go_wp2_with (at_builtin; (refine wpList_app _ rfl (.tmp 13) (.tmp 20) rfl elInt (w.alloc (.cells #[.string s0, .slice (some ⟨b, oo, none⟩) n1 m1, .slice K n2 kc, .slice A3 n3 m3, .slice A4 n4 m4] 27)) (ex_) _ k _ rfl (ownsRow_ext11 HO.out (ex_)) _ 1 1 (ic [cv.k]) rfl (Rd.lit _ #[.int .i64 cv.k] _ 1 1 rfl (by simp [size_ext])) (oneCell_ic _) (by unfold maxLen; omega) (by omega) ?_; intro v1 x4 ho1 _))
   obtain ⟨A4', c4, rfl, hd1, hd2⟩ := Own.form ho1
   have HO4 := Lib.hid ho1
   clear ho1
   go_wp2
   go_roundg (gk - 1)
   case rel => exact ⟨k + 1, c4, A4', lk ++ [cv.k], rfl, by go_num, by omega, by have := HG.out; omega, Lib.hid (by rw [HLK.out, List.take_add_one, HCV.out]; simp), Lib.hid (by rw [show ic (lk ++ [cv.k]) = ic lk ++ [.int .i64 cv.k] from List.map_append]; exact HO4.out), ex_⟩
   case measure => have := HG.out; omega
  ·
   have hkz : ¬ ((k : Int) < (n1 : Int)) := by omega
   have hkn : k = n1 := by omega
   have HRD : Hid (Rd (ext (w.alloc (.cells #[.string s0, .slice A1 n1 m1, .slice K n2 kc, .slice A3 n3 m3, .slice A4 n4 m4] 27)) x) 1 lA k (ic (cl.map Col.k))) := Lib.hid (by
    have h := HLK.out
    rw [List.take_of_length_le (by have := HN.out; omega)] at h
    rw [← h]
    exact Rd.of_own HO.out)
   subst hkn
   clear HO HLK
   go_wp2
   go_ret
   exact ⟨KQ.mk _ _ _ _ _ (HRD.out.ext (ex_)), ex_⟩

theorem Rd.ve9 {w : World} {A : Option Addr} {l : List VeA} {n : Nat} (h : Rd w 9 A n (l.flatMap encVe)) (hn : l.length = n) {k : Nat} (hk : k < n) :
  ∃ p b o, l[k]? = some p ∧ A = some ⟨b, o, none⟩ ∧ b < w.heap.size ∧ w.cell? ⟨b, o + k * 9, none⟩ = some (.int .i64 p.id) ∧ w.cell? ⟨b, o + k * 9 + 1, none⟩ = some (.int .i64 p.sch) ∧ w.cell? ⟨b, o + k * 9 + 2, none⟩ = some (.slice p.row.A p.row.l.length p.row.c) ∧ w.cell? ⟨b, o + k * 9 + 3, none⟩ = some (.int .i64 p.v.1) ∧ w.cell? ⟨b, o + k * 9 + 4, none⟩ = some (.int .i64 p.v.2) ∧ w.cell? ⟨b, o + k * 9 + 5, none⟩ = some (.int .i64 p.s.1) ∧ w.cell? ⟨b, o + k * 9 + 6, none⟩ = some (.int .i64 p.s.2) ∧ w.cell? ⟨b, o + k * 9 + 7, none⟩ = some (.int .i64 p.by_) ∧ w.cell? ⟨b, o + k * 9 + 8, none⟩ = some (.int .i64 p.un) := by
 have hk' : k < l.length := by omega
 obtain ⟨b, o, hA, hb, hc⟩ := h.2 (by omega)
 have f := fun j hj => fm_get (enc := encVe) (k := 9) (fun _ => rfl) l k hk' j hj
 refine ⟨l[k], b, o, List.getElem?_eq_getElem hk', hA, hb, hc _ _ (f 0 (by omega)), ?_, ?_, ?_, ?_, ?_, ?_, ?_, ?_⟩
 ·
  have := hc _ _ (f 1 (by omega)); rwa [← Nat.add_assoc] at this
 ·
  have := hc _ _ (f 2 (by omega)); rwa [← Nat.add_assoc] at this
 ·
  have := hc _ _ (f 3 (by omega)); rwa [← Nat.add_assoc] at this
 ·
  have := hc _ _ (f 4 (by omega)); rwa [← Nat.add_assoc] at this
 ·
  have := hc _ _ (f 5 (by omega)); rwa [← Nat.add_assoc] at this
 ·
  have := hc _ _ (f 6 (by omega)); rwa [← Nat.add_assoc] at this
 ·
  have := hc _ _ (f 7 (by omega)); rwa [← Nat.add_assoc] at this
 ·
  have := hc _ _ (f 8 (by omega)); rwa [← Nat.add_assoc] at this

def VsOk (w : World) (vs : List VeA) : Prop := ∀ p ∈ vs, Rd w 3 p.row.A p.row.l.length (vcl p.row.l) ∧ p.row.l.length ≤ 1048576 ∧ ∀ v ∈ p.row.l, v.t.size ≤ 9223372036854775807
theorem VsOk.ext {w w' : World} {vs : List VeA} (h : VsOk w vs) (e : Ext w w') : VsOk w' vs := fun p hp => ⟨(h p hp).1.ext e, (h p hp).2⟩
def VsL (w : World) (vs : List VeA) : Prop := ∀ p ∈ vs, Rd w 3 p.row.A p.row.l.length (vcl p.row.l) ∧ p.row.l.length ≤ 9223372036854775807 ∧ ∀ v ∈ p.row.l, v.t.size ≤ 9223372036854775807
theorem VsL.ext {w w' : World} {vs : List VeA} (h : VsL w vs) (e : Ext w w') : VsL w' vs := fun p hp => ⟨(h p hp).1.ext e, (h p hp).2⟩
def okV (kl : List Int) (p : VeA) : Prop := fitB p.row.l kl = true ∧ pvB p.v = true ∧ pvB p.s = true
def SndP (kl : List Int) (vs : List VeA) (k : Nat) : Prop := (∀ j p, j < k → vs[j]? = some p → okV kl p) ∧ ∀ j m p q, m < j → j < k → vs[j]? = some p → vs[m]? = some q → befV p q = true ∨ befV q p = true
theorem SndP.zero (kl : List Int) (vs : List VeA) : SndP kl vs 0 := ⟨fun _ _ h => absurd h (by omega), fun _ _ _ _ _ h => absurd h (by omega)⟩
theorem SndP.step {kl : List Int} {vs : List VeA} {k : Nat} {p : VeA} (h : SndP kl vs k) (hp : vs[k]? = some p) (ho : okV kl p) (hd : ∀ m q, m < k → vs[m]? = some q → befV p q = true ∨ befV q p = true) : SndP kl vs (k + 1) := by
 refine ⟨fun j q hj hq => ?_, fun j m a b hm hj ha hb => ?_⟩
 ·
  rcases Nat.lt_or_ge j k with h1 | h1
  ·
   exact h.1 j q h1 hq
  ·
   have : j = k := by omega
   subst this
   rw [hp] at hq
   injection hq with hq
   subst hq
   exact ho
 ·
  rcases Nat.lt_or_ge j k with h1 | h1
  ·
   exact h.2 j m a b hm h1 ha hb
  ·
   have : j = k := by omega
   subst this
   rw [hp] at ha
   injection ha with ha
   subst ha
   exact hd m b hm hb
def SnR (n1 n2 : Nat) (kl : List Int) (vs : List VeA) (e : Ending) : Prop := ∃ b, e = .returned (.bool b) ∧ (b = true → SndP kl vs vs.length ∧ n1 ≤ 1048576 ∧ n2 ≤ 1048576)

set_option maxRecDepth 100000 in
set_option maxHeartbeats 8000000 in
theorem sound_any (s0 : ByteArray) (A1 K A3 A4 : Option Addr) (n1 m1 n2 kc n3 m3 n4 m4 : Nat) (cl : List Col) (ks : List Int) (fl : List Fo) (es : List Ex) (css : List (List Value)) (L : Option Addr) (n lc : Nat) (vs : List VeA) (w : World) (hs0 : s0.size ≤ 9223372036854775807) (hT : TabOk w A1 K A3 A4 n1 n2 n3 n4 cl ks fl es css)
  (hn : vs.length = n) (hnb : n ≤ 9223372036854775807) (hL : Rd w 9 L n (vs.flatMap encVe)) (hV : VsL w vs) :
  Calls Tryz.prog 17 #[.agg #[.string s0, .slice A1 n1 m1, .slice K n2 kc, .slice A3 n3 m3, .slice A4 n4 m4], .slice L n lc] w fun e w' => SnR n1 n2 (cl.map Col.k) vs e ∧ Ext w w' := by
 have HTC := Lib.hid fun W (e : Ext w W) => tcheck_any s0 A1 K A3 A4 n1 m1 n2 kc n3 m3 n4 m4 cl ks fl es css W hs0 (hT.ext e)
 have HKI := Lib.hid fun (h12 : n1 ≤ 1048576) W (e : Ext w W) => kinds2_any s0 A1 K A3 A4 n1 m1 n2 kc n3 m3 n4 m4 cl W hT.cn (hT.c.ext e) h12
 have HCB : Hid ((cl.map Col.k).length = n1 ∧ n1 ≤ 9223372036854775807) := Lib.hid ⟨by rw [List.length_map]; exact hT.cn, hT.cb⟩
 have HN := Lib.hid hn
 have HV := Lib.hid hV
 clear hT hs0 hn hV
 generalize cl.map Col.k = kl at *
 go_enter Tryz.func17, Tryz.ntmps17
 go_wp2_with fail
 refine (HTC.out _ (ex_)).mono ?_
 rintro e w1 ⟨⟨f, rfl, hf1⟩, hb1⟩
 obtain ⟨x1, rfl⟩ := hb1.get
 clear hb1
 clear HTC
 have HF1 := Lib.hid hf1
 clear hf1
 by_cases hf : f = 0
 case neg =>
  go_wp2
  go_ret
  exact ⟨⟨false, rfl, fun h => by cases h⟩, ex_⟩
 subst hf
 have HKJ := Lib.hid (HKI.out (by have := (HF1.out rfl).1; omega))
 clear HKI
 have HKI := HKJ
 clear HKJ
 have HBD : Hid (n1 ≤ 1048576 ∧ n2 ≤ 1048576) := Lib.hid ⟨by have := (HF1.out rfl).1; omega, by have := HF1.out rfl; omega⟩
 clear HF1
 go_wp2
 go_loopg [5, 6] n (fun g ix v6 wr => ∃ k : Nat, ix = .int .i64 k ∧ k ≤ n ∧ n - k ≤ g ∧ Hid (SndP kl vs k) ∧ Ext (w.alloc (.cells #[.string s0, .slice A1 n1 m1, .slice K n2 kc, .slice A3 n3 m3, .slice A4 n4 m4] 27)) wr)
 case atStart => exact ⟨0, rfl, by omega, by omega, Lib.hid (SndP.zero _ _), ex_⟩
 case round =>
  obtain ⟨k, rfl, hk, hg, HSP, hE⟩ := hrel
  obtain ⟨x, rfl⟩ := hE.get
  clear hE
  have HG := Lib.hid hg
  clear hg
  by_cases hlt : k < n
  ·
   have hkz : (k : Int) < (n : Int) := by omega
   obtain ⟨p, b, oo, hpi, rfl, hb, c0, c1, c2, c3, c4, c5, c6, c7, c8⟩ := hL.ve9 HN.out hlt
   have HPI := Lib.hid hpi
   have hro := HV.out p (List.mem_of_getElem? hpi)
   clear hpi
   obtain ⟨fb, hfb⟩ : ∃ c, fitB p.row.l kl = c := ⟨_, rfl⟩
   obtain ⟨pv, hpv⟩ : ∃ c, pvB p.v = c := ⟨_, rfl⟩
   obtain ⟨ps, hps⟩ : ∃ c, pvB p.s = c := ⟨_, rfl⟩
   have HFI : Hid (∀ W, Ext w W → ∀ (Ak : Option Addr) (ck : Nat), Rd W 1 Ak n1 (ic kl) → Calls Tryz.prog 37 #[.slice p.row.A p.row.l.length p.row.c, .slice Ak n1 ck] W fun e w' => e = .returned (.bool fb) ∧ Ext W w') := Lib.hid fun W e Ak ck h => by
    rw [← hfb]
    exact fits_any _ _ _ _ _ _ _ _ _ rfl HCB.out.1 (hro.1.ext e) h hro.2.1 HCB.out.2 hro.2.2
   have HPV : Hid (∀ W, Calls Tryz.prog 39 #[.agg #[.int .i64 p.v.1, .int .i64 p.v.2]] W fun e w' => e = .returned (.bool pv) ∧ Ext W w') := Lib.hid fun W => by rw [← hpv]; exact rvalid_any p.v W
   have HPS : Hid (∀ W, Calls Tryz.prog 39 #[.agg #[.int .i64 p.s.1, .int .i64 p.s.2]] W fun e w' => e = .returned (.bool ps) ∧ Ext W w') := Lib.hid fun W => by rw [← hps]; exact rvalid_any p.s W
   have HOE : Hid (fitB p.row.l kl = fb ∧ pvB p.v = pv ∧ pvB p.s = ps) := Lib.hid ⟨hfb, hpv, hps⟩
   clear hfb hpv hps hro
   cases fb
   ·
    go_wp2_with fail
    refine wp_region_held_drew (S := (fun w' => w'.cell? ⟨w.heap.size, 0, none⟩ = some (.string s0) ∧ w'.cell? ⟨w.heap.size, 1, none⟩ = some (.slice A1 n1 m1) ∧ w'.cell? ⟨w.heap.size, 2, none⟩ = some (.slice K n2 kc) ∧ w'.cell? ⟨w.heap.size, 3, none⟩ = some (.slice A3 n3 m3) ∧ w'.cell? ⟨w.heap.size, 4, none⟩ = some (.slice A4 n4 m4) ∧ w'.cell? ⟨b, oo + k * 9, none⟩ = some (.int .i64 p.id) ∧ w'.cell? ⟨b, oo + k * 9 + 1, none⟩ = some (.int .i64 p.sch) ∧ w'.cell? ⟨b, oo + k * 9 + 2, none⟩ = some (.slice p.row.A p.row.l.length p.row.c) ∧ w'.cell? ⟨b, oo + k * 9 + 3, none⟩ = some (.int .i64 p.v.1) ∧ w'.cell? ⟨b, oo + k * 9 + 4, none⟩ = some (.int .i64 p.v.2) ∧ w'.cell? ⟨b, oo + k * 9 + 5, none⟩ = some (.int .i64 p.s.1) ∧ w'.cell? ⟨b, oo + k * 9 + 6, none⟩ = some (.int .i64 p.s.2) ∧ w'.cell? ⟨b, oo + k * 9 + 7, none⟩ = some (.int .i64 p.by_) ∧ w'.cell? ⟨b, oo + k * 9 + 8, none⟩ = some (.int .i64 p.un))) (by kernel_rfl) (by simp [go_sem, ↓IntWalk.iteOmega, *]) (fun hHeld => ?_)
    refine tkH 0 ?oi101 (?v101) ?hi101 ?hy101 ?_
    case hi101 => (simp only [gA, gS, gZ]; try rfl)
    case hy101 => (refine Or.inl ⟨by rfl, ?_⟩; intro wq hSw; (try dsimp only at hSw); go_simp; (try with_reducible rfl))
    (try simp only [Act.put, pA, pZ, pS])
    refine tkH 1 ?oi102 (?v102) ?hi102 ?hy102 ?_
    case hi102 => (simp only [gA, gS, gZ]; try rfl)
    case hy102 => (refine Or.inl ⟨by rfl, ?_⟩; intro wq hSw; (try dsimp only at hSw); go_simp; (try with_reducible rfl))
    (try simp only [Act.put, pA, pZ, pS])
    refine tkH 2 ?oi103 (?v103) ?hi103 ?hy103 ?_
    case hi103 => (simp only [gA, gS, gZ]; try rfl)
    case hy103 => (refine Or.inl ⟨by rfl, ?_⟩; intro wq hSw; (try dsimp only at hSw); go_simp; (try with_reducible rfl))
    (try simp only [Act.put, pA, pZ, pS])
    refine tkH 3 ?oi104 (?v104) ?hi104 ?hy104 ?_
    case hi104 => (simp only [gA, gS, gZ]; try rfl)
    case hy104 => (refine Or.inl ⟨by rfl, ?_⟩; intro wq hSw; (try dsimp only at hSw); go_simp; (try with_reducible rfl))
    (try simp only [Act.put, pA, pZ, pS])
    refine tkH 4 ?oi105 (?v105) ?hi105 ?hy105 ?_
    case hi105 => (simp only [gA, gS, gZ]; try rfl)
    case hy105 => (refine Or.inl ⟨by rfl, ?_⟩; intro wq hSw; (try dsimp only at hSw); go_simp; (try with_reducible rfl))
    (try simp only [Act.put, pA, pZ, pS])
    refine tkH 5 ?oi106 (?v106) ?hi106 ?hy106 ?_
    case hi106 => (simp only [gA, gS, gZ]; try rfl)
    case hy106 => (refine Or.inl ⟨by rfl, ?_⟩; intro wq hSw; (try dsimp only at hSw); go_simp; (try with_reducible rfl))
    (try simp only [Act.put, pA, pZ, pS])
    refine wpAnyH_ready (rs := [6]) (by kernel_rfl) (by simp) ?_
    refine AllReadyH.cons (o := ?oi107) ?hi107 ?ti107 AllReadyH.nil
    case hi107 => (simp only [gA, gS, gZ]; try rfl)
    case ti107 =>
     intro KQ hKQ
     go_simp
     go_at_call 38
     refine Calls.mono (HKI.out _ (ex_)) ?_
     rintro e w1 ⟨⟨Ak, ck, rfl, HRK⟩, hb1⟩
     obtain ⟨x1, rfl⟩ := hb1.get
     clear hb1
     refine hKQ.out _ _ (by simp [go_sem, ↓IntWalk.iteOmega, *]) (fun hHeld2 => ?_)
     clear hHeld hKQ KQ; have hHeld := hHeld2; clear hHeld2
     (try simp only [Act.put, pA, pZ, pS])
     refine wpAnyH_ready (rs := [7]) (by kernel_rfl) (by simp) ?_
     refine AllReadyH.cons (o := ?oi108) ?hi108 ?ti108 AllReadyH.nil
     case hi108 => (simp only [gA, gS, gZ]; try rfl)
     case ti108 =>
      intro KQ hKQ
      go_simp
      go_at_call 37
      refine Calls.mono (HFI.out _ (ex_) Ak ck (HRK.out.ext (ex_))) ?_
      rintro e w1 ⟨rfl, hb1⟩
      obtain ⟨x2, rfl⟩ := hb1.get
      clear hb1
      refine hKQ.out _ _ (by simp [go_sem, ↓IntWalk.iteOmega, *]) (fun hHeld2 => ?_)
      clear hHeld hKQ KQ; have hHeld := hHeld2; clear hHeld2
      (try simp only [Act.put, pA, pZ, pS])
      refine tkH 8 ?oi109 (?v109) ?hi109 ?hy109 ?_
      case hi109 => (simp only [gA, gS, gZ]; try rfl)
      case hy109 => (refine Or.inl ⟨by rfl, ?_⟩; intro wq hSw; (try dsimp only at hSw); go_simp; (try with_reducible rfl))
      (try simp only [Act.put, pA, pZ, pS])
      refine tkH 9 ?oi110 (?v110) ?hi110 ?hy110 ?_
      case hi110 => (simp only [gA, gS, gZ]; try rfl)
      case hy110 => (refine Or.inl ⟨by rfl, ?_⟩; intro wq hSw; (try dsimp only at hSw); go_simp; (try with_reducible rfl))
      (try simp only [Act.put, pA, pZ, pS])
      refine tkH 10 ?oi111 (undef) ?hi111 ?hy111 ?_
      case hi111 => (simp only [gA, gS, gZ]; try rfl)
      case hy111 => exact Or.inr ⟨by rfl, rfl⟩
      (try simp only [Act.put, pA, pZ, pS])
      refine tkH 11 ?oi112 (undef) ?hi112 ?hy112 ?_
      case hi112 => (simp only [gA, gS, gZ]; try rfl)
      case hy112 => exact Or.inr ⟨by rfl, rfl⟩
      (try simp only [Act.put, pA, pZ, pS])
      refine tkH 12 ?oi113 (undef) ?hi113 ?hy113 ?_
      case hi113 => (simp only [gA, gS, gZ]; try rfl)
      case hy113 => exact Or.inr ⟨by rfl, rfl⟩
      (try simp only [Act.put, pA, pZ, pS])
      refine tkH 13 ?oi114 (undef) ?hi114 ?hy114 ?_
      case hi114 => (simp only [gA, gS, gZ]; try rfl)
      case hy114 => exact Or.inr ⟨by rfl, rfl⟩
      (try simp only [Act.put, pA, pZ, pS])
      refine tkH 14 ?oi115 (undef) ?hi115 ?hy115 ?_
      case hi115 => (simp only [gA, gS, gZ]; try rfl)
      case hy115 => exact Or.inr ⟨by rfl, rfl⟩
      (try simp only [Act.put, pA, pZ, pS])
      refine tkH 15 ?oi116 (undef) ?hi116 ?hy116 ?_
      case hi116 => (simp only [gA, gS, gZ]; try rfl)
      case hy116 => exact Or.inr ⟨by rfl, rfl⟩
      (try simp only [Act.put, pA, pZ, pS])
      refine tkH 16 ?oi117 (undef) ?hi117 ?hy117 ?_
      case hi117 => (simp only [gA, gS, gZ]; try rfl)
      case hy117 => exact Or.inr ⟨by rfl, rfl⟩
      (try simp only [Act.put, pA, pZ, pS])
      refine tkH 17 ?oi118 (?v118) ?hi118 ?hy118 ?_
      case hi118 => (simp only [gA, gS, gZ]; try rfl)
      case hy118 => (refine Or.inl ⟨by rfl, ?_⟩; intro wq hSw; (try dsimp only at hSw); go_simp; (try with_reducible rfl))
      (try simp only [Act.put, pA, pZ, pS])
      refine tkH 18 ?oi119 (?v119) ?hi119 ?hy119 ?_
      case hi119 => (simp only [gA, gS, gZ]; try rfl)
      case hy119 => (refine Or.inl ⟨by rfl, ?_⟩; intro wq hSw; (try dsimp only at hSw); go_simp; (try with_reducible rfl))
      (try simp only [Act.put, pA, pZ, pS])
      refine tkH 19 ?oi120 (undef) ?hi120 ?hy120 ?_
      case hi120 => (simp only [gA, gS, gZ]; try rfl)
      case hy120 => exact Or.inr ⟨by rfl, rfl⟩
      (try simp only [Act.put, pA, pZ, pS])
      refine tkH 20 ?oi121 (undef) ?hi121 ?hy121 ?_
      case hi121 => (simp only [gA, gS, gZ]; try rfl)
      case hy121 => exact Or.inr ⟨by rfl, rfl⟩
      (try simp only [Act.put, pA, pZ, pS])
      refine tkH 21 ?oi122 (undef) ?hi122 ?hy122 ?_
      case hi122 => (simp only [gA, gS, gZ]; try rfl)
      case hy122 => exact Or.inr ⟨by rfl, rfl⟩
      (try simp only [Act.put, pA, pZ, pS])
      refine tkH 22 ?oi123 (undef) ?hi123 ?hy123 ?_
      case hi123 => (simp only [gA, gS, gZ]; try rfl)
      case hy123 => exact Or.inr ⟨by rfl, rfl⟩
      (try simp only [Act.put, pA, pZ, pS])
      refine tkH 23 ?oi124 (undef) ?hi124 ?hy124 ?_
      case hi124 => (simp only [gA, gS, gZ]; try rfl)
      case hy124 => exact Or.inr ⟨by rfl, rfl⟩
      (try simp only [Act.put, pA, pZ, pS])
      refine tkH 24 ?oi125 (undef) ?hi125 ?hy125 ?_
      case hi125 => (simp only [gA, gS, gZ]; try rfl)
      case hy125 => exact Or.inr ⟨by rfl, rfl⟩
      (try simp only [Act.put, pA, pZ, pS])
      refine tkH 25 ?oi126 (undef) ?hi126 ?hy126 ?_
      case hi126 => (simp only [gA, gS, gZ]; try rfl)
      case hy126 => exact Or.inr ⟨by rfl, rfl⟩
      (try simp only [Act.put, pA, pZ, pS])
      refine tkH 26 ?oi127 (?v127) ?hi127 ?hy127 ?_
      case hi127 => (simp only [gA, gS, gZ]; try rfl)
      case hy127 => (refine Or.inl ⟨by rfl, ?_⟩; intro wq hSw; (try dsimp only at hSw); go_simp; (try with_reducible rfl))
      (try simp only [Act.put, pA, pZ, pS])
      refine wpAnyH_done (by kernel_rfl) ?_ _
      go_wp2
      go_ret
      exact ⟨⟨false, rfl, fun h => by cases h⟩, ex_⟩
   cases pv
   ·
    go_wp2_with fail
    refine wp_region_held_drew (S := (fun w' => w'.cell? ⟨w.heap.size, 0, none⟩ = some (.string s0) ∧ w'.cell? ⟨w.heap.size, 1, none⟩ = some (.slice A1 n1 m1) ∧ w'.cell? ⟨w.heap.size, 2, none⟩ = some (.slice K n2 kc) ∧ w'.cell? ⟨w.heap.size, 3, none⟩ = some (.slice A3 n3 m3) ∧ w'.cell? ⟨w.heap.size, 4, none⟩ = some (.slice A4 n4 m4) ∧ w'.cell? ⟨b, oo + k * 9, none⟩ = some (.int .i64 p.id) ∧ w'.cell? ⟨b, oo + k * 9 + 1, none⟩ = some (.int .i64 p.sch) ∧ w'.cell? ⟨b, oo + k * 9 + 2, none⟩ = some (.slice p.row.A p.row.l.length p.row.c) ∧ w'.cell? ⟨b, oo + k * 9 + 3, none⟩ = some (.int .i64 p.v.1) ∧ w'.cell? ⟨b, oo + k * 9 + 4, none⟩ = some (.int .i64 p.v.2) ∧ w'.cell? ⟨b, oo + k * 9 + 5, none⟩ = some (.int .i64 p.s.1) ∧ w'.cell? ⟨b, oo + k * 9 + 6, none⟩ = some (.int .i64 p.s.2) ∧ w'.cell? ⟨b, oo + k * 9 + 7, none⟩ = some (.int .i64 p.by_) ∧ w'.cell? ⟨b, oo + k * 9 + 8, none⟩ = some (.int .i64 p.un))) (by kernel_rfl) (by simp [go_sem, ↓IntWalk.iteOmega, *]) (fun hHeld => ?_)
    refine tkH 0 ?oi201 (?v201) ?hi201 ?hy201 ?_
    case hi201 => (simp only [gA, gS, gZ]; try rfl)
    case hy201 => (refine Or.inl ⟨by rfl, ?_⟩; intro wq hSw; (try dsimp only at hSw); go_simp; (try with_reducible rfl))
    (try simp only [Act.put, pA, pZ, pS])
    refine tkH 1 ?oi202 (?v202) ?hi202 ?hy202 ?_
    case hi202 => (simp only [gA, gS, gZ]; try rfl)
    case hy202 => (refine Or.inl ⟨by rfl, ?_⟩; intro wq hSw; (try dsimp only at hSw); go_simp; (try with_reducible rfl))
    (try simp only [Act.put, pA, pZ, pS])
    refine tkH 2 ?oi203 (?v203) ?hi203 ?hy203 ?_
    case hi203 => (simp only [gA, gS, gZ]; try rfl)
    case hy203 => (refine Or.inl ⟨by rfl, ?_⟩; intro wq hSw; (try dsimp only at hSw); go_simp; (try with_reducible rfl))
    (try simp only [Act.put, pA, pZ, pS])
    refine tkH 3 ?oi204 (?v204) ?hi204 ?hy204 ?_
    case hi204 => (simp only [gA, gS, gZ]; try rfl)
    case hy204 => (refine Or.inl ⟨by rfl, ?_⟩; intro wq hSw; (try dsimp only at hSw); go_simp; (try with_reducible rfl))
    (try simp only [Act.put, pA, pZ, pS])
    refine tkH 4 ?oi205 (?v205) ?hi205 ?hy205 ?_
    case hi205 => (simp only [gA, gS, gZ]; try rfl)
    case hy205 => (refine Or.inl ⟨by rfl, ?_⟩; intro wq hSw; (try dsimp only at hSw); go_simp; (try with_reducible rfl))
    (try simp only [Act.put, pA, pZ, pS])
    refine tkH 5 ?oi206 (?v206) ?hi206 ?hy206 ?_
    case hi206 => (simp only [gA, gS, gZ]; try rfl)
    case hy206 => (refine Or.inl ⟨by rfl, ?_⟩; intro wq hSw; (try dsimp only at hSw); go_simp; (try with_reducible rfl))
    (try simp only [Act.put, pA, pZ, pS])
    refine wpAnyH_ready (rs := [6]) (by kernel_rfl) (by simp) ?_
    refine AllReadyH.cons (o := ?oi207) ?hi207 ?ti207 AllReadyH.nil
    case hi207 => (simp only [gA, gS, gZ]; try rfl)
    case ti207 =>
     intro KQ hKQ
     go_simp
     go_at_call 38
     refine Calls.mono (HKI.out _ (ex_)) ?_
     rintro e w1 ⟨⟨Ak, ck, rfl, HRK⟩, hb1⟩
     obtain ⟨x1, rfl⟩ := hb1.get
     clear hb1
     refine hKQ.out _ _ (by simp [go_sem, ↓IntWalk.iteOmega, *]) (fun hHeld2 => ?_)
     clear hHeld hKQ KQ; have hHeld := hHeld2; clear hHeld2
     (try simp only [Act.put, pA, pZ, pS])
     refine wpAnyH_ready (rs := [7]) (by kernel_rfl) (by simp) ?_
     refine AllReadyH.cons (o := ?oi208) ?hi208 ?ti208 AllReadyH.nil
     case hi208 => (simp only [gA, gS, gZ]; try rfl)
     case ti208 =>
      intro KQ hKQ
      go_simp
      go_at_call 37
      refine Calls.mono (HFI.out _ (ex_) Ak ck (HRK.out.ext (ex_))) ?_
      rintro e w1 ⟨rfl, hb1⟩
      obtain ⟨x2, rfl⟩ := hb1.get
      clear hb1
      refine hKQ.out _ _ (by simp [go_sem, ↓IntWalk.iteOmega, *]) (fun hHeld2 => ?_)
      clear hHeld hKQ KQ; have hHeld := hHeld2; clear hHeld2
      (try simp only [Act.put, pA, pZ, pS])
      refine tkH 8 ?oi209 (?v209) ?hi209 ?hy209 ?_
      case hi209 => (simp only [gA, gS, gZ]; try rfl)
      case hy209 => (refine Or.inl ⟨by rfl, ?_⟩; intro wq hSw; (try dsimp only at hSw); go_simp; (try with_reducible rfl))
      (try simp only [Act.put, pA, pZ, pS])
      refine tkH 9 ?oi210 (?v210) ?hi210 ?hy210 ?_
      case hi210 => (simp only [gA, gS, gZ]; try rfl)
      case hy210 => (refine Or.inl ⟨by rfl, ?_⟩; intro wq hSw; (try dsimp only at hSw); go_simp; (try with_reducible rfl))
      (try simp only [Act.put, pA, pZ, pS])
      refine tkH 10 ?oi211 (?v211) ?hi211 ?hy211 ?_
      case hi211 => (simp only [gA, gS, gZ]; try rfl)
      case hy211 => (refine Or.inl ⟨by rfl, ?_⟩; intro wq hSw; (try dsimp only at hSw); go_simp; (try with_reducible rfl))
      (try simp only [Act.put, pA, pZ, pS])
      refine tkH 11 ?oi212 (?v212) ?hi212 ?hy212 ?_
      case hi212 => (simp only [gA, gS, gZ]; try rfl)
      case hy212 => (refine Or.inl ⟨by rfl, ?_⟩; intro wq hSw; (try dsimp only at hSw); go_simp; (try with_reducible rfl))
      (try simp only [Act.put, pA, pZ, pS])
      refine tkH 12 ?oi213 (?v213) ?hi213 ?hy213 ?_
      case hi213 => (simp only [gA, gS, gZ]; try rfl)
      case hy213 => (refine Or.inl ⟨by rfl, ?_⟩; intro wq hSw; (try dsimp only at hSw); go_simp; (try with_reducible rfl))
      (try simp only [Act.put, pA, pZ, pS])
      refine tkH 13 ?oi214 (?v214) ?hi214 ?hy214 ?_
      case hi214 => (simp only [gA, gS, gZ]; try rfl)
      case hy214 => (refine Or.inl ⟨by rfl, ?_⟩; intro wq hSw; (try dsimp only at hSw); go_simp; (try with_reducible rfl))
      (try simp only [Act.put, pA, pZ, pS])
      refine tkH 14 ?oi215 (?v215) ?hi215 ?hy215 ?_
      case hi215 => (simp only [gA, gS, gZ]; try rfl)
      case hy215 => (refine Or.inl ⟨by rfl, ?_⟩; intro wq hSw; (try dsimp only at hSw); go_simp; (try with_reducible rfl))
      (try simp only [Act.put, pA, pZ, pS])
      refine wpAnyH_ready (rs := [15]) (by kernel_rfl) (by simp) ?_
      refine AllReadyH.cons (o := ?oi216) ?hi216 ?ti216 AllReadyH.nil
      case hi216 => (simp only [gA, gS, gZ]; try rfl)
      case ti216 =>
       intro KQ hKQ
       go_simp
       go_at_call 39
       refine Calls.mono (HPV.out _) ?_
       rintro e w1 ⟨rfl, hb1⟩
       obtain ⟨x3, rfl⟩ := hb1.get
       clear hb1
       refine hKQ.out _ _ (by simp [go_sem, ↓IntWalk.iteOmega, *]) (fun hHeld2 => ?_)
       clear hHeld hKQ KQ; have hHeld := hHeld2; clear hHeld2
       (try simp only [Act.put, pA, pZ, pS])
       refine tkH 16 ?oi217 (?v217) ?hi217 ?hy217 ?_
       case hi217 => (simp only [gA, gS, gZ]; try rfl)
       case hy217 => (refine Or.inl ⟨by rfl, ?_⟩; intro wq hSw; (try dsimp only at hSw); go_simp; (try with_reducible rfl))
       (try simp only [Act.put, pA, pZ, pS])
       refine tkH 17 ?oi218 (?v218) ?hi218 ?hy218 ?_
       case hi218 => (simp only [gA, gS, gZ]; try rfl)
       case hy218 => (refine Or.inl ⟨by rfl, ?_⟩; intro wq hSw; (try dsimp only at hSw); go_simp; (try with_reducible rfl))
       (try simp only [Act.put, pA, pZ, pS])
       refine tkH 18 ?oi219 (?v219) ?hi219 ?hy219 ?_
       case hi219 => (simp only [gA, gS, gZ]; try rfl)
       case hy219 => (refine Or.inl ⟨by rfl, ?_⟩; intro wq hSw; (try dsimp only at hSw); go_simp; (try with_reducible rfl))
       (try simp only [Act.put, pA, pZ, pS])
       refine tkH 19 ?oi220 (undef) ?hi220 ?hy220 ?_
       case hi220 => (simp only [gA, gS, gZ]; try rfl)
       case hy220 => exact Or.inr ⟨by rfl, rfl⟩
       (try simp only [Act.put, pA, pZ, pS])
       refine tkH 20 ?oi221 (undef) ?hi221 ?hy221 ?_
       case hi221 => (simp only [gA, gS, gZ]; try rfl)
       case hy221 => exact Or.inr ⟨by rfl, rfl⟩
       (try simp only [Act.put, pA, pZ, pS])
       refine tkH 21 ?oi222 (undef) ?hi222 ?hy222 ?_
       case hi222 => (simp only [gA, gS, gZ]; try rfl)
       case hy222 => exact Or.inr ⟨by rfl, rfl⟩
       (try simp only [Act.put, pA, pZ, pS])
       refine tkH 22 ?oi223 (undef) ?hi223 ?hy223 ?_
       case hi223 => (simp only [gA, gS, gZ]; try rfl)
       case hy223 => exact Or.inr ⟨by rfl, rfl⟩
       (try simp only [Act.put, pA, pZ, pS])
       refine tkH 23 ?oi224 (undef) ?hi224 ?hy224 ?_
       case hi224 => (simp only [gA, gS, gZ]; try rfl)
       case hy224 => exact Or.inr ⟨by rfl, rfl⟩
       (try simp only [Act.put, pA, pZ, pS])
       refine tkH 24 ?oi225 (undef) ?hi225 ?hy225 ?_
       case hi225 => (simp only [gA, gS, gZ]; try rfl)
       case hy225 => exact Or.inr ⟨by rfl, rfl⟩
       (try simp only [Act.put, pA, pZ, pS])
       refine tkH 25 ?oi226 (undef) ?hi226 ?hy226 ?_
       case hi226 => (simp only [gA, gS, gZ]; try rfl)
       case hy226 => exact Or.inr ⟨by rfl, rfl⟩
       (try simp only [Act.put, pA, pZ, pS])
       refine tkH 26 ?oi227 (?v227) ?hi227 ?hy227 ?_
       case hi227 => (simp only [gA, gS, gZ]; try rfl)
       case hy227 => (refine Or.inl ⟨by rfl, ?_⟩; intro wq hSw; (try dsimp only at hSw); go_simp; (try with_reducible rfl))
       (try simp only [Act.put, pA, pZ, pS])
       refine wpAnyH_done (by kernel_rfl) ?_ _
       go_wp2
       go_ret
       exact ⟨⟨false, rfl, fun h => by cases h⟩, ex_⟩
   cases ps
   ·
    go_wp2_with fail
    refine wp_region_held_drew (S := (fun w' => w'.cell? ⟨w.heap.size, 0, none⟩ = some (.string s0) ∧ w'.cell? ⟨w.heap.size, 1, none⟩ = some (.slice A1 n1 m1) ∧ w'.cell? ⟨w.heap.size, 2, none⟩ = some (.slice K n2 kc) ∧ w'.cell? ⟨w.heap.size, 3, none⟩ = some (.slice A3 n3 m3) ∧ w'.cell? ⟨w.heap.size, 4, none⟩ = some (.slice A4 n4 m4) ∧ w'.cell? ⟨b, oo + k * 9, none⟩ = some (.int .i64 p.id) ∧ w'.cell? ⟨b, oo + k * 9 + 1, none⟩ = some (.int .i64 p.sch) ∧ w'.cell? ⟨b, oo + k * 9 + 2, none⟩ = some (.slice p.row.A p.row.l.length p.row.c) ∧ w'.cell? ⟨b, oo + k * 9 + 3, none⟩ = some (.int .i64 p.v.1) ∧ w'.cell? ⟨b, oo + k * 9 + 4, none⟩ = some (.int .i64 p.v.2) ∧ w'.cell? ⟨b, oo + k * 9 + 5, none⟩ = some (.int .i64 p.s.1) ∧ w'.cell? ⟨b, oo + k * 9 + 6, none⟩ = some (.int .i64 p.s.2) ∧ w'.cell? ⟨b, oo + k * 9 + 7, none⟩ = some (.int .i64 p.by_) ∧ w'.cell? ⟨b, oo + k * 9 + 8, none⟩ = some (.int .i64 p.un))) (by kernel_rfl) (by simp [go_sem, ↓IntWalk.iteOmega, *]) (fun hHeld => ?_)
    refine tkH 0 ?oi301 (?v301) ?hi301 ?hy301 ?_
    case hi301 => (simp only [gA, gS, gZ]; try rfl)
    case hy301 => (refine Or.inl ⟨by rfl, ?_⟩; intro wq hSw; (try dsimp only at hSw); go_simp; (try with_reducible rfl))
    (try simp only [Act.put, pA, pZ, pS])
    refine tkH 1 ?oi302 (?v302) ?hi302 ?hy302 ?_
    case hi302 => (simp only [gA, gS, gZ]; try rfl)
    case hy302 => (refine Or.inl ⟨by rfl, ?_⟩; intro wq hSw; (try dsimp only at hSw); go_simp; (try with_reducible rfl))
    (try simp only [Act.put, pA, pZ, pS])
    refine tkH 2 ?oi303 (?v303) ?hi303 ?hy303 ?_
    case hi303 => (simp only [gA, gS, gZ]; try rfl)
    case hy303 => (refine Or.inl ⟨by rfl, ?_⟩; intro wq hSw; (try dsimp only at hSw); go_simp; (try with_reducible rfl))
    (try simp only [Act.put, pA, pZ, pS])
    refine tkH 3 ?oi304 (?v304) ?hi304 ?hy304 ?_
    case hi304 => (simp only [gA, gS, gZ]; try rfl)
    case hy304 => (refine Or.inl ⟨by rfl, ?_⟩; intro wq hSw; (try dsimp only at hSw); go_simp; (try with_reducible rfl))
    (try simp only [Act.put, pA, pZ, pS])
    refine tkH 4 ?oi305 (?v305) ?hi305 ?hy305 ?_
    case hi305 => (simp only [gA, gS, gZ]; try rfl)
    case hy305 => (refine Or.inl ⟨by rfl, ?_⟩; intro wq hSw; (try dsimp only at hSw); go_simp; (try with_reducible rfl))
    (try simp only [Act.put, pA, pZ, pS])
    refine tkH 5 ?oi306 (?v306) ?hi306 ?hy306 ?_
    case hi306 => (simp only [gA, gS, gZ]; try rfl)
    case hy306 => (refine Or.inl ⟨by rfl, ?_⟩; intro wq hSw; (try dsimp only at hSw); go_simp; (try with_reducible rfl))
    (try simp only [Act.put, pA, pZ, pS])
    refine wpAnyH_ready (rs := [6]) (by kernel_rfl) (by simp) ?_
    refine AllReadyH.cons (o := ?oi307) ?hi307 ?ti307 AllReadyH.nil
    case hi307 => (simp only [gA, gS, gZ]; try rfl)
    case ti307 =>
     intro KQ hKQ
     go_simp
     go_at_call 38
     refine Calls.mono (HKI.out _ (ex_)) ?_
     rintro e w1 ⟨⟨Ak, ck, rfl, HRK⟩, hb1⟩
     obtain ⟨x1, rfl⟩ := hb1.get
     clear hb1
     refine hKQ.out _ _ (by simp [go_sem, ↓IntWalk.iteOmega, *]) (fun hHeld2 => ?_)
     clear hHeld hKQ KQ; have hHeld := hHeld2; clear hHeld2
     (try simp only [Act.put, pA, pZ, pS])
     refine wpAnyH_ready (rs := [7]) (by kernel_rfl) (by simp) ?_
     refine AllReadyH.cons (o := ?oi308) ?hi308 ?ti308 AllReadyH.nil
     case hi308 => (simp only [gA, gS, gZ]; try rfl)
     case ti308 =>
      intro KQ hKQ
      go_simp
      go_at_call 37
      refine Calls.mono (HFI.out _ (ex_) Ak ck (HRK.out.ext (ex_))) ?_
      rintro e w1 ⟨rfl, hb1⟩
      obtain ⟨x2, rfl⟩ := hb1.get
      clear hb1
      refine hKQ.out _ _ (by simp [go_sem, ↓IntWalk.iteOmega, *]) (fun hHeld2 => ?_)
      clear hHeld hKQ KQ; have hHeld := hHeld2; clear hHeld2
      (try simp only [Act.put, pA, pZ, pS])
      refine tkH 8 ?oi309 (?v309) ?hi309 ?hy309 ?_
      case hi309 => (simp only [gA, gS, gZ]; try rfl)
      case hy309 => (refine Or.inl ⟨by rfl, ?_⟩; intro wq hSw; (try dsimp only at hSw); go_simp; (try with_reducible rfl))
      (try simp only [Act.put, pA, pZ, pS])
      refine tkH 9 ?oi310 (?v310) ?hi310 ?hy310 ?_
      case hi310 => (simp only [gA, gS, gZ]; try rfl)
      case hy310 => (refine Or.inl ⟨by rfl, ?_⟩; intro wq hSw; (try dsimp only at hSw); go_simp; (try with_reducible rfl))
      (try simp only [Act.put, pA, pZ, pS])
      refine tkH 10 ?oi311 (?v311) ?hi311 ?hy311 ?_
      case hi311 => (simp only [gA, gS, gZ]; try rfl)
      case hy311 => (refine Or.inl ⟨by rfl, ?_⟩; intro wq hSw; (try dsimp only at hSw); go_simp; (try with_reducible rfl))
      (try simp only [Act.put, pA, pZ, pS])
      refine tkH 11 ?oi312 (?v312) ?hi312 ?hy312 ?_
      case hi312 => (simp only [gA, gS, gZ]; try rfl)
      case hy312 => (refine Or.inl ⟨by rfl, ?_⟩; intro wq hSw; (try dsimp only at hSw); go_simp; (try with_reducible rfl))
      (try simp only [Act.put, pA, pZ, pS])
      refine tkH 12 ?oi313 (?v313) ?hi313 ?hy313 ?_
      case hi313 => (simp only [gA, gS, gZ]; try rfl)
      case hy313 => (refine Or.inl ⟨by rfl, ?_⟩; intro wq hSw; (try dsimp only at hSw); go_simp; (try with_reducible rfl))
      (try simp only [Act.put, pA, pZ, pS])
      refine tkH 13 ?oi314 (?v314) ?hi314 ?hy314 ?_
      case hi314 => (simp only [gA, gS, gZ]; try rfl)
      case hy314 => (refine Or.inl ⟨by rfl, ?_⟩; intro wq hSw; (try dsimp only at hSw); go_simp; (try with_reducible rfl))
      (try simp only [Act.put, pA, pZ, pS])
      refine tkH 14 ?oi315 (?v315) ?hi315 ?hy315 ?_
      case hi315 => (simp only [gA, gS, gZ]; try rfl)
      case hy315 => (refine Or.inl ⟨by rfl, ?_⟩; intro wq hSw; (try dsimp only at hSw); go_simp; (try with_reducible rfl))
      (try simp only [Act.put, pA, pZ, pS])
      refine wpAnyH_ready (rs := [15]) (by kernel_rfl) (by simp) ?_
      refine AllReadyH.cons (o := ?oi316) ?hi316 ?ti316 AllReadyH.nil
      case hi316 => (simp only [gA, gS, gZ]; try rfl)
      case ti316 =>
       intro KQ hKQ
       go_simp
       go_at_call 39
       refine Calls.mono (HPV.out _) ?_
       rintro e w1 ⟨rfl, hb1⟩
       obtain ⟨x3, rfl⟩ := hb1.get
       clear hb1
       refine hKQ.out _ _ (by simp [go_sem, ↓IntWalk.iteOmega, *]) (fun hHeld2 => ?_)
       clear hHeld hKQ KQ; have hHeld := hHeld2; clear hHeld2
       (try simp only [Act.put, pA, pZ, pS])
       refine tkH 16 ?oi317 (?v317) ?hi317 ?hy317 ?_
       case hi317 => (simp only [gA, gS, gZ]; try rfl)
       case hy317 => (refine Or.inl ⟨by rfl, ?_⟩; intro wq hSw; (try dsimp only at hSw); go_simp; (try with_reducible rfl))
       (try simp only [Act.put, pA, pZ, pS])
       refine tkH 17 ?oi318 (?v318) ?hi318 ?hy318 ?_
       case hi318 => (simp only [gA, gS, gZ]; try rfl)
       case hy318 => (refine Or.inl ⟨by rfl, ?_⟩; intro wq hSw; (try dsimp only at hSw); go_simp; (try with_reducible rfl))
       (try simp only [Act.put, pA, pZ, pS])
       refine tkH 18 ?oi319 (?v319) ?hi319 ?hy319 ?_
       case hi319 => (simp only [gA, gS, gZ]; try rfl)
       case hy319 => (refine Or.inl ⟨by rfl, ?_⟩; intro wq hSw; (try dsimp only at hSw); go_simp; (try with_reducible rfl))
       (try simp only [Act.put, pA, pZ, pS])
       refine tkH 19 ?oi320 (?v320) ?hi320 ?hy320 ?_
       case hi320 => (simp only [gA, gS, gZ]; try rfl)
       case hy320 => (refine Or.inl ⟨by rfl, ?_⟩; intro wq hSw; (try dsimp only at hSw); go_simp; (try with_reducible rfl))
       (try simp only [Act.put, pA, pZ, pS])
       refine tkH 20 ?oi321 (?v321) ?hi321 ?hy321 ?_
       case hi321 => (simp only [gA, gS, gZ]; try rfl)
       case hy321 => (refine Or.inl ⟨by rfl, ?_⟩; intro wq hSw; (try dsimp only at hSw); go_simp; (try with_reducible rfl))
       (try simp only [Act.put, pA, pZ, pS])
       refine tkH 21 ?oi322 (?v322) ?hi322 ?hy322 ?_
       case hi322 => (simp only [gA, gS, gZ]; try rfl)
       case hy322 => (refine Or.inl ⟨by rfl, ?_⟩; intro wq hSw; (try dsimp only at hSw); go_simp; (try with_reducible rfl))
       (try simp only [Act.put, pA, pZ, pS])
       refine tkH 22 ?oi323 (?v323) ?hi323 ?hy323 ?_
       case hi323 => (simp only [gA, gS, gZ]; try rfl)
       case hy323 => (refine Or.inl ⟨by rfl, ?_⟩; intro wq hSw; (try dsimp only at hSw); go_simp; (try with_reducible rfl))
       (try simp only [Act.put, pA, pZ, pS])
       refine tkH 23 ?oi324 (?v324) ?hi324 ?hy324 ?_
       case hi324 => (simp only [gA, gS, gZ]; try rfl)
       case hy324 => (refine Or.inl ⟨by rfl, ?_⟩; intro wq hSw; (try dsimp only at hSw); go_simp; (try with_reducible rfl))
       (try simp only [Act.put, pA, pZ, pS])
       refine wpAnyH_ready (rs := [24]) (by kernel_rfl) (by simp) ?_
       refine AllReadyH.cons (o := ?oi325) ?hi325 ?ti325 AllReadyH.nil
       case hi325 => (simp only [gA, gS, gZ]; try rfl)
       case ti325 =>
        intro KQ hKQ
        go_simp
        go_at_call 39
        refine Calls.mono (HPS.out _) ?_
        rintro e w1 ⟨rfl, hb1⟩
        obtain ⟨x4, rfl⟩ := hb1.get
        clear hb1
        refine hKQ.out _ _ (by simp [go_sem, ↓IntWalk.iteOmega, *]) (fun hHeld2 => ?_)
        clear hHeld hKQ KQ; have hHeld := hHeld2; clear hHeld2
        (try simp only [Act.put, pA, pZ, pS])
        refine tkH 25 ?oi326 (?v326) ?hi326 ?hy326 ?_
        case hi326 => (simp only [gA, gS, gZ]; try rfl)
        case hy326 => (refine Or.inl ⟨by rfl, ?_⟩; intro wq hSw; (try dsimp only at hSw); go_simp; (try with_reducible rfl))
        (try simp only [Act.put, pA, pZ, pS])
        refine tkH 26 ?oi327 (?v327) ?hi327 ?hy327 ?_
        case hi327 => (simp only [gA, gS, gZ]; try rfl)
        case hy327 => (refine Or.inl ⟨by rfl, ?_⟩; intro wq hSw; (try dsimp only at hSw); go_simp; (try with_reducible rfl))
        (try simp only [Act.put, pA, pZ, pS])
        refine wpAnyH_done (by kernel_rfl) ?_ _
        go_wp2
        go_ret
        exact ⟨⟨false, rfl, fun h => by cases h⟩, ex_⟩
   have HOK : Hid (okV kl p) := Lib.hid HOE.out
   go_wp2_with fail
   refine wp_region_held_drew (S := (fun w' => w'.cell? ⟨w.heap.size, 0, none⟩ = some (.string s0) ∧ w'.cell? ⟨w.heap.size, 1, none⟩ = some (.slice A1 n1 m1) ∧ w'.cell? ⟨w.heap.size, 2, none⟩ = some (.slice K n2 kc) ∧ w'.cell? ⟨w.heap.size, 3, none⟩ = some (.slice A3 n3 m3) ∧ w'.cell? ⟨w.heap.size, 4, none⟩ = some (.slice A4 n4 m4) ∧ w'.cell? ⟨b, oo + k * 9, none⟩ = some (.int .i64 p.id) ∧ w'.cell? ⟨b, oo + k * 9 + 1, none⟩ = some (.int .i64 p.sch) ∧ w'.cell? ⟨b, oo + k * 9 + 2, none⟩ = some (.slice p.row.A p.row.l.length p.row.c) ∧ w'.cell? ⟨b, oo + k * 9 + 3, none⟩ = some (.int .i64 p.v.1) ∧ w'.cell? ⟨b, oo + k * 9 + 4, none⟩ = some (.int .i64 p.v.2) ∧ w'.cell? ⟨b, oo + k * 9 + 5, none⟩ = some (.int .i64 p.s.1) ∧ w'.cell? ⟨b, oo + k * 9 + 6, none⟩ = some (.int .i64 p.s.2) ∧ w'.cell? ⟨b, oo + k * 9 + 7, none⟩ = some (.int .i64 p.by_) ∧ w'.cell? ⟨b, oo + k * 9 + 8, none⟩ = some (.int .i64 p.un))) (by kernel_rfl) (by simp [go_sem, ↓IntWalk.iteOmega, *]) (fun hHeld => ?_)
   refine tkH 0 ?oi401 (?v401) ?hi401 ?hy401 ?_
   case hi401 => (simp only [gA, gS, gZ]; try rfl)
   case hy401 => (refine Or.inl ⟨by rfl, ?_⟩; intro wq hSw; (try dsimp only at hSw); go_simp; (try with_reducible rfl))
   (try simp only [Act.put, pA, pZ, pS])
   refine tkH 1 ?oi402 (?v402) ?hi402 ?hy402 ?_
   case hi402 => (simp only [gA, gS, gZ]; try rfl)
   case hy402 => (refine Or.inl ⟨by rfl, ?_⟩; intro wq hSw; (try dsimp only at hSw); go_simp; (try with_reducible rfl))
   (try simp only [Act.put, pA, pZ, pS])
   refine tkH 2 ?oi403 (?v403) ?hi403 ?hy403 ?_
   case hi403 => (simp only [gA, gS, gZ]; try rfl)
   case hy403 => (refine Or.inl ⟨by rfl, ?_⟩; intro wq hSw; (try dsimp only at hSw); go_simp; (try with_reducible rfl))
   (try simp only [Act.put, pA, pZ, pS])
   refine tkH 3 ?oi404 (?v404) ?hi404 ?hy404 ?_
   case hi404 => (simp only [gA, gS, gZ]; try rfl)
   case hy404 => (refine Or.inl ⟨by rfl, ?_⟩; intro wq hSw; (try dsimp only at hSw); go_simp; (try with_reducible rfl))
   (try simp only [Act.put, pA, pZ, pS])
   refine tkH 4 ?oi405 (?v405) ?hi405 ?hy405 ?_
   case hi405 => (simp only [gA, gS, gZ]; try rfl)
   case hy405 => (refine Or.inl ⟨by rfl, ?_⟩; intro wq hSw; (try dsimp only at hSw); go_simp; (try with_reducible rfl))
   (try simp only [Act.put, pA, pZ, pS])
   refine tkH 5 ?oi406 (?v406) ?hi406 ?hy406 ?_
   case hi406 => (simp only [gA, gS, gZ]; try rfl)
   case hy406 => (refine Or.inl ⟨by rfl, ?_⟩; intro wq hSw; (try dsimp only at hSw); go_simp; (try with_reducible rfl))
   (try simp only [Act.put, pA, pZ, pS])
   refine wpAnyH_ready (rs := [6]) (by kernel_rfl) (by simp) ?_
   refine AllReadyH.cons (o := ?oi407) ?hi407 ?ti407 AllReadyH.nil
   case hi407 => (simp only [gA, gS, gZ]; try rfl)
   case ti407 =>
    intro KQ hKQ
    go_simp
    go_at_call 38
    refine Calls.mono (HKI.out _ (ex_)) ?_
    rintro e w1 ⟨⟨Ak, ck, rfl, HRK⟩, hb1⟩
    obtain ⟨x1, rfl⟩ := hb1.get
    clear hb1
    refine hKQ.out _ _ (by simp [go_sem, ↓IntWalk.iteOmega, *]) (fun hHeld2 => ?_)
    clear hHeld hKQ KQ; have hHeld := hHeld2; clear hHeld2
    (try simp only [Act.put, pA, pZ, pS])
    refine wpAnyH_ready (rs := [7]) (by kernel_rfl) (by simp) ?_
    refine AllReadyH.cons (o := ?oi408) ?hi408 ?ti408 AllReadyH.nil
    case hi408 => (simp only [gA, gS, gZ]; try rfl)
    case ti408 =>
     intro KQ hKQ
     go_simp
     go_at_call 37
     refine Calls.mono (HFI.out _ (ex_) Ak ck (HRK.out.ext (ex_))) ?_
     rintro e w1 ⟨rfl, hb1⟩
     obtain ⟨x2, rfl⟩ := hb1.get
     clear hb1
     refine hKQ.out _ _ (by simp [go_sem, ↓IntWalk.iteOmega, *]) (fun hHeld2 => ?_)
     clear hHeld hKQ KQ; have hHeld := hHeld2; clear hHeld2
     (try simp only [Act.put, pA, pZ, pS])
     refine tkH 8 ?oi409 (?v409) ?hi409 ?hy409 ?_
     case hi409 => (simp only [gA, gS, gZ]; try rfl)
     case hy409 => (refine Or.inl ⟨by rfl, ?_⟩; intro wq hSw; (try dsimp only at hSw); go_simp; (try with_reducible rfl))
     (try simp only [Act.put, pA, pZ, pS])
     refine tkH 9 ?oi410 (?v410) ?hi410 ?hy410 ?_
     case hi410 => (simp only [gA, gS, gZ]; try rfl)
     case hy410 => (refine Or.inl ⟨by rfl, ?_⟩; intro wq hSw; (try dsimp only at hSw); go_simp; (try with_reducible rfl))
     (try simp only [Act.put, pA, pZ, pS])
     refine tkH 10 ?oi411 (?v411) ?hi411 ?hy411 ?_
     case hi411 => (simp only [gA, gS, gZ]; try rfl)
     case hy411 => (refine Or.inl ⟨by rfl, ?_⟩; intro wq hSw; (try dsimp only at hSw); go_simp; (try with_reducible rfl))
     (try simp only [Act.put, pA, pZ, pS])
     refine tkH 11 ?oi412 (?v412) ?hi412 ?hy412 ?_
     case hi412 => (simp only [gA, gS, gZ]; try rfl)
     case hy412 => (refine Or.inl ⟨by rfl, ?_⟩; intro wq hSw; (try dsimp only at hSw); go_simp; (try with_reducible rfl))
     (try simp only [Act.put, pA, pZ, pS])
     refine tkH 12 ?oi413 (?v413) ?hi413 ?hy413 ?_
     case hi413 => (simp only [gA, gS, gZ]; try rfl)
     case hy413 => (refine Or.inl ⟨by rfl, ?_⟩; intro wq hSw; (try dsimp only at hSw); go_simp; (try with_reducible rfl))
     (try simp only [Act.put, pA, pZ, pS])
     refine tkH 13 ?oi414 (?v414) ?hi414 ?hy414 ?_
     case hi414 => (simp only [gA, gS, gZ]; try rfl)
     case hy414 => (refine Or.inl ⟨by rfl, ?_⟩; intro wq hSw; (try dsimp only at hSw); go_simp; (try with_reducible rfl))
     (try simp only [Act.put, pA, pZ, pS])
     refine tkH 14 ?oi415 (?v415) ?hi415 ?hy415 ?_
     case hi415 => (simp only [gA, gS, gZ]; try rfl)
     case hy415 => (refine Or.inl ⟨by rfl, ?_⟩; intro wq hSw; (try dsimp only at hSw); go_simp; (try with_reducible rfl))
     (try simp only [Act.put, pA, pZ, pS])
     refine wpAnyH_ready (rs := [15]) (by kernel_rfl) (by simp) ?_
     refine AllReadyH.cons (o := ?oi416) ?hi416 ?ti416 AllReadyH.nil
     case hi416 => (simp only [gA, gS, gZ]; try rfl)
     case ti416 =>
      intro KQ hKQ
      go_simp
      go_at_call 39
      refine Calls.mono (HPV.out _) ?_
      rintro e w1 ⟨rfl, hb1⟩
      obtain ⟨x3, rfl⟩ := hb1.get
      clear hb1
      refine hKQ.out _ _ (by simp [go_sem, ↓IntWalk.iteOmega, *]) (fun hHeld2 => ?_)
      clear hHeld hKQ KQ; have hHeld := hHeld2; clear hHeld2
      (try simp only [Act.put, pA, pZ, pS])
      refine tkH 16 ?oi417 (?v417) ?hi417 ?hy417 ?_
      case hi417 => (simp only [gA, gS, gZ]; try rfl)
      case hy417 => (refine Or.inl ⟨by rfl, ?_⟩; intro wq hSw; (try dsimp only at hSw); go_simp; (try with_reducible rfl))
      (try simp only [Act.put, pA, pZ, pS])
      refine tkH 17 ?oi418 (?v418) ?hi418 ?hy418 ?_
      case hi418 => (simp only [gA, gS, gZ]; try rfl)
      case hy418 => (refine Or.inl ⟨by rfl, ?_⟩; intro wq hSw; (try dsimp only at hSw); go_simp; (try with_reducible rfl))
      (try simp only [Act.put, pA, pZ, pS])
      refine tkH 18 ?oi419 (?v419) ?hi419 ?hy419 ?_
      case hi419 => (simp only [gA, gS, gZ]; try rfl)
      case hy419 => (refine Or.inl ⟨by rfl, ?_⟩; intro wq hSw; (try dsimp only at hSw); go_simp; (try with_reducible rfl))
      (try simp only [Act.put, pA, pZ, pS])
      refine tkH 19 ?oi420 (?v420) ?hi420 ?hy420 ?_
      case hi420 => (simp only [gA, gS, gZ]; try rfl)
      case hy420 => (refine Or.inl ⟨by rfl, ?_⟩; intro wq hSw; (try dsimp only at hSw); go_simp; (try with_reducible rfl))
      (try simp only [Act.put, pA, pZ, pS])
      refine tkH 20 ?oi421 (?v421) ?hi421 ?hy421 ?_
      case hi421 => (simp only [gA, gS, gZ]; try rfl)
      case hy421 => (refine Or.inl ⟨by rfl, ?_⟩; intro wq hSw; (try dsimp only at hSw); go_simp; (try with_reducible rfl))
      (try simp only [Act.put, pA, pZ, pS])
      refine tkH 21 ?oi422 (?v422) ?hi422 ?hy422 ?_
      case hi422 => (simp only [gA, gS, gZ]; try rfl)
      case hy422 => (refine Or.inl ⟨by rfl, ?_⟩; intro wq hSw; (try dsimp only at hSw); go_simp; (try with_reducible rfl))
      (try simp only [Act.put, pA, pZ, pS])
      refine tkH 22 ?oi423 (?v423) ?hi423 ?hy423 ?_
      case hi423 => (simp only [gA, gS, gZ]; try rfl)
      case hy423 => (refine Or.inl ⟨by rfl, ?_⟩; intro wq hSw; (try dsimp only at hSw); go_simp; (try with_reducible rfl))
      (try simp only [Act.put, pA, pZ, pS])
      refine tkH 23 ?oi424 (?v424) ?hi424 ?hy424 ?_
      case hi424 => (simp only [gA, gS, gZ]; try rfl)
      case hy424 => (refine Or.inl ⟨by rfl, ?_⟩; intro wq hSw; (try dsimp only at hSw); go_simp; (try with_reducible rfl))
      (try simp only [Act.put, pA, pZ, pS])
      refine wpAnyH_ready (rs := [24]) (by kernel_rfl) (by simp) ?_
      refine AllReadyH.cons (o := ?oi425) ?hi425 ?ti425 AllReadyH.nil
      case hi425 => (simp only [gA, gS, gZ]; try rfl)
      case ti425 =>
       intro KQ hKQ
       go_simp
       go_at_call 39
       refine Calls.mono (HPS.out _) ?_
       rintro e w1 ⟨rfl, hb1⟩
       obtain ⟨x4, rfl⟩ := hb1.get
       clear hb1
       refine hKQ.out _ _ (by simp [go_sem, ↓IntWalk.iteOmega, *]) (fun hHeld2 => ?_)
       clear hHeld hKQ KQ; have hHeld := hHeld2; clear hHeld2
       (try simp only [Act.put, pA, pZ, pS])
       refine tkH 25 ?oi426 (?v426) ?hi426 ?hy426 ?_
       case hi426 => (simp only [gA, gS, gZ]; try rfl)
       case hy426 => (refine Or.inl ⟨by rfl, ?_⟩; intro wq hSw; (try dsimp only at hSw); go_simp; (try with_reducible rfl))
       (try simp only [Act.put, pA, pZ, pS])
       refine tkH 26 ?oi427 (?v427) ?hi427 ?hy427 ?_
       case hi427 => (simp only [gA, gS, gZ]; try rfl)
       case hy427 => (refine Or.inl ⟨by rfl, ?_⟩; intro wq hSw; (try dsimp only at hSw); go_simp; (try with_reducible rfl))
       (try simp only [Act.put, pA, pZ, pS])
       refine wpAnyH_done (by kernel_rfl) ?_ _
       have HKL := Lib.hid hlt
       obtain ⟨gO, rfl⟩ : ∃ g, g = gk := ⟨gk, rfl⟩
       go_wp2
       go_loopg [6] k (fun g2 iy wr2 => ∃ j : Nat, iy = .int .i64 j ∧ j ≤ k ∧ k - j ≤ g2 ∧ Hid (∀ m q, m < j → vs[m]? = some q → befV p q = true ∨ befV q p = true) ∧ Ext (w.alloc (.cells #[.string s0, .slice A1 n1 m1, .slice K n2 kc, .slice A3 n3 m3, .slice A4 n4 m4] 27)) wr2)
       case atStart => exact ⟨0, rfl, by omega, by omega, Lib.hid fun m q h => absurd h (by omega), ex_⟩
       case round =>
        obtain ⟨j, rfl, hj, hg2, HDJ, hE2⟩ := hrel
        obtain ⟨x5, rfl⟩ := hE2.get
        have HG2 := Lib.hid hg2
        clear hg2 hE2
        by_cases hjk : j < k
        ·
         have hjkz : (j : Int) < (k : Int) := by omega
         have hjn : (j : Int) < (n : Int) := by omega
         obtain ⟨q, b2, oo2, hqv, hLe, hb2, d0, d1, d2, d3, d4, d5, d6, d7, d8⟩ := hL.ve9 HN.out (show j < n by omega)
         simp only [Option.some.injEq, Addr.mk.injEq, and_true] at hLe
         obtain ⟨rfl, rfl⟩ := hLe
         have HQV := Lib.hid hqv
         clear hqv
         have HB1 := Lib.hid fun W => before49_any p q W
         have HB2 := Lib.hid fun W => before49_any q p W
         obtain ⟨c1, hc1⟩ : ∃ c, befV p q = c := ⟨_, rfl⟩
         obtain ⟨c2, hc2⟩ : ∃ c, befV q p = c := ⟨_, rfl⟩
         have HC12 : Hid (befV p q = c1 ∧ befV q p = c2) := Lib.hid ⟨hc1, hc2⟩
         rw [hc1] at HB1
         rw [hc2] at HB2
         clear hc1 hc2
         cases c1
         ·
          cases c2
          ·
           go_wp2_with fail
           refine wp_region_ext (by kernel_rfl) (by kernel_rfl) ?_
           repeat (first | go_big_quiet_step ((go_at_call 32; first | with_reducible exact Calls.ext_of (HB1.out _) | with_reducible exact Calls.ext_of (HB2.out _))) | quiet_step ((go_at_call 32; first | with_reducible exact Calls.ext_of (HB1.out _) | with_reducible exact Calls.ext_of (HB2.out _))))
           refine wpQuiet_nil ?_
           intro _ hw'
           obtain ⟨xq, hw''⟩ := hw'
           subst hw''
           go_wp2
           go_ret
           exact ⟨⟨false, rfl, fun h => by cases h⟩, ex_⟩
          ·
           go_wp2_with fail
           refine wp_region_ext (by kernel_rfl) (by kernel_rfl) ?_
           repeat (first | go_big_quiet_step ((go_at_call 32; first | with_reducible exact Calls.ext_of (HB1.out _) | with_reducible exact Calls.ext_of (HB2.out _))) | quiet_step ((go_at_call 32; first | with_reducible exact Calls.ext_of (HB1.out _) | with_reducible exact Calls.ext_of (HB2.out _))))
           refine wpQuiet_nil ?_
           intro _ hw'
           obtain ⟨xq, hw''⟩ := hw'
           subst hw''
           go_wp2
           go_roundg (gk - 1)
           case rel => exact ⟨j + 1, by go_num, by omega, by have := HG2.out; omega, Lib.hid fun m q' h1 h2 => by
            rcases Nat.lt_or_ge m j with h3 | h3
            ·
             exact HDJ.out m q' h3 h2
            ·
             have : m = j := by omega
             subst this
             rw [HQV.out] at h2
             injection h2 with h2
             subst h2
             exact .inr HC12.out.2, ex_⟩
           case measure => have := HG2.out; omega
         ·
          clear HB2
          go_wp2_with fail
          refine wp_region_ext (by kernel_rfl) (by kernel_rfl) ?_
          repeat (first | go_big_quiet_step ((go_at_call 32; first | with_reducible exact Calls.ext_of (HB1.out _))) | quiet_step ((go_at_call 32; first | with_reducible exact Calls.ext_of (HB1.out _))))
          refine wpQuiet_nil ?_
          intro _ hw'
          obtain ⟨xq, hw''⟩ := hw'
          subst hw''
          go_wp2
          go_roundg (gk - 1)
          case rel => exact ⟨j + 1, by go_num, by omega, by have := HG2.out; omega, Lib.hid fun m q' h1 h2 => by
           rcases Nat.lt_or_ge m j with h3 | h3
           ·
            exact HDJ.out m q' h3 h2
           ·
            have : m = j := by omega
            subst this
            rw [HQV.out] at h2
            injection h2 with h2
            subst h2
            exact .inl HC12.out.1, ex_⟩
          case measure => have := HG2.out; omega
        ·
         have hjkz : ¬ ((j : Int) < (k : Int)) := by omega
         have hje : j = k := by omega
         have HDK : Hid (∀ m q, m < k → vs[m]? = some q → befV p q = true ∨ befV q p = true) := Lib.hid (by rw [← hje]; exact HDJ.out)
         clear HDJ hje
         go_wp2
         go_roundg (gO - 1)
         case rel => exact ⟨k + 1, by go_num, by omega, by have := HG.out; omega, Lib.hid (HSP.out.step HPI.out HOK.out HDK.out), ex_⟩
         case measure => have := HG.out; omega
  ·
   have hkz : ¬ ((k : Int) < (n : Int)) := by omega
   have hkn : k = n := by omega
   have HSV : Hid (SndP kl vs vs.length) := Lib.hid (by rw [HN.out, ← hkn]; exact HSP.out)
   clear HSP
   go_wp2
   go_ret
   exact ⟨⟨true, rfl, fun _ => ⟨HSV.out, HBD.out⟩⟩, ex_⟩
def UsR (n n1 n2 : Nat) (kl : List Int) (vs : List VeA) (e : Ending) : Prop := ∃ b, e = .returned (.bool b) ∧ (b = true → n ≤ 200 ∧ SndP kl vs vs.length ∧ n1 ≤ 1048576 ∧ n2 ≤ 1048576)
set_option maxRecDepth 100000 in
set_option maxHeartbeats 8000000 in
theorem usable_any (s0 : ByteArray) (A1 K A3 A4 : Option Addr) (n1 m1 n2 kc n3 m3 n4 m4 : Nat) (cl : List Col) (ks : List Int) (fl : List Fo) (es : List Ex) (css : List (List Value)) (L : Option Addr) (n lc : Nat) (vs : List VeA) (w : World) (hs0 : s0.size ≤ 9223372036854775807) (hT : TabOk w A1 K A3 A4 n1 n2 n3 n4 cl ks fl es css)
  (hn : vs.length = n) (hnb : n ≤ 9223372036854775807) (hL : Rd w 9 L n (vs.flatMap encVe)) (hV : VsL w vs) :
  Calls Tryz.prog 7 #[.agg #[.string s0, .slice A1 n1 m1, .slice K n2 kc, .slice A3 n3 m3, .slice A4 n4 m4], .slice L n lc] w fun e w' => UsR n n1 n2 (cl.map Col.k) vs e ∧ Ext w w' := by
 have HS := Lib.hid fun W (e : Ext w W) => sound_any s0 A1 K A3 A4 n1 m1 n2 kc n3 m3 n4 m4 cl ks fl es css L n lc vs W hs0 (hT.ext e) hn hnb (hL.ext e) (hV.ext e)
 clear hT hL hV hs0
 go_enter Tryz.func7, Tryz.ntmps7
 by_cases h2 : n ≤ 200
 ·
  have h2z : (n : Int) ≤ 200 := by omega
  go_wp2_with fail
  refine (HS.out _ (ex_)).mono ?_
  rintro e w1 ⟨⟨bb, rfl, HB⟩, hb1⟩
  obtain ⟨x1, rfl⟩ := hb1.get
  clear hb1
  go_wp2
  go_ret
  exact ⟨⟨_, rfl, fun h => ⟨h2, HB h⟩⟩, ex_⟩
 ·
  have h2z : ¬ (n : Int) ≤ 200 := by omega
  go_wp2
  go_ret
  exact ⟨⟨false, rfl, fun h => by cases h⟩, ex_⟩

end Go.Proofs.YtdiaecgpjgdkdaaGreat

namespace Go.Proofs.YtdiaecgpjgdkdaaGreat
open Go.ChangeShapes Go.WideShapes Go.ChangeAt Go.RowKit Go.Joins Go.Deep

theorem bulk_mem {H : Type} : ∀ {l : List (DataW H)} {d : DataW H}, d ∈ l → Rows.uptoBulk d ≤ Rows.uptoBulkAll l
 | x :: r, d, h => by
  simp only [Rows.uptoBulkAll]
  rcases List.mem_cons.1 h with rfl | h
  ·
   omega
  ·
   have := bulk_mem h; omega
theorem bulk_sum {H : Type} {α : Type} {sz : α → Nat} : ∀ {ls : List α} {ds : List (DataW H)}, ls.length = ds.length → (∀ i (h : i < ls.length) (h2 : i < ds.length), sz ls[i] ≤ Rows.uptoBulk ds[i]) → (ls.map sz).sum ≤ Rows.uptoBulkAll ds
 | [], [], _, _ => by simp [Rows.uptoBulkAll]
 | a :: ls, d :: ds, hl, h => by
  have h0 := h 0 (by simp) (by simp)
  have h1 := bulk_sum (sz := sz) (ls := ls) (ds := ds) (by simpa using hl) (fun i h2 h3 => h (i + 1) (by simpa using h2) (by simpa using h3))
  simp only [List.map_cons, List.sum_cons, Rows.uptoBulkAll]
  simp only [List.getElem_cons_zero] at h0
  omega
theorem slice_open {t e k : Nat} {α : Type} {enc : α → List Value} {mem : World → α → Prop} {sz : α → Nat} (ht : Tryz.prog.underlying t = some (.slice e)) (hC : Tryz.prog.cellsOf e = k) (hk : 0 < k) (hen : ∀ a, (enc a).length = k)
  {H : Type} {en : TypeId × Value → H} {w : World} {n : Nat} {cs : List Value} {x : DataW H × List MemPlace} (h : DataW.trod en Tryz.prog w 0 (fun _ => true) true n t cs = some x)
  (hI : ∀ {n' : Nat} {cs' : List Value} {y : DataW H × List MemPlace}, DataW.trod en Tryz.prog w 0 (fun _ => true) true n' e cs' = some y → Rows.uptoBulk y.1 < Rows.uptoBulk x.1 → ∃ a, cs' = enc a ∧ mem w a ∧ sz a ≤ Rows.uptoBulk y.1) :
  ∃ s : Sl α, cs = encS s ∧ memS k enc mem w s ∧ (s.l.map sz).sum + 1 ≤ Rows.uptoBulk x.1 := by
 rcases open_slice ht h with ⟨hcs, hx⟩ | ⟨a, len, cap, m, n, D, Pl, hcs, hb, hl, hm, hmm, hx, hi⟩
 ·
  exact ⟨⟨none, 0, []⟩, hcs, ⟨Nat.le_refl _, Nat.zero_le _, Rd.nil, by simp⟩, by simpa using bulk_one x.1⟩
 ·
  simp only [if_true] at hmm
  subst hmm
  have hq : ∀ i, i < len → ∃ z : α, mem w z ∧ (∀ j, j < k → w.cell? (a.add (i * k + j)) = (enc z)[j]?) ∧ sz z ≤ Rows.uptoBulk (D i) := by
   intro i hil
   obtain ⟨cs', hc, ht'⟩ := hi i (by omega)
   have hlt : Rows.uptoBulk (D i) < Rows.uptoBulk x.1 := by
    rw [hx]
    have h1 : Rows.uptoBulk (D i) ≤ Rows.uptoBulkAll ((List.range len).map D) := bulk_mem (List.mem_map.2 ⟨i, List.mem_range.2 hil, rfl⟩)
    simp only [Rows.uptoBulk]
    omega
   obtain ⟨z, rfl, hz, hsz⟩ := hI ht' hlt
   obtain ⟨_, _, hat⟩ := World.cells?_some hc
   rw [hC] at hat
   refine ⟨z, hz, fun j hj => ?_, hsz⟩
   rw [← Go.Deep.add_add]
   exact hat j hj
  obtain ⟨ls, hls, hql⟩ := list_of len hq
  have hsum : (ls.map sz).sum ≤ Rows.uptoBulkAll ((List.range len).map D) := bulk_sum (by simp [hls]) (fun i h2 h3 => by simpa using (hql i h2).2.2)
  subst hls
  refine ⟨⟨some a, m, ls⟩, hcs, ⟨hl, hm, ⟨fm_len hen ls, fun hpos => ?_⟩, fun z hz => ?_⟩, ?_⟩
  ·
   have hlp : 0 < ls.length := by
    rcases Nat.eq_zero_or_pos ls.length with h0 | h0
    ·
     simp only [h0, Nat.zero_mul] at hpos; omega
    ·
     exact h0
   have h00 := (hql 0 hlp).2.1 0 hk
   rw [Nat.zero_mul, Nat.add_zero, List.getElem?_eq_getElem (by rw [hen]; exact hk)] at h00
   have ha0 : a.add 0 = a := by simp [Addr.add]
   rw [ha0] at h00
   obtain ⟨b, o, s⟩ := a
   have hs : s = none := by
    cases s with
    | none => rfl
    | some s =>
     exfalso
     simp only [World.cell?] at h00
     split at h00 <;> simp at h00
   subst hs
   refine ⟨b, o, rfl, cell_lt h00, fun j u hu => ?_⟩
   have hj : j < ls.length * k := by
    have := (List.getElem?_eq_some_iff.1 hu).1
    rwa [fm_len hen ls] at this
   have hdm : j / k < ls.length := Nat.div_lt_of_lt_mul (by rw [Nat.mul_comm]; exact hj)
   have hjm : j / k * k + j % k = j := Nat.div_add_mod' j k
   have h1 := (hql (j / k) hdm).2.1 (j % k) (Nat.mod_lt _ hk)
   rw [hjm, add_none] at h1
   rw [h1, ← fm_get hen ls (j / k) hdm (j % k) (Nat.mod_lt _ hk), hjm]
   exact hu
  ·
   obtain ⟨i, hi', rfl⟩ := List.getElem_of_mem hz
   exact (hql i hi').1
  ·
   rw [hx]
   simp only [Rows.uptoBulk]
   omega
abbrev XC := { z : Ex × List Value // z.2.length = 7 }
theorem xc_res {w : World} : ∀ {l : List XC}, (∀ a ∈ l, RE w a.1.1 a.1.2) → REs w (l.map (·.1.1)) (l.map (·.1.2))
 | [], _ => by simp only [List.map_nil]; rw [REs]
 | a :: l, h => by
  simp only [List.map_cons]
  rw [REs]
  exact ⟨_, _, rfl, h a (by simp), xc_res fun b hb => h b (by simp [hb])⟩
theorem xc_flat (l : List XC) : (l.flatMap fun a : XC => a.1.2) = (l.map (·.1.2)).flatten := by induction l with | nil => rfl | cons a l ih => simp [ih]
theorem xc_sz (l : List XC) : (l.map fun a : XC => szE a.1.1).sum = szs (l.map (·.1.1)) := by induction l with | nil => simp [szs] | cons a l ih => simp [szs, ih]
theorem seven {cs : List Value} (h : cs.length = 7) : ∃ a b c d e f g, cs = [a, b, c, d, e, f, g] := by
 match cs, h with
 | [a, b, c, d, e, f, g], _ => exact ⟨a, b, c, d, e, f, g, rfl⟩
theorem cells_expr : Tryz.prog.cellsOf 68 = 7 := by kernel_rfl
set_option maxRecDepth 100000 in
theorem open_ex : ∀ (N : Nat) {H : Type} {en : TypeId × Value → H} {w : World} {n : Nat} {cs : List Value} {x : DataW H × List MemPlace}, DataW.trod en Tryz.prog w 0 (fun _ => true) true n 68 cs = some x → Rows.uptoBulk x.1 ≤ N →
  ∃ a : XC, cs = a.1.2 ∧ RE w a.1.1 a.1.2 ∧ szE a.1.1 ≤ Rows.uptoBulk x.1
 | 0, H, en, w, n, cs, x, h, hN => absurd (bulk_one x.1) (by omega)
 | N + 1, H, en, w, n, cs, x, hf, hN => by
  obtain ⟨ys, n', _, hx, hlen, hyl, hfl⟩ := DataW.trod_struct Tryz.underlying68 hf
  obtain ⟨c0, c1, c2, c3, c4, c5, c6, rfl⟩ := seven (hlen.trans cells_expr)
  have hy5 : ys.length = 5 := hyl
  match ys, hy5 with
  | [y0, y1, y2, y3, y4], _ =>
   have g0 : DataW.trod en Tryz.prog w 0 (fun _ => true) true n' 3 (([c0, c1, c2, c3, c4, c5, c6].drop 0).take (Tryz.prog.cellsOf 3)) = some y0 := hfl 0 _ rfl
   have g1 : DataW.trod en Tryz.prog w 0 (fun _ => true) true n' 3 (([c0, c1, c2, c3, c4, c5, c6].drop 1).take (Tryz.prog.cellsOf 3)) = some y1 := hfl 1 _ rfl
   have g2 : DataW.trod en Tryz.prog w 0 (fun _ => true) true n' 66 (([c0, c1, c2, c3, c4, c5, c6].drop 2).take (Tryz.prog.cellsOf 66)) = some y2 := hfl 2 _ rfl
   have g3 : DataW.trod en Tryz.prog w 0 (fun _ => true) true n' 9 (([c0, c1, c2, c3, c4, c5, c6].drop 5).take (Tryz.prog.cellsOf 9)) = some y3 := hfl 3 _ rfl
   have g4 : DataW.trod en Tryz.prog w 0 (fun _ => true) true n' 25 (([c0, c1, c2, c3, c4, c5, c6].drop 6).take (Tryz.prog.cellsOf 25)) = some y4 := hfl 4 _ rfl
   rw [show Tryz.prog.cellsOf 3 = 1 from by kernel_rfl] at g0 g1
   rw [show Tryz.prog.cellsOf 66 = 3 from by kernel_rfl] at g2
   rw [show Tryz.prog.cellsOf 9 = 1 from by kernel_rfl] at g3
   rw [show Tryz.prog.cellsOf 25 = 1 from by kernel_rfl] at g4
   simp only [List.drop, List.take] at g0 g1 g2 g3 g4
   obtain ⟨i0, e0, _⟩ := opnInt.2 g0
   obtain ⟨i1, e1, _⟩ := opnInt.2 g1
   obtain ⟨v, e2, hv⟩ := opnVa.2 g2
   obtain ⟨nm, e3, hnm⟩ := (Opn.str Tryz.underlying9).2 g3
   have hb4 : Rows.uptoBulk y4.1 + 1 ≤ Rows.uptoBulk x.1 := by
    rw [hx]
    simp only [Rows.uptoBulk, List.map_cons, List.map_nil, Rows.uptoBulkAll]
    omega
   obtain ⟨s, e4, hs, hsz⟩ := slice_open (k := 7) (enc := fun a : XC => a.1.2) (mem := fun w a => RE w a.1.1 a.1.2) (sz := fun a => szE a.1.1) Tryz.underlying25 cells_expr (by decide) (fun a => a.2) g4
    (fun {n'} {cs'} {y} hy hlt => open_ex N hy (by omega))
   simp only [encS, List.cons.injEq, and_true, vc] at e0 e1 e2 e3 e4
   obtain ⟨rfl, rfl, rfl⟩ := e2
   subst e0 e1 e3 e4
   obtain ⟨hl1, hl2, hl3, hl4⟩ := hs
   rw [xc_flat] at hl3
   rw [xc_sz] at hsz
   have hlen2 : (s.l.map (·.1.1)).length = s.l.length := List.length_map ..
   refine ⟨⟨(.mk i0 i1 v nm (s.l.map (·.1.1)), exc i0 i1 v nm s.A s.l.length s.c), rfl⟩, rfl, ?_, ?_⟩
   ·
    show RE w (.mk i0 i1 v nm (s.l.map (·.1.1))) (exc i0 i1 v nm s.A s.l.length s.c)
    rw [RE]
    unfold maxLen at hv hnm hl2
    refine ⟨s.A, s.c, s.l.map (·.1.2), by rw [hlen2], by omega, by omega, by rw [hlen2]; omega, by rw [hlen2]; exact hl1, by rw [hlen2]; exact hl3, xc_res hl4⟩
   ·
    show szE (.mk i0 i1 v nm (s.l.map (·.1.1))) ≤ _
    rw [szE]
    omega
theorem opnCol : Opn Tryz.prog 63 3 colc (fun _ c => c.nm.size ≤ maxLen) :=
 (Opn.struct Tryz.underlying63 (Flds.cons (Opn.str Tryz.underlying9) rfl (by kernel_rfl) (Flds.cons opnInt rfl (by kernel_rfl) (Flds.one (Opn.bool Tryz.underlying4) rfl (by kernel_rfl)))) (by kernel_rfl)).as
  (fun a => (⟨a.1, a.2.1, a.2.2⟩ : Col)) (fun _ => rfl) (fun _ => rfl) (fun _ _ h => h.1)
theorem hic (l : List Int) : l.flatMap (fun a : Int => [Value.int .i64 a]) = ic l := by unfold ic; induction l with | nil => rfl | cons x l ih => simp [ih]
theorem ones {α : Type} (l : List α) : (l.map fun _ => 1).sum = l.length := by induction l with | nil => rfl | cons a l ih => simp [ih]; omega
theorem open_is {H : Type} {en : TypeId × Value → H} {w : World} {n : Nat} {cs : List Value} {x : DataW H × List MemPlace} (h : DataW.trod en Tryz.prog w 0 (fun _ => true) true n 23 cs = some x) :
  ∃ s : Sl Int, cs = [.slice s.A s.l.length s.c] ∧ Rd w 1 s.A s.l.length (ic s.l) ∧ s.l.length + 1 ≤ Rows.uptoBulk x.1 ∧ s.l.length ≤ 9223372036854775807 := by
 obtain ⟨s, e, h1, h2⟩ := slice_open (k := 1) (enc := fun a : Int => [.int .i64 a]) (mem := fun _ _ => True) (sz := fun _ => 1) Tryz.underlying23 (by kernel_rfl) (by decide) (fun _ => rfl) h
  (fun {n'} {cs'} {y} hy _ => by
   obtain ⟨a, ha, _⟩ := opnInt.2 hy
   exact ⟨a, ha, trivial, bulk_one _⟩)
 rw [ones] at h2
 have h3 := h1.2.2.1
 rw [hic] at h3
 exact ⟨s, e, h3, h2, by have q1 := h1.1; have q2 := h1.2.1; unfold maxLen at q2; omega⟩
theorem cells_foreign : Tryz.prog.cellsOf 206 = 2 := by kernel_rfl
theorem two_ {cs : List Value} (h : cs.length = 2) : ∃ a b, cs = [a, b] := by
 match cs, h with
 | [a, b], _ => exact ⟨a, b, rfl⟩
theorem open_fo {H : Type} {en : TypeId × Value → H} {w : World} {n : Nat} {cs : List Value} {x : DataW H × List MemPlace} (hf : DataW.trod en Tryz.prog w 0 (fun _ => true) true n 206 cs = some x) :
  ∃ f : Fo, cs = foc f ∧ (f.tb.size ≤ maxLen ∧ Rd w 1 f.c.A f.c.l.length (ic f.c.l) ∧ f.c.l.length ≤ 9223372036854775807) ∧ f.c.l.length ≤ Rows.uptoBulk x.1 := by
 obtain ⟨ys, n', _, hx, hlen, hyl, hfl⟩ := DataW.trod_struct Tryz.underlying206 hf
 obtain ⟨c0, c1, rfl⟩ := two_ (hlen.trans cells_foreign)
 have hy5 : ys.length = 2 := hyl
 match ys, hy5 with
 | [y0, y1], _ =>
  have g0 : DataW.trod en Tryz.prog w 0 (fun _ => true) true n' 23 (([c0, c1].drop 0).take (Tryz.prog.cellsOf 23)) = some y0 := hfl 0 _ rfl
  have g1 : DataW.trod en Tryz.prog w 0 (fun _ => true) true n' 9 (([c0, c1].drop 1).take (Tryz.prog.cellsOf 9)) = some y1 := hfl 1 _ rfl
  rw [show Tryz.prog.cellsOf 23 = 1 from by kernel_rfl] at g0
  rw [show Tryz.prog.cellsOf 9 = 1 from by kernel_rfl] at g1
  simp only [List.drop, List.take] at g0 g1
  obtain ⟨s, e0, h1, h2, h9⟩ := open_is g0
  obtain ⟨tb, e1, htb⟩ := (Opn.str Tryz.underlying9).2 g1
  simp only [List.cons.injEq, and_true] at e0 e1
  subst e0 e1
  refine ⟨⟨s, tb⟩, rfl, ⟨htb, h1, h9⟩, ?_⟩
  rw [hx]
  simp only [Rows.uptoBulk, List.map_cons, List.map_nil, Rows.uptoBulkAll]
  show s.l.length ≤ _
  omega
set_option maxRecDepth 100000 in
theorem open_tab {H : Type} {en : TypeId × Value → H} {w : World} {r : Reach} {b0 : Nat} {v : Value} {d : DataW H} {p : List MemPlace}
  (hv : Value.okWide Tryz.prog w r b0 27 v) (h : DataW.Trod en Tryz.prog w 0 (fun _ => true) true 27 v d p) :
  ∃ (s0 : ByteArray) (A1 K A3 A4 : Option Addr) (n1 m1 n2 kc n3 m3 n4 m4 : Nat) (cl : List Col) (ks : List Int) (fl : List Fo) (es : List Ex) (css : List (List Value)),
   v = .agg #[.string s0, .slice A1 n1 m1, .slice K n2 kc, .slice A3 n3 m3, .slice A4 n4 m4] ∧ s0.size ≤ 9223372036854775807 ∧ TabOk w A1 K A3 A4 n1 n2 n3 n4 cl ks fl es css := by
 obtain ⟨cs, rfl, hsz⟩ := okWide_struct Tryz.underlying27 hv
 obtain ⟨c0, c1, c2, c3, c4, rfl⟩ := five (hsz.trans cells_table)
 obtain ⟨fuel, hf⟩ := h
 obtain ⟨ys, n', _, hx, _, hyl, hfl⟩ := DataW.trod_struct Tryz.underlying27 hf
 have hy5 : ys.length = 5 := hyl
 match ys, hy5 with
 | [y0, y1, y2, y3, y4], _ =>
  have g0 : DataW.trod en Tryz.prog w 0 (fun _ => true) true n' 9 (([c0, c1, c2, c3, c4].drop 0).take (Tryz.prog.cellsOf 9)) = some y0 := hfl 0 _ rfl
  have g1 : DataW.trod en Tryz.prog w 0 (fun _ => true) true n' 22 (([c0, c1, c2, c3, c4].drop 1).take (Tryz.prog.cellsOf 22)) = some y1 := hfl 1 _ rfl
  have g2 : DataW.trod en Tryz.prog w 0 (fun _ => true) true n' 23 (([c0, c1, c2, c3, c4].drop 2).take (Tryz.prog.cellsOf 23)) = some y2 := hfl 2 _ rfl
  have g3 : DataW.trod en Tryz.prog w 0 (fun _ => true) true n' 24 (([c0, c1, c2, c3, c4].drop 3).take (Tryz.prog.cellsOf 24)) = some y3 := hfl 3 _ rfl
  have g4 : DataW.trod en Tryz.prog w 0 (fun _ => true) true n' 25 (([c0, c1, c2, c3, c4].drop 4).take (Tryz.prog.cellsOf 25)) = some y4 := hfl 4 _ rfl
  rw [show Tryz.prog.cellsOf 9 = 1 from by kernel_rfl] at g0
  rw [show Tryz.prog.cellsOf 22 = 1 from by kernel_rfl] at g1
  rw [show Tryz.prog.cellsOf 23 = 1 from by kernel_rfl] at g2
  rw [show Tryz.prog.cellsOf 24 = 1 from by kernel_rfl] at g3
  rw [show Tryz.prog.cellsOf 25 = 1 from by kernel_rfl] at g4
  simp only [List.drop, List.take] at g0 g1 g2 g3 g4
  obtain ⟨s0, e0, hs0⟩ := (Opn.str Tryz.underlying9).2 g0
  obtain ⟨cl, e1, hcl, hcb⟩ := slice_open (k := 3) (enc := colc) (mem := fun _ c => c.nm.size ≤ maxLen) (sz := fun _ => 1) Tryz.underlying22 (by kernel_rfl) (by decide) (fun _ => rfl) g1
   (fun {n'} {cs'} {y} hy _ => by
    obtain ⟨a, ha, hm⟩ := opnCol.2 hy
    exact ⟨a, ha, hm, bulk_one _⟩)
  obtain ⟨ks, e2, hks, hkb, hkl⟩ := open_is g2
  obtain ⟨fl, e3, hfo, hfb⟩ := slice_open (k := 2) (enc := foc) (mem := fun w f => f.tb.size ≤ maxLen ∧ Rd w 1 f.c.A f.c.l.length (ic f.c.l) ∧ f.c.l.length ≤ 9223372036854775807) (sz := fun f => f.c.l.length) Tryz.underlying24 cells_foreign (by decide) (fun _ => rfl) g3
   (fun {n'} {cs'} {y} hy _ => open_fo hy)
  obtain ⟨fl2, e3b, hfo2, hfb2⟩ := slice_open (k := 2) (enc := foc) (mem := fun _ _ => True) (sz := fun _ => 1) Tryz.underlying24 cells_foreign (by decide) (fun _ => rfl) g3
   (fun {n'} {cs'} {y} hy _ => by
    obtain ⟨f, hf, _⟩ := open_fo hy
    exact ⟨f, hf, trivial, bulk_one _⟩)
  obtain ⟨xs, e4, hxs, hxb⟩ := slice_open (k := 7) (enc := fun a : XC => a.1.2) (mem := fun w a => RE w a.1.1 a.1.2) (sz := fun a => szE a.1.1) Tryz.underlying25 cells_expr (by decide) (fun a => a.2) g4
   (fun {n'} {cs'} {y} hy _ => open_ex _ hy (Nat.le_refl _))
  have hfl2 : fl2.l.length = fl.l.length := by
   have h := e3b.symm.trans e3
   simp only [encS, List.cons.injEq, Value.slice.injEq, and_true] at h
   exact h.2.1
  simp only [encS, List.cons.injEq, and_true] at e0 e1 e2 e3 e4
  subst e0 e1 e2 e3 e4
  rw [ones] at hcb hfb2
  rw [xc_sz] at hxb
  have hx3 := hxs.2.2.1
  rw [xc_flat] at hx3
  have hmax : maxLen = 9223372036854775807 := rfl
  refine ⟨s0, cl.A, ks.A, fl.A, xs.A, cl.l.length, cl.c, ks.l.length, ks.c, fl.l.length, fl.c, xs.l.length, xs.c, cl.l, ks.l, fl.l, xs.l.map (·.1.1), xs.l.map (·.1.2), rfl, by rw [hmax] at hs0; exact hs0, ?_⟩
  exact ⟨rfl, rfl, rfl, List.length_map .., hcl.2.2.1, hks, hfo.2.2.1, hx3, xc_res hxs.2.2.2, fun c hc => by have := hcl.2.2.2 c hc; rw [hmax] at this; exact this,
   fun f hf => ⟨by have := (hfo.2.2.2 f hf).1; rw [hmax] at this; exact this, (hfo.2.2.2 f hf).2.2, (hfo.2.2.2 f hf).2.1⟩, by have q1 := hcl.1; have q2 := hcl.2.1; unfold maxLen at q2; omega, hkl, by have q1 := hfo.1; have q2 := hfo.2.1; unfold maxLen at q2; omega, by have q1 := hxs.1; have q2 := hxs.2.1; unfold maxLen at q2; omega⟩
end Go.Proofs.YtdiaecgpjgdkdaaGreat

namespace Go.Proofs.YtdiaecgpjgdkdaaGreat
open Go.ChangeShapes Go.WideShapes Go.ChangeAt Go.RowKit Go.Joins Go.Deep

theorem nine_ {cs : List Value} (h : cs.length = 9) : ∃ a b c d e f g h i, cs = [a, b, c, d, e, f, g, h, i] := by
 match cs, h with
 | [a, b, c, d, e, f, g, h, i], _ => exact ⟨a, b, c, d, e, f, g, h, i, rfl⟩
theorem cells_version : Tryz.prog.cellsOf 47 = 9 := by kernel_rfl
end Go.Proofs.YtdiaecgpjgdkdaaGreat
