/- AccessFetches returns true and leaves its input as it was, for every input (Rows.AccessFetchesSaid); no condition. -/
import Derived.Test.YtdiaecgpjgdkdaaGreatThS43
import Derived.Test.YtdiaecgpjgdkdaaGreatThS15
import Derived.Test.YtdiaecgpjgdkdaaGreatThS31
import Derived.Deep.LoopGhost
import Derived.Test.YtdiaecgpjgdkdaaGreatThS05
import Derived.Test.YtdiaecgpjgdkdaaGreatThS32
set_option linter.unusedSimpArgs false
set_option linter.unusedVariables false
namespace Go.Proofs.YtdiaecgpjgdkdaaGreat
open Go.RowKit

def VsNL (w : World) (vs : List VeA) : Prop := ∀ p ∈ vs, (Rd w 3 p.row.A p.row.l.length (vcl p.row.l) ∧ p.row.l.length ≤ 9223372036854775807 ∧ ∀ v ∈ p.row.l, v.t.size ≤ 9223372036854775807) ∧ (p.row.A = none → p.row.c = 0)
theorem fit_len {r : List Va} {l : List Int} (h : fitB r l = true) : r.length = l.length := by
 by_cases e : r.length = l.length
 ·
  exact e
 ·
  rw [fitB_ne e] at h; cases h
theorem snd_ok {kl : List Int} {vs : List VeA} (h : SndP kl vs vs.length) : ∀ p ∈ vs, okV kl p := fun p hp => by
 obtain ⟨j, hj, he⟩ := List.getElem_of_mem hp
 exact h.1 j p hj (by rw [List.getElem?_eq_getElem hj, he])
theorem VsNL.n {w : World} {cl : List Col} {vs : List VeA} {n1 : Nat} (h : VsNL w vs) (hs : SndP (cl.map Col.k) vs vs.length) (hc : cl.length = n1) (hk : n1 ≤ 1048576) : VsN w vs := fun p hp =>
 ⟨⟨(h p hp).1.1, by have := fit_len (snd_ok hs p hp).1; rw [List.length_map] at this; omega, (h p hp).1.2.2⟩, (h p hp).2⟩
def PaOk (w : World) (pa : PaA) : Prop := Rd w 3 pa.key.A pa.key.l.length (vcl pa.key.l) ∧ pa.key.l.length ≤ 9223372036854775807 ∧ ∀ v ∈ pa.key.l, v.t.size ≤ 9223372036854775807
theorem Rd.pa6 {w : World} {A : Option Addr} {l : List PaA} {n : Nat} (h : Rd w 6 A n (l.flatMap encPa)) (hn : l.length = n) {k : Nat} (hk : k < n) :
  ∃ pa b oo, l[k]? = some pa ∧ A = some ⟨b, oo, none⟩ ∧ b < w.heap.size ∧ w.cell? ⟨b, oo + k * 6, none⟩ = some (.int .i64 pa.k) ∧ w.cell? ⟨b, oo + k * 6 + 1, none⟩ = some (.slice pa.key.A pa.key.l.length pa.key.c) ∧ w.cell? ⟨b, oo + k * 6 + 2, none⟩ = some (.int .i64 pa.r.1.1) ∧ w.cell? ⟨b, oo + k * 6 + 3, none⟩ = some (.int .i64 pa.r.1.2) ∧ w.cell? ⟨b, oo + k * 6 + 4, none⟩ = some (.int .i64 pa.r.2.1) ∧ w.cell? ⟨b, oo + k * 6 + 5, none⟩ = some (.int .i64 pa.r.2.2) := by
 have hk' : k < l.length := by omega
 obtain ⟨b, oo, hA, hb, hc⟩ := h.2 (by omega)
 have f := fun j hj => fm_get (enc := encPa) (k := 6) (fun _ => rfl) l k hk' j hj
 have g0 := hc (k * 6 + 0) _ (f 0 (by omega))
 have g1 := hc (k * 6 + 1) _ (f 1 (by omega))
 have g2 := hc (k * 6 + 2) _ (f 2 (by omega))
 have g3 := hc (k * 6 + 3) _ (f 3 (by omega))
 have g4 := hc (k * 6 + 4) _ (f 4 (by omega))
 have g5 := hc (k * 6 + 5) _ (f 5 (by omega))
 exact ⟨l[k], b, oo, List.getElem?_eq_getElem hk', hA, hb, g0, g1, g2, g3, g4, g5⟩
theorem fit_vv : ∀ {r : List Va} {l : List Int}, fitB r l = true → ∀ v ∈ r, vvB v = true
 | [], _, _, v, h => by cases h
 | v :: r, [], h, _, _ => by simp [fitB] at h
 | v :: r, k :: l, h, x, hx => by
  rw [fitB, Bool.and_eq_true, Bool.and_eq_true] at h
  rcases List.mem_cons.1 hx with rfl | hx
  ·
   exact h.1.1
  ·
   exact fit_vv h.2 x hx
theorem snd_at {kl : List Int} {vs : List VeA} (h : SndP kl vs vs.length) : (∀ p ∈ vs, pvB p.v = true ∧ pvB p.s = true) ∧ ∀ p ∈ vs, ∀ v ∈ p.row.l, vvB v = true := by
 have k : ∀ p ∈ vs, okV kl p := fun p hp => by
  obtain ⟨j, hj, he⟩ := List.getElem_of_mem hp
  exact h.1 j p hj (by rw [List.getElem?_eq_getElem hj, he])
 exact ⟨fun p hp => (k p hp).2, fun p hp => fit_vv (k p hp).1⟩
set_option maxRecDepth 100000 in
set_option maxHeartbeats 16000000 in
theorem lawFetches_any (s0 : ByteArray) (A1 K A3 A4 : Option Addr) (n1 m1 n2 kc n3 m3 n4 m4 : Nat) (cl : List Col) (ks : List Int) (fl : List Fo) (es : List Ex) (css : List (List Value)) (L : Option Addr) (n lc : Nat) (vs : List VeA) (PA : Option Addr) (np pc : Nat) (pl : List PaA) (w : World) (hs0 : s0.size ≤ 9223372036854775807) (hT : TabOk w A1 K A3 A4 n1 n2 n3 n4 cl ks fl es css)
  (hn : vs.length = n) (hnb : n ≤ 9223372036854775807) (hL : Rd w 9 L n (vs.flatMap encVe)) (hV : VsNL w vs) (hpn : pl.length = np) (hpb : np ≤ 9223372036854775807) (hP : Rd w 6 PA np (pl.flatMap encPa)) (hPO : ∀ pa ∈ pl, PaOk w pa) :
  Calls Tryz.prog 3 #[.agg #[.string s0, .slice A1 n1 m1, .slice K n2 kc, .slice A3 n3 m3, .slice A4 n4 m4], .slice L n lc, .slice PA np pc] w fun e w' => e = .returned (.bool true) ∧ Ext w w' := by
 have hVO : VsL w vs := fun p hp => (hV p hp).1
 have HUS := Lib.hid fun W (e : Ext w W) => usable_any s0 A1 K A3 A4 n1 m1 n2 kc n3 m3 n4 m4 cl ks fl es css L n lc vs W hs0 (hT.ext e) hn hnb (hL.ext e) (hVO.ext e)
 have HNW : Hid (n ≤ 200 → SndP (cl.map Col.k) vs vs.length → n1 ≤ 1048576 → n2 ≤ 1048576 → ∀ W, Ext w W → Calls Tryz.prog 9 #[.agg #[.string s0, .slice A1 n1 m1, .slice K n2 kc, .slice A3 n3 m3, .slice A4 n4 m4], .slice L n lc] W fun e w' => ∃ xb S, e = .returned (pt xb) ∧ IxM w' xb ks S ∧ S.map vcO = srtC (vs.map vcO) ∧ Ext W w') := Lib.hid fun h1 h2 h3 h4 W e => by
  have := new49_any s0 A1 A3 A4 K n1 m1 n3 m3 n4 m4 kc ks L n lc vs W (by rw [hT.kn]; exact hT.k.ext e) (by rw [hT.kn]; exact h4) hn (hL.ext e) ((hV.n h2 hT.cn h3).ext e) h1 (snd_at h2).1 (snd_at h2).2
  rw [hT.kn] at this
  exact this
 have HRF0 : Hid (n ≤ 200 → SndP (cl.map Col.k) vs vs.length → n1 ≤ 1048576 → n2 ≤ 1048576 → ∀ pa : PaA, PaOk w pa → ∀ W, Ext w W → Calls Tryz.prog 11 #[.agg #[.string s0, .slice A1 n1 m1, .slice K n2 kc, .slice A3 n3 m3, .slice A4 n4 m4], .slice L n lc, .agg #[.int .i64 pa.k, .slice pa.key.A pa.key.l.length pa.key.c, .int .i64 pa.r.1.1, .int .i64 pa.r.1.2, .int .i64 pa.r.2.1, .int .i64 pa.r.2.2]] W (RfP (fetV (hasC ks pa.k pa.key.l pa.r.1 pa.r.2) vs) vs W)) := Lib.hid fun h1 h2 h3 h4 pa hpa W e => by
  have := rfetch_any s0 A1 A3 A4 K n1 m1 n3 m3 n4 m4 kc ks L n lc vs pa.k pa.key.A pa.key.l.length pa.key.c pa.key.l pa.r.1 pa.r.2 W (by rw [hT.kn]; exact hT.k.ext e) (by rw [hT.kn]; exact h4) hn (hL.ext e) ((show VsOk w vs from fun p hp => (hV.n h2 hT.cn h3 p hp).1).ext e) h1 rfl (hpa.1.ext e) hpa.2.1
  rw [hT.kn] at this
  exact this
 have HN := Lib.hid hn
 have HVO : Hid (SndP (cl.map Col.k) vs vs.length → n1 ≤ 1048576 → VsOk w vs) := Lib.hid fun h2 h3 p hp => (hV.n h2 hT.cn h3 p hp).1
 have HPN := Lib.hid hpn
 have HP := Lib.hid hP
 have HPO := Lib.hid hPO
 clear hs0 hT hn hL hV hVO hpn hP hPO
 go_enter Tryz.func3, Tryz.ntmps3
 go_wp2_with (go_at_call 5; refine (len_nil _).mono ?_; rintro e w1 ⟨rfl, hb1⟩; obtain ⟨x1, rfl⟩ := hb1.get; clear hb1)
 refine Calls.mono (fetch_none none 0 none 0 0 (0, 0) (0, 0) (.inl rfl) _) ?_
 rintro e w2 ⟨A2, m2, c2, Q2, rfl, hq1, -, -, hq2, hb2⟩
 obtain ⟨x2, rfl⟩ := hb2.get
 obtain rfl : m2 = 0 := by
  have h := congrArg List.length hq2.out
  rw [List.length_map] at h
  exact hq1.out.symm.trans h
 clear hb2 hq1 hq2
 go_wp2_with fail
 refine (HUS.out _ (ex_)).mono ?_
 rintro e w3 ⟨⟨ub, rfl, hub⟩, hb3⟩
 obtain ⟨x3, rfl⟩ := hb3.get
 clear hb3 HUS
 cases ub
 ·
  clear hub
  go_wp2_with fail
  refine (awake_any _).mono ?_
  rintro e w9 ⟨rfl, hb9⟩
  obtain ⟨x9, rfl⟩ := hb9.get
  clear hb9
  go_wp2
  go_ret
  exact ⟨rfl, ex_⟩
 ·
  obtain ⟨hn2, hsd, hb12, hb22⟩ := hub rfl
  have HNW := Lib.hid (HNW.out hn2 hsd hb12 hb22)
  have HRF0 := Lib.hid (HRF0.out hn2 hsd hb12 hb22)
  have HVO := Lib.hid (HVO.out hsd hb12)
  have HDS := Lib.hid (dis_of hsd)
  clear hub hsd hb12 hb22
  go_wp2_with fail
  refine Calls.mono (HNW.out _ (ex_)) ?_
  rintro e w4 ⟨xb, S, rfl, hix, hS, hb4⟩
  obtain ⟨x4, rfl⟩ := hb4.get
  have HIX := Lib.hid hix
  have HS := Lib.hid hS
  have HSL : Hid (S.length = n) := Lib.hid (by
   have h := congrArg List.length hS
   rw [List.length_map, (srtC_perm _).length_eq, List.length_map] at h
   exact h.trans HN.out)
  obtain ⟨W4, hW4⟩ : ∃ W, ext (ext (ext (ext (w.alloc (.cells #[.string s0, .slice A1 n1 m1, .slice K n2 kc, .slice A3 n3 m3, .slice A4 n4 m4] 27)) x1) x2) x3) x4 = W := ⟨_, rfl⟩
  have hE4 : Ext w W4 := by rw [← hW4]; exact (ex_)
  have hl4 : w.heap.size < W4.heap.size := by rw [← hW4]; simp [size_ext]; omega
  have t0 : W4.cell? ⟨w.heap.size, 0, none⟩ = some (.string s0) := by rw [← hW4]; simp [go_sem, ↓IntWalk.iteOmega]
  have t1 : W4.cell? ⟨w.heap.size, 1, none⟩ = some (.slice A1 n1 m1) := by rw [← hW4]; simp [go_sem, ↓IntWalk.iteOmega]
  have t2 : W4.cell? ⟨w.heap.size, 2, none⟩ = some (.slice K n2 kc) := by rw [← hW4]; simp [go_sem, ↓IntWalk.iteOmega]
  have t3 : W4.cell? ⟨w.heap.size, 3, none⟩ = some (.slice A3 n3 m3) := by rw [← hW4]; simp [go_sem, ↓IntWalk.iteOmega]
  have t4 : W4.cell? ⟨w.heap.size, 4, none⟩ = some (.slice A4 n4 m4) := by rw [← hW4]; simp [go_sem, ↓IntWalk.iteOmega]
  rw [hW4] at HIX ⊢
  clear hW4 hix hS hb4 HNW
  go_wp2
  go_loopw [30] (fun si wr => ∃ k : Nat, k ≤ np ∧ si = .int .i64 k ∧ Ext W4 wr) (fun si _ => np - (intOf si).toNat)
  case atStart => exact ⟨0, Nat.zero_le _, rfl, Ext.refl' _⟩
  case round =>
   obtain ⟨k, hk, rfl, hE⟩ := hrel
   obtain ⟨x, rfl⟩ := hE.get
   clear hE
   by_cases hlt : k < np
   ·
    obtain ⟨pa, b, oo, hpi, rfl, hb, c0, c1, c2, c3, c4, c5⟩ := (HP.out.ext hE4).pa6 HPN.out hlt
    have hpo := HPO.out pa (List.mem_of_getElem? hpi)
    have HFE := Lib.hid fun W (e : Ext W4 W) => fetch_any xb ks S pa.k pa.key.A pa.key.l.length pa.key.c pa.key.l pa.r.1 pa.r.2 W (HIX.out.ext e) rfl (hpo.1.ext (hE4.tr e)) hpo.2.1 hpo.2.2
    have HRF := Lib.hid (HRF0.out pa hpo)
    have HQV : Hid ((fetV (hasC ks pa.k pa.key.l pa.r.1 pa.r.2) vs).map vcO = (S.map vcO).filter (hasC ks pa.k pa.key.l pa.r.1 pa.r.2)) := Lib.hid (by rw [fetV_map, fetC_eq HDS.out, HS.out])
    have HQ2 : Hid ((fetV (hasC ks pa.k pa.key.l pa.r.1 pa.r.2) vs).length ≤ 1048576) := Lib.hid (by
     have h := congrArg List.length HQV.out
     rw [List.length_map] at h
     rw [h]
     refine Nat.le_trans (List.length_filter_le _ _) ?_
     rw [List.length_map, HSL.out]
     omega)
    generalize fetV (hasC ks pa.k pa.key.l pa.r.1 pa.r.2) vs = QV at HRF HQV HQ2
    generalize (S.map vcO).filter (hasC ks pa.k pa.key.l pa.r.1 pa.r.2) = FC at HFE HQV
    have hkz : (k : Int) < (np : Int) := by omega
    clear hpi hpo
    unfold FetP at HFE
    unfold RfP at HRF
    go_wp2_with fail
    refine wp_region_held_drew (S := (fun w' => w'.cell? ⟨w.heap.size, 0, none⟩ = some (.string s0) ∧ w'.cell? ⟨w.heap.size, 1, none⟩ = some (.slice A1 n1 m1) ∧ w'.cell? ⟨w.heap.size, 2, none⟩ = some (.slice K n2 kc) ∧ w'.cell? ⟨w.heap.size, 3, none⟩ = some (.slice A3 n3 m3) ∧ w'.cell? ⟨w.heap.size, 4, none⟩ = some (.slice A4 n4 m4) ∧ w'.cell? ⟨b, oo + k * 6, none⟩ = some (.int .i64 pa.k) ∧ w'.cell? ⟨b, oo + k * 6 + 1, none⟩ = some (.slice pa.key.A pa.key.l.length pa.key.c) ∧ w'.cell? ⟨b, oo + k * 6 + 2, none⟩ = some (.int .i64 pa.r.1.1) ∧ w'.cell? ⟨b, oo + k * 6 + 3, none⟩ = some (.int .i64 pa.r.1.2) ∧ w'.cell? ⟨b, oo + k * 6 + 4, none⟩ = some (.int .i64 pa.r.2.1) ∧ w'.cell? ⟨b, oo + k * 6 + 5, none⟩ = some (.int .i64 pa.r.2.2))) (by kernel_rfl) (by simp [go_sem, ↓IntWalk.iteOmega, *]) (fun hHeld => ?_)
    refine tkH 0 ?oi101 (?v101) ?hi101 ?hy101 ?_
    case hi101 => (simp only [gA, gS, gZ]; try rfl)
    case hy101 => (refine Or.inl ⟨by rfl, ?_⟩; intro wq hSw; (try dsimp only at hSw); go_simp; (try with_reducible rfl))
    (try simp only [Act.put, pA, pZ, pS])
    refine tkH 1 ?oi102 (?v102) ?hi102 ?hy102 ?_
    case hi102 => (simp only [gA, gS, gZ]; try rfl)
    case hy102 => (refine Or.inl ⟨by rfl, ?_⟩; intro wq hSw; (try dsimp only at hSw); go_simp; (try with_reducible rfl))
    (try simp only [Act.put, pA, pZ, pS])
    refine tkH 2 ?oi103 (?v103) ?hi103 ?hy103 ?_
    case hi103 => (simp only [gA, gS, gZ]; try rfl)
    case hy103 => (refine Or.inl ⟨by rfl, ?_⟩; intro wq hSw; (try dsimp only at hSw); go_simp; (try with_reducible rfl))
    (try simp only [Act.put, pA, pZ, pS])
    refine tkH 3 ?oi104 (?v104) ?hi104 ?hy104 ?_
    case hi104 => (simp only [gA, gS, gZ]; try rfl)
    case hy104 => (refine Or.inl ⟨by rfl, ?_⟩; intro wq hSw; (try dsimp only at hSw); go_simp; (try with_reducible rfl))
    (try simp only [Act.put, pA, pZ, pS])
    refine tkH 4 ?oi105 (?v105) ?hi105 ?hy105 ?_
    case hi105 => (simp only [gA, gS, gZ]; try rfl)
    case hy105 => (refine Or.inl ⟨by rfl, ?_⟩; intro wq hSw; (try dsimp only at hSw); go_simp; (try with_reducible rfl))
    (try simp only [Act.put, pA, pZ, pS])
    refine tkH 6 ?oi106 (?v106) ?hi106 ?hy106 ?_
    case hi106 => (simp only [gA, gS, gZ]; try rfl)
    case hy106 => (refine Or.inl ⟨by rfl, ?_⟩; intro wq hSw; (try dsimp only at hSw); go_simp; (try with_reducible rfl))
    (try simp only [Act.put, pA, pZ, pS])
    refine tkH 7 ?oi107 (?v107) ?hi107 ?hy107 ?_
    case hi107 => (simp only [gA, gS, gZ]; try rfl)
    case hy107 => (refine Or.inl ⟨by rfl, ?_⟩; intro wq hSw; (try dsimp only at hSw); go_simp; (try with_reducible rfl))
    (try simp only [Act.put, pA, pZ, pS])
    refine tkH 8 ?oi108 (?v108) ?hi108 ?hy108 ?_
    case hi108 => (simp only [gA, gS, gZ]; try rfl)
    case hy108 => (refine Or.inl ⟨by rfl, ?_⟩; intro wq hSw; (try dsimp only at hSw); go_simp; (try with_reducible rfl))
    (try simp only [Act.put, pA, pZ, pS])
    refine tkH 9 ?oi109 (?v109) ?hi109 ?hy109 ?_
    case hi109 => (simp only [gA, gS, gZ]; try rfl)
    case hy109 => (refine Or.inl ⟨by rfl, ?_⟩; intro wq hSw; (try dsimp only at hSw); go_simp; (try with_reducible rfl))
    (try simp only [Act.put, pA, pZ, pS])
    refine tkH 10 ?oi110 (?v110) ?hi110 ?hy110 ?_
    case hi110 => (simp only [gA, gS, gZ]; try rfl)
    case hy110 => (refine Or.inl ⟨by rfl, ?_⟩; intro wq hSw; (try dsimp only at hSw); go_simp; (try with_reducible rfl))
    (try simp only [Act.put, pA, pZ, pS])
    refine tkH 11 ?oi111 (?v111) ?hi111 ?hy111 ?_
    case hi111 => (simp only [gA, gS, gZ]; try rfl)
    case hy111 => (refine Or.inl ⟨by rfl, ?_⟩; intro wq hSw; (try dsimp only at hSw); go_simp; (try with_reducible rfl))
    (try simp only [Act.put, pA, pZ, pS])
    refine wpAnyH_ready (rs := [5]) (by kernel_rfl) (by simp) ?_
    refine AllReadyH.cons (o := ?oi112) ?hi112 ?ti112 AllReadyH.nil
    case hi112 => (simp only [gA, gS, gZ]; try rfl)
    case ti112 =>
     intro KQ hKQ
     go_simp
     go_at_call 6
     refine Calls.mono (HFE.out _ (ex_)) ?_
     rintro e w5 ⟨A5, m5, c5, Q5, rfl, HQl, HQr, HQt, HQm, hb5⟩
     obtain ⟨x5, rfl⟩ := hb5.get
     clear hb5
     refine hKQ.out _ _ (by simp [go_sem, ↓IntWalk.iteOmega, *]) (fun hHeld2 => ?_)
     clear hHeld hKQ KQ; have hHeld := hHeld2; clear hHeld2
     (try simp only [Act.put, pA, pZ, pS])
     refine wpAnyH_ready (rs := [12]) (by kernel_rfl) (by simp) ?_
     refine AllReadyH.cons (o := ?oi113) ?hi113 ?ti113 AllReadyH.nil
     case hi113 => (simp only [gA, gS, gZ]; try rfl)
     case ti113 =>
      intro KQ hKQ
      go_simp
      go_at_call 11
      refine Calls.mono (HRF.out _ (ex_)) ?_
      rintro e w6 ⟨A6, c6, rfl, hb6, HR6, HM6⟩
      obtain ⟨x6, rfl⟩ := hb6.get
      clear hb6
      refine hKQ.out _ _ (by simp [go_sem, ↓IntWalk.iteOmega, *]) (fun hHeld2 => ?_)
      clear hHeld hKQ KQ; have hHeld := hHeld2; clear hHeld2
      (try simp only [Act.put, pA, pZ, pS])
      refine wpAnyH_ready (rs := [13]) (by kernel_rfl) (by simp) ?_
      refine AllReadyH.cons (o := ?oi114) ?hi114 ?ti114 AllReadyH.nil
      case hi114 => (simp only [gA, gS, gZ]; try rfl)
      case ti114 =>
       intro KQ hKQ
       go_simp
       go_at_call 10
       have hln : QV.length = m5 := by rw [← HQl.out]; simpa using congrArg List.length (HQV.out.trans HQm.out.symm)
       rw [hln]
       refine Calls.mono (sameX_any A5 A6 m5 c5 c6 Q5 QV _ HQl.out (HQr.out.ext (ex_)) (by rw [← hln]; exact HR6.out.ext (ex_)) ((HQt.out.ext (ex_)).ok) (fun x hx => (HVO.out.ext (ex_)) x (HM6.out x hx)) (HQm.out.trans HQV.out.symm) (by rw [← hln]; exact HQ2.out)) ?_
       rintro e w7 ⟨rfl, hb7⟩
       obtain ⟨x7, rfl⟩ := hb7.get
       clear hb7
       refine hKQ.out _ _ (by simp [go_sem, ↓IntWalk.iteOmega, *]) (fun hHeld2 => ?_)
       clear hHeld hKQ KQ; have hHeld := hHeld2; clear hHeld2
       (try simp only [Act.put, pA, pZ, pS])
       refine tkH 14 ?oi115 (?v115) ?hi115 ?hy115 ?_
       case hi115 => (simp only [gA, gS, gZ]; try rfl)
       case hy115 => (refine Or.inl ⟨by rfl, ?_⟩; intro wq hSw; (try dsimp only at hSw); go_simp; (try with_reducible rfl))
       (try simp only [Act.put, pA, pZ, pS])
       refine wpAnyH_done (by kernel_rfl) ?_ _
       go_wp2
       go_roundw
       case rel => exact ⟨k + 1, by omega, by go_num, ex_⟩
       case measure => simp [intOf]; omega
   ·
    obtain rfl : k = np := by omega
    have hkz : ¬ (k : Int) < (k : Int) := by omega
    have HLE := Lib.hid fun W (e : Ext W4 W) => lenX_any xb ks S W (HIX.out.ext e)
    rw [HSL.out] at HLE
    go_wp2_with (first | (go_at_call 5; refine (HLE.out _ (ex_)).mono ?_; rintro e w8 ⟨rfl, hb8⟩; obtain ⟨x8, rfl⟩ := hb8.get; clear hb8) | (go_at_call 8; refine (awake_any _).mono ?_; rintro e w9 ⟨rfl, hb9⟩; obtain ⟨x9, rfl⟩ := hb9.get; clear hb9))
    go_ret
    exact ⟨rfl, hE4.tr (ex_)⟩

end Go.Proofs.YtdiaecgpjgdkdaaGreat

namespace Go.Proofs.YtdiaecgpjgdkdaaGreat
open Go.ChangeShapes Go.WideShapes Go.ChangeAt Go.RowKit Go.Joins Go.Deep

theorem slice_openN {t e k : Nat} {α : Type} {enc : α → List Value} {mem : World → α → Prop} {sz : α → Nat} (ht : Tryz.prog.underlying t = some (.slice e)) (hC : Tryz.prog.cellsOf e = k) (hk : 0 < k) (hen : ∀ a, (enc a).length = k)
  {H : Type} {en : TypeId × Value → H} {w : World} {n : Nat} {cs : List Value} {x : DataW H × List MemPlace} (h : DataW.trod en Tryz.prog w 0 (fun _ => true) true n t cs = some x)
  (hI : ∀ {n' : Nat} {cs' : List Value} {y : DataW H × List MemPlace}, DataW.trod en Tryz.prog w 0 (fun _ => true) true n' e cs' = some y → Rows.uptoBulk y.1 < Rows.uptoBulk x.1 → ∃ a, cs' = enc a ∧ mem w a ∧ sz a ≤ Rows.uptoBulk y.1) :
  ∃ s : Sl α, cs = encS s ∧ memS k enc mem w s ∧ (s.l.map sz).sum + 1 ≤ Rows.uptoBulk x.1 ∧ (s.A = none → s.c = 0) := by
 rcases open_slice ht h with ⟨hcs, hx⟩ | ⟨a, len, cap, m, n, D, Pl, hcs, hb, hl, hm, hmm, hx, hi⟩
 ·
  exact ⟨⟨none, 0, []⟩, hcs, ⟨Nat.le_refl _, Nat.zero_le _, Rd.nil, by simp⟩, by simpa using bulk_one x.1, fun _ => rfl⟩
 ·
  simp only [if_true] at hmm
  subst hmm
  have hq : ∀ i, i < len → ∃ z : α, mem w z ∧ (∀ j, j < k → w.cell? (a.add (i * k + j)) = (enc z)[j]?) ∧ sz z ≤ Rows.uptoBulk (D i) := by
   intro i hil
   obtain ⟨cs', hc, ht'⟩ := hi i (by omega)
   have hlt : Rows.uptoBulk (D i) < Rows.uptoBulk x.1 := by
    rw [hx]
    have h1 : Rows.uptoBulk (D i) ≤ Rows.uptoBulkAll ((List.range len).map D) := bulk_mem (List.mem_map.2 ⟨i, List.mem_range.2 hil, rfl⟩)
    simp only [Rows.uptoBulk]
    omega
   obtain ⟨z, rfl, hz, hsz⟩ := hI ht' hlt
   obtain ⟨_, _, hat⟩ := World.cells?_some hc
   rw [hC] at hat
   refine ⟨z, hz, fun j hj => ?_, hsz⟩
   rw [← Go.Deep.add_add]
   exact hat j hj
  obtain ⟨ls, hls, hql⟩ := list_of len hq
  have hsum : (ls.map sz).sum ≤ Rows.uptoBulkAll ((List.range len).map D) := bulk_sum (by simp [hls]) (fun i h2 h3 => by simpa using (hql i h2).2.2)
  subst hls
  refine ⟨⟨some a, m, ls⟩, hcs, ⟨hl, hm, ⟨fm_len hen ls, fun hpos => ?_⟩, fun z hz => ?_⟩, ?_, fun h => by cases h⟩
  ·
   have hlp : 0 < ls.length := by
    rcases Nat.eq_zero_or_pos ls.length with h0 | h0
    ·
     simp only [h0, Nat.zero_mul] at hpos; omega
    ·
     exact h0
   have h00 := (hql 0 hlp).2.1 0 hk
   rw [Nat.zero_mul, Nat.add_zero, List.getElem?_eq_getElem (by rw [hen]; exact hk)] at h00
   have ha0 : a.add 0 = a := by simp [Addr.add]
   rw [ha0] at h00
   obtain ⟨b, o, s⟩ := a
   have hs : s = none := by
    cases s with
    | none => rfl
    | some s =>
     exfalso
     simp only [World.cell?] at h00
     split at h00 <;> simp at h00
   subst hs
   refine ⟨b, o, rfl, cell_lt h00, fun j u hu => ?_⟩
   have hj : j < ls.length * k := by
    have := (List.getElem?_eq_some_iff.1 hu).1
    rwa [fm_len hen ls] at this
   have hdm : j / k < ls.length := Nat.div_lt_of_lt_mul (by rw [Nat.mul_comm]; exact hj)
   have hjm : j / k * k + j % k = j := Nat.div_add_mod' j k
   have h1 := (hql (j / k) hdm).2.1 (j % k) (Nat.mod_lt _ hk)
   rw [hjm, add_none] at h1
   rw [h1, ← fm_get hen ls (j / k) hdm (j % k) (Nat.mod_lt _ hk), hjm]
   exact hu
  ·
   obtain ⟨i, hi', rfl⟩ := List.getElem_of_mem hz
   exact (hql i hi').1
  ·
   rw [hx]
   simp only [Rows.uptoBulk]
   omega

theorem open_rwN {H : Type} {en : TypeId × Value → H} {w : World} {n : Nat} {cs : List Value} {x : DataW H × List MemPlace} (h : DataW.trod en Tryz.prog w 0 (fun _ => true) true n 33 cs = some x) :
  ∃ s : Sl Va, cs = [.slice s.A s.l.length s.c] ∧ memS 3 vc (fun _ v => v.t.size ≤ maxLen) w s ∧ s.l.length + 1 ≤ Rows.uptoBulk x.1 ∧ (s.A = none → s.c = 0) := by
 obtain ⟨s, e, h1, h2, h3⟩ := slice_openN (k := 3) (enc := vc) (mem := fun _ v => v.t.size ≤ maxLen) (sz := fun _ => 1) Tryz.underlying33 (by kernel_rfl) (by decide) (fun _ => rfl) h
  (fun {n'} {cs'} {y} hy _ => by
   obtain ⟨a, ha, hm⟩ := opnVa.2 hy
   exact ⟨a, ha, hm, bulk_one _⟩)
 rw [ones] at h2
 exact ⟨s, e, h1, h2, h3⟩

def veMN (w : World) (p : VeA) : Prop := (Rd w 3 p.row.A p.row.l.length (vcl p.row.l) ∧ p.row.l.length ≤ 9223372036854775807 ∧ ∀ v ∈ p.row.l, v.t.size ≤ 9223372036854775807) ∧ (p.row.A = none → p.row.c = 0)

set_option maxRecDepth 100000 in
theorem open_verN {H : Type} {en : TypeId × Value → H} {w : World} {n : Nat} {cs : List Value} {x : DataW H × List MemPlace} (hf : DataW.trod en Tryz.prog w 0 (fun _ => true) true n 47 cs = some x) :
  ∃ p : VeA, cs = encVe p ∧ veMN w p := by
 obtain ⟨ys, n', _, hx, hlen, hyl, hfl⟩ := DataW.trod_struct Tryz.underlying47 hf
 obtain ⟨c0, c1, c2, c3, c4, c5, c6, c7, c8, rfl⟩ := nine_ (hlen.trans cells_version)
 have hy5 : ys.length = 7 := hyl
 match ys, hy5 with
 | [y0, y1, y2, y3, y4, y5, y6], _ =>
  have g0 : DataW.trod en Tryz.prog w 0 (fun _ => true) true n' 3 (([c0, c1, c2, c3, c4, c5, c6, c7, c8].drop 0).take (Tryz.prog.cellsOf 3)) = some y0 := hfl 0 _ rfl
  have g1 : DataW.trod en Tryz.prog w 0 (fun _ => true) true n' 3 (([c0, c1, c2, c3, c4, c5, c6, c7, c8].drop 1).take (Tryz.prog.cellsOf 3)) = some y1 := hfl 1 _ rfl
  have g2 : DataW.trod en Tryz.prog w 0 (fun _ => true) true n' 33 (([c0, c1, c2, c3, c4, c5, c6, c7, c8].drop 2).take (Tryz.prog.cellsOf 33)) = some y2 := hfl 2 _ rfl
  have g3 : DataW.trod en Tryz.prog w 0 (fun _ => true) true n' 35 (([c0, c1, c2, c3, c4, c5, c6, c7, c8].drop 3).take (Tryz.prog.cellsOf 35)) = some y3 := hfl 3 _ rfl
  have g4 : DataW.trod en Tryz.prog w 0 (fun _ => true) true n' 35 (([c0, c1, c2, c3, c4, c5, c6, c7, c8].drop 5).take (Tryz.prog.cellsOf 35)) = some y4 := hfl 4 _ rfl
  have g5 : DataW.trod en Tryz.prog w 0 (fun _ => true) true n' 3 (([c0, c1, c2, c3, c4, c5, c6, c7, c8].drop 7).take (Tryz.prog.cellsOf 3)) = some y5 := hfl 5 _ rfl
  have g6 : DataW.trod en Tryz.prog w 0 (fun _ => true) true n' 3 (([c0, c1, c2, c3, c4, c5, c6, c7, c8].drop 8).take (Tryz.prog.cellsOf 3)) = some y6 := hfl 6 _ rfl
  rw [show Tryz.prog.cellsOf 3 = 1 from by kernel_rfl] at g0 g1 g5 g6
  rw [show Tryz.prog.cellsOf 33 = 1 from by kernel_rfl] at g2
  rw [show Tryz.prog.cellsOf 35 = 2 from by kernel_rfl] at g3 g4
  simp only [List.drop, List.take] at g0 g1 g2 g3 g4 g5 g6
  obtain ⟨i0, e0, _⟩ := opnInt.2 g0
  obtain ⟨i1, e1, _⟩ := opnInt.2 g1
  obtain ⟨s, e2, h1, h2, h3⟩ := open_rwN g2
  obtain ⟨p3, e3, _⟩ := opnPer.2 g3
  obtain ⟨p4, e4, _⟩ := opnPer.2 g4
  obtain ⟨i5, e5, _⟩ := opnInt.2 g5
  obtain ⟨i6, e6, _⟩ := opnInt.2 g6
  simp only [List.cons.injEq, and_true] at e0 e1 e2 e3 e4 e5 e6
  obtain ⟨rfl, rfl⟩ := e3
  obtain ⟨rfl, rfl⟩ := e4
  subst e0 e1 e2 e5 e6
  exact ⟨⟨i0, i1, s, p3, p4, i5, i6⟩, rfl, ⟨h1.2.2.1, by show s.l.length ≤ _; have q1 := h1.1; have q2 := h1.2.1; unfold maxLen at q2; omega, fun v hv => by have := h1.2.2.2 v hv; unfold maxLen at this; exact this⟩, h3⟩

set_option maxRecDepth 100000 in
theorem open_versN {H : Type} {en : TypeId × Value → H} {w : World} {r : Reach} {b0 : Nat} {u : Value} {d : DataW H} {p : List MemPlace}
  (hv : Value.okWide Tryz.prog w r b0 28 u) (h : DataW.Trod en Tryz.prog w 0 (fun _ => true) true 28 u d p) :
  ∃ s : Sl VeA, u = .slice s.A s.l.length s.c ∧ s.l.length ≤ s.c ∧ s.c ≤ maxLen ∧ Rd w 9 s.A s.l.length (s.l.flatMap encVe) ∧ VsNL w s.l ∧ s.l.length + 1 ≤ Rows.uptoBulk d := by
 obtain ⟨a, len, cap, rfl⟩ := okWide_slice Tryz.underlying28 hv
 obtain ⟨fuel, hf⟩ := h
 obtain ⟨s, e, h1, h2, _⟩ := slice_openN (k := 9) (enc := encVe) (mem := veMN) (sz := fun _ => 1) Tryz.underlying28 cells_version (by decide) (fun _ => rfl) hf
  (fun {n'} {cs'} {y} hy _ => by
   obtain ⟨a, ha, hm⟩ := open_verN hy
   exact ⟨a, ha, hm, bulk_one _⟩)
 rw [ones] at h2
 have e2 : Value.slice a len cap = .slice s.A s.l.length s.c := by simpa [encS, Value.cells] using e
 exact ⟨s, e2, h1.1, h1.2.1, h1.2.2.1, h1.2.2.2, h2⟩

theorem six_ {cs : List Value} (h : cs.length = 6) : ∃ a b c d e f, cs = [a, b, c, d, e, f] := by
 match cs, h with
 | [a, b, c, d, e, f], _ => exact ⟨a, b, c, d, e, f, rfl⟩
theorem cells_path : Tryz.prog.cellsOf 39 = 6 := by kernel_rfl
set_option maxRecDepth 100000 in
theorem open_pth {H : Type} {en : TypeId × Value → H} {w : World} {n : Nat} {cs : List Value} {x : DataW H × List MemPlace} (hf : DataW.trod en Tryz.prog w 0 (fun _ => true) true n 39 cs = some x) :
  ∃ p : PaA, cs = encPa p ∧ PaOk w p := by
 obtain ⟨ys, n', _, hx, hlen, hyl, hfl⟩ := DataW.trod_struct Tryz.underlying39 hf
 obtain ⟨c0, c1, c2, c3, c4, c5, rfl⟩ := six_ (hlen.trans cells_path)
 have hy5 : ys.length = 3 := hyl
 match ys, hy5 with
 | [y0, y1, y2], _ =>
  have g0 : DataW.trod en Tryz.prog w 0 (fun _ => true) true n' 3 (([c0, c1, c2, c3, c4, c5].drop 0).take (Tryz.prog.cellsOf 3)) = some y0 := hfl 0 _ rfl
  have g1 : DataW.trod en Tryz.prog w 0 (fun _ => true) true n' 33 (([c0, c1, c2, c3, c4, c5].drop 1).take (Tryz.prog.cellsOf 33)) = some y1 := hfl 1 _ rfl
  have g2 : DataW.trod en Tryz.prog w 0 (fun _ => true) true n' 37 (([c0, c1, c2, c3, c4, c5].drop 2).take (Tryz.prog.cellsOf 37)) = some y2 := hfl 2 _ rfl
  rw [show Tryz.prog.cellsOf 3 = 1 from by kernel_rfl] at g0
  rw [show Tryz.prog.cellsOf 33 = 1 from by kernel_rfl] at g1
  rw [show Tryz.prog.cellsOf 37 = 4 from by kernel_rfl] at g2
  simp only [List.drop, List.take] at g0 g1 g2
  obtain ⟨i0, e0, _⟩ := opnInt.2 g0
  obtain ⟨s, e1, h1, h2, _⟩ := open_rwN g1
  obtain ⟨r, e2, _⟩ := opnRc.2 g2
  simp only [List.cons.injEq, and_true] at e0 e1 e2
  obtain ⟨rfl, rfl, rfl, rfl⟩ := e2
  subst e0 e1
  exact ⟨⟨i0, s, r⟩, rfl, h1.2.2.1, by show s.l.length ≤ _; have q1 := h1.1; have q2 := h1.2.1; unfold maxLen at q2; omega, fun v hv => by have := h1.2.2.2 v hv; unfold maxLen at this; exact this⟩
set_option maxRecDepth 100000 in
theorem open_pths {H : Type} {en : TypeId × Value → H} {w : World} {r : Reach} {b0 : Nat} {u : Value} {d : DataW H} {p : List MemPlace}
  (hv : Value.okWide Tryz.prog w r b0 29 u) (h : DataW.Trod en Tryz.prog w 0 (fun _ => true) true 29 u d p) :
  ∃ s : Sl PaA, u = .slice s.A s.l.length s.c ∧ Rd w 6 s.A s.l.length (s.l.flatMap encPa) ∧ (∀ pa ∈ s.l, PaOk w pa) ∧ s.l.length ≤ 9223372036854775807 := by
 obtain ⟨a, len, cap, rfl⟩ := okWide_slice Tryz.underlying29 hv
 obtain ⟨fuel, hf⟩ := h
 obtain ⟨s, e, h1, h2, _⟩ := slice_openN (k := 6) (enc := encPa) (mem := PaOk) (sz := fun _ => 1) Tryz.underlying29 cells_path (by decide) (fun _ => rfl) hf
  (fun {n'} {cs'} {y} hy _ => by
   obtain ⟨a, ha, hm⟩ := open_pth hy
   exact ⟨a, ha, hm, bulk_one _⟩)
 rw [ones] at h2
 have e2 : Value.slice a len cap = .slice s.A s.l.length s.c := by simpa [encS, Value.cells] using e
 exact ⟨s, e2, h1.2.2.1, h1.2.2.2, by have q1 := h1.1; have q2 := h1.2.1; unfold maxLen at q2; omega⟩
end Go.Proofs.YtdiaecgpjgdkdaaGreat

namespace Go.Proofs.YtdiaecgpjgdkdaaGreat
open Go.ChangeShapes Go.WideShapes Go.ChangeAt Go.RowKit Go.Joins Go.Deep

theorem accessFetches_readable : ∀ t ∈ Tryz.f3.params.toList, Tryz.prog.readableRec t = true ∧ t < Tryz.prog.types.size := fun t ht => by
  rw [Tryz.params3] at ht
  simp at ht
  rcases ht with rfl | rfl | rfl
  all_goals exact ⟨by kernel_rfl, of_decide_eq_true (by kernel_rfl)⟩
theorem accessFetches_spec : LawSpec Rows.accessFetchesSpec 3 := by
 refine ⟨rfl, fun H ds h => ?_⟩
 match ds, h with
 | [d0, d1, d2], _ => rfl

set_option maxRecDepth 100000 in
theorem accessFetches_lifted (os : Os) (started : os.Started) (H : Type) (enc : TypeId × Value → H) :
  ReturnsInHanded {} Tryz.checked os 3 .any (Rows.accessFetchesSpec.pre6 enc Tryz.prog Tryz.f3 Rows.accessFetchesRow.domain false) (Rows.accessFetchesSpec.post enc Tryz.prog Tryz.f3 false true false false) := by
 refine returnsInHanded_of_change_sized (C := Tryz.checked) Tryz.own started (by kernel_rfl) Tryz.func3
  (ChangeSpec.witness6 (enc := enc) (C := Tryz.checked) false ⟨#[], #[.agg #[.string .empty, .slice none 0 0, .slice none 0 0, .slice none 0 0, .slice none 0 0], .slice none 0 0, .slice none 0 0], []⟩ 8 (by kernel_rfl) (by kernel_rfl) (by kernel_rfl) (by kernel_rfl)) ?_
 intro W base args ds gs before hval0 hW _ hsz0 _
 have hsz1 : (DataW.weightsEach Tryz.prog (Tryz.f3.params.toList ++ Rows.accessFetchesSpec.plain.varTypes Tryz.prog) (ds ++ gs)).all (· ≤ reachBytes) = true := hsz0
 have hval : ∀ (j : Nat) t v, Tryz.f3.params[j]? = some t → args[j]? = some v → Value.okWide Tryz.prog W .any base t v := hval0
 have hW' := hW
 obtain ⟨p, q, hA0, hV, rfl, hfz, hnd⟩ := hW
 have hA : DataW.TrodAll enc Tryz.prog W 0 (fun _ => true) true Tryz.f3.params.toList args.toList ds p := hA0
 obtain ⟨rfl, rfl⟩ := trodVars_none hV
 have hsz : (DataW.weightsEach Tryz.prog Tryz.f3.params.toList ds).all (· ≤ reachBytes) = true := by
  have e : Tryz.f3.params.toList ++ Rows.accessFetchesSpec.plain.varTypes Tryz.prog = Tryz.f3.params.toList := by kernel_rfl
  rw [e, List.append_nil] at hsz1
  exact hsz1
 rw [Tryz.params3] at hA hval hsz
 obtain ⟨v0, vs0, d0, ds0, p0, q0, hargs, rfl, rfl, h0, r0⟩ := trodAll_cons hA
 obtain ⟨v1, vs1, d1, ds1, p1, q1, rfl, rfl, rfl, h1, r1⟩ := trodAll_cons r0
 obtain ⟨v2, vs2, d2, ds2, p2, q2, rfl, rfl, rfl, h2, r2⟩ := trodAll_cons r1
 obtain ⟨rfl, rfl, rfl⟩ := trodAll_nil r2
 obtain rfl : args = #[v0, v1, v2] := by cases args; simp_all
 clear hA0 hval0 hsz0 hsz1
 obtain ⟨s0, A1, K, A3, A4, n1, m1, n2, kc, n3, m3, n4, m4, cl, ks, fl, es, css, rfl, hs0, hT⟩ := open_tab (hval 0 27 v0 rfl rfl) h0
 obtain ⟨vs, rfl, hv1, hv2, hL, hV, _⟩ := open_versN (hval 1 28 v1 rfl rfl) h1
 have hmax : maxLen = 9223372036854775807 := rfl
 rw [hmax] at hv2
 obtain ⟨ps, rfl, hP, hPO, hpb⟩ := open_pths (hval 2 29 v2 rfl rfl) h2
 refine Calls.mono ?_ (R := fun e W' => e = .returned (.bool true) ∧ Ext W W') fun e W' ⟨he, hE⟩ => ⟨_, he, law_post (tb := 4) Tryz.laidOut accessFetches_spec accessFetches_readable Tryz.underlying4 rfl hW' hE⟩
 exact lawFetches_any s0 A1 K A3 A4 n1 m1 n2 kc n3 m3 n4 m4 cl ks fl es css vs.A vs.l.length vs.c vs.l ps.A ps.l.length ps.c ps.l W hs0 hT rfl (by omega) hL hV rfl hpb hP hPO

theorem accessFetches_holds : Rows.AccessFetchesSaid :=
 OpenClaim.holds_of_wide 3 Tryz.f3 rfl rfl rfl rfl rfl rfl rfl ⟨rfl, rfl, rfl, rfl, rfl⟩ rfl rfl rfl rfl rfl (by kernel_rfl) Tryz.func3 (by kernel_rfl)
  (of_decide_eq_true (by kernel_rfl)) (by unfold Func.isWrapper; first | (rw [if_pos (by decide +kernel)]; kernel_rfl) | (rw [if_neg (by decide +kernel)]; exact ⟨rfl, rfl⟩))
  (fun os started H enc _ => accessFetches_lifted os started H enc)

#print axioms accessFetches_holds
end Go.Proofs.YtdiaecgpjgdkdaaGreat
