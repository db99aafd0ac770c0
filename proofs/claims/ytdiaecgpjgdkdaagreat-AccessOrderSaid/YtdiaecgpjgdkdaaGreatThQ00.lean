/- AccessOrder returns true and leaves its input as it was, for every input (Rows.AccessOrderSaid); no condition. -/
import Derived.Test.YtdiaecgpjgdkdaaGreatThS43
import Derived.Test.YtdiaecgpjgdkdaaGreatThS15
import Derived.Test.YtdiaecgpjgdkdaaGreatThS31
import Derived.Deep.LoopGhost
import Derived.Test.YtdiaecgpjgdkdaaGreatThS05
import Derived.Test.YtdiaecgpjgdkdaaGreatThS32
set_option linter.unusedSimpArgs false
set_option linter.unusedVariables false
namespace Go.Proofs.YtdiaecgpjgdkdaaGreat
open Go.RowKit
theorem srtC_same {L M : List VC} (h : Dis L) (p : L.Perm M) : srtC L = srtC M :=
  asc_same (srtC_asc h) (srtC_asc (h.perm p)) ((srtC_perm L).trans (p.trans (srtC_perm M).symm))

end Go.Proofs.YtdiaecgpjgdkdaaGreat
namespace Go.Proofs.YtdiaecgpjgdkdaaGreat
open Go.RowKit

def VsNL (w : World) (vs : List VeA) : Prop := ∀ p ∈ vs, (Rd w 3 p.row.A p.row.l.length (vcl p.row.l) ∧ p.row.l.length ≤ 9223372036854775807 ∧ ∀ v ∈ p.row.l, v.t.size ≤ 9223372036854775807) ∧ (p.row.A = none → p.row.c = 0)
theorem fit_len {r : List Va} {l : List Int} (h : fitB r l = true) : r.length = l.length := by
 by_cases e : r.length = l.length
 ·
  exact e
 ·
  rw [fitB_ne e] at h; cases h
theorem snd_ok {kl : List Int} {vs : List VeA} (h : SndP kl vs vs.length) : ∀ p ∈ vs, okV kl p := fun p hp => by
 obtain ⟨j, hj, he⟩ := List.getElem_of_mem hp
 exact h.1 j p hj (by rw [List.getElem?_eq_getElem hj, he])
theorem VsNL.n {w : World} {cl : List Col} {vs : List VeA} {n1 : Nat} (h : VsNL w vs) (hs : SndP (cl.map Col.k) vs vs.length) (hc : cl.length = n1) (hk : n1 ≤ 1048576) : VsN w vs := fun p hp =>
 ⟨⟨(h p hp).1.1, by have := fit_len (snd_ok hs p hp).1; rw [List.length_map] at this; omega, (h p hp).1.2.2⟩, (h p hp).2⟩
def PaOk (w : World) (pa : PaA) : Prop := Rd w 3 pa.key.A pa.key.l.length (vcl pa.key.l) ∧ pa.key.l.length ≤ 9223372036854775807 ∧ ∀ v ∈ pa.key.l, v.t.size ≤ 9223372036854775807
theorem fit_vv : ∀ {r : List Va} {l : List Int}, fitB r l = true → ∀ v ∈ r, vvB v = true
 | [], _, _, v, h => by cases h
 | v :: r, [], h, _, _ => by simp [fitB] at h
 | v :: r, k :: l, h, x, hx => by
  rw [fitB, Bool.and_eq_true, Bool.and_eq_true] at h
  rcases List.mem_cons.1 hx with rfl | hx
  ·
   exact h.1.1
  ·
   exact fit_vv h.2 x hx
theorem snd_at {kl : List Int} {vs : List VeA} (h : SndP kl vs vs.length) : (∀ p ∈ vs, pvB p.v = true ∧ pvB p.s = true) ∧ ∀ p ∈ vs, ∀ v ∈ p.row.l, vvB v = true := by
 have k : ∀ p ∈ vs, okV kl p := fun p hp => by
  obtain ⟨j, hj, he⟩ := List.getElem_of_mem hp
  exact h.1 j p hj (by rw [List.getElem?_eq_getElem hj, he])
 exact ⟨fun p hp => (k p hp).2, fun p hp => fit_vv (k p hp).1⟩
end Go.Proofs.YtdiaecgpjgdkdaaGreat

namespace Go.Proofs.YtdiaecgpjgdkdaaGreat
open Go.RowKit

theorem ord_len {Q vs : List VeA} {f : VC → Bool} {m n : Nat} (h : Q.length = m) (k : Q.map vcO = (srtC (vs.map vcO)).filter f) (c : n = (vs.filter fun v => f (vcO v)).length) : m = n := by
 have h1 := congrArg List.length k
 rw [List.length_map, h, ((srtC_perm _).filter f).length_eq, List.filter_map, List.length_map] at h1
 rw [h1, c]
 rfl
theorem rev_step {vs : List VeA} {n k : Nat} {y : VeA} (hn : vs.length = n) (hk : k < n) (hy : vs[n - 1 - k]? = some y) : vs.reverse.take (k + 1) = vs.reverse.take k ++ [y] := by
 rw [List.take_add_one, List.getElem?_reverse (by omega), hn, hy]
 rfl
theorem cnt_step {vs : List VeA} {f : VC → Bool} {k : Nat} {x : VeA} (hx : vs[k]? = some x) : ((vs.take (k + 1)).filter fun v => f (vcO v)).length = ((vs.take k).filter fun v => f (vcO v)).length + (if f (vcO x) then 1 else 0) := by
 rw [List.take_add_one, hx, List.filter_append, List.length_append]
 congr 1
 show (List.filter _ [x]).length = _
 rw [List.filter_cons]
 split <;> simp
set_option maxRecDepth 100000 in
set_option maxHeartbeats 16000000 in
theorem lawOrder_any (s0 : ByteArray) (A1 K A3 A4 : Option Addr) (n1 m1 n2 kc n3 m3 n4 m4 : Nat) (cl : List Col) (ks : List Int) (fl : List Fo) (es : List Ex) (css : List (List Value)) (L : Option Addr) (n lc : Nat) (vs : List VeA) (pa : PaA) (w : World) (hs0 : s0.size ≤ 9223372036854775807) (hT : TabOk w A1 K A3 A4 n1 n2 n3 n4 cl ks fl es css)
  (hn : vs.length = n) (hnb : n ≤ 9223372036854775807) (hL : Rd w 9 L n (vs.flatMap encVe)) (hV : VsNL w vs) (hPO : PaOk w pa) :
  Calls Tryz.prog 4 #[.agg #[.string s0, .slice A1 n1 m1, .slice K n2 kc, .slice A3 n3 m3, .slice A4 n4 m4], .slice L n lc, .agg #[.int .i64 pa.k, .slice pa.key.A pa.key.l.length pa.key.c, .int .i64 pa.r.1.1, .int .i64 pa.r.1.2, .int .i64 pa.r.2.1, .int .i64 pa.r.2.2]] w fun e w' => e = .returned (.bool true) ∧ Ext w w' := by
 have hVO : VsL w vs := fun p hp => (hV p hp).1
 have HUS := Lib.hid fun W (e : Ext w W) => usable_any s0 A1 K A3 A4 n1 m1 n2 kc n3 m3 n4 m4 cl ks fl es css L n lc vs W hs0 (hT.ext e) hn hnb (hL.ext e) (hVO.ext e)
 have HNG : Hid (n ≤ 200 → SndP (cl.map Col.k) vs vs.length → n1 ≤ 1048576 → n2 ≤ 1048576 → ∀ (B : Option Addr) (bc : Nat) (us : List VeA) W, Ext w W → us.Perm vs → Rd W 9 B n (us.flatMap encVe) → Calls Tryz.prog 9 #[.agg #[.string s0, .slice A1 n1 m1, .slice K n2 kc, .slice A3 n3 m3, .slice A4 n4 m4], .slice B n bc] W fun e w' => ∃ xb S, e = .returned (pt xb) ∧ IxM w' xb ks S ∧ S.map vcO = srtC (vs.map vcO) ∧ Ext W w') := Lib.hid fun h1 h2 h3 h5 B bc us W e hp hB => by
  have hm : ∀ p ∈ us, p ∈ vs := fun p h => hp.mem_iff.1 h
  have h4 := new49_any s0 A1 A3 A4 K n1 m1 n3 m3 n4 m4 kc ks B n bc us W (by rw [hT.kn]; exact hT.k.ext e) (by rw [hT.kn]; exact h5) (hp.length_eq.trans hn) hB (fun p h => ((hV.n h2 hT.cn h3).ext e) p (hm p h)) h1 (fun p h => (snd_at h2).1 p (hm p h)) (fun p h => (snd_at h2).2 p (hm p h))
  rw [hT.kn, ← srtC_same (dis_of h2) (hp.symm.map vcO)] at h4
  exact h4
 have HMM : Hid (n2 ≤ 1048576 → ∀ (x : VeA) W, Ext w W → Rd W 3 x.row.A x.row.l.length (vcl x.row.l) → x.row.l.length ≤ 1048576 → Calls Tryz.prog 12 #[.agg #[.string s0, .slice A1 n1 m1, .slice K n2 kc, .slice A3 n3 m3, .slice A4 n4 m4], .agg #[.int .i64 pa.k, .slice pa.key.A pa.key.l.length pa.key.c, .int .i64 pa.r.1.1, .int .i64 pa.r.1.2, .int .i64 pa.r.2.1, .int .i64 pa.r.2.2], vgA x] W fun e w' => e = .returned (.bool (hasC ks pa.k pa.key.l pa.r.1 pa.r.2 (vcO x))) ∧ Ext W w') := Lib.hid fun h5 x W e h1 h2 => by
  have h4 := amatches_any s0 A1 A3 A4 K n1 m1 n3 m3 n4 m4 kc ks x.id x.sch x.row.A x.row.c x.row.l x.v x.s x.by_ x.un pa.k pa.key.A pa.key.c pa.key.l pa.r.1 pa.r.2 W h1 (by rw [hT.kn]; exact hT.k.ext e) (hPO.1.ext e) (by omega) (by rw [hT.kn]; exact h5) (by have := hPO.2.1; omega)
  rw [hT.kn] at h4
  exact h4
 have HFG : Hid (∀ xb S W, Ext w W → IxM W xb ks S → Calls Tryz.prog 6 #[pt xb, .agg #[.int .i64 pa.k, .slice pa.key.A pa.key.l.length pa.key.c, .int .i64 pa.r.1.1, .int .i64 pa.r.1.2, .int .i64 pa.r.2.1, .int .i64 pa.r.2.2]] W (FetP ((S.map vcO).filter (hasC ks pa.k pa.key.l pa.r.1 pa.r.2)) W)) := Lib.hid fun xb S W e h => fetch_any xb ks S pa.k pa.key.A pa.key.l.length pa.key.c pa.key.l pa.r.1 pa.r.2 W h rfl (hPO.1.ext e) hPO.2.1 hPO.2.2
 generalize hasC ks pa.k pa.key.l pa.r.1 pa.r.2 = f at HMM HFG
 unfold FetP at HFG
 have HN := Lib.hid hn
 have HL := Lib.hid hL
 have HVO : Hid (SndP (cl.map Col.k) vs vs.length → n1 ≤ 1048576 → VsOk w vs) := Lib.hid fun h2 h3 p hp => (hV.n h2 hT.cn h3 p hp).1
 clear hs0 hT hn hL hV hVO hPO
 go_enter Tryz.func4, Tryz.ntmps4
 go_wp2_with fail
 refine (HUS.out _ (ex_)).mono ?_
 rintro e w3 ⟨⟨ub, rfl, hub⟩, hb3⟩
 obtain ⟨x3, rfl⟩ := hb3.get
 clear hb3 HUS
 cases ub
 ·
  clear hub
  go_wp2_with fail
  refine (awake_any _).mono ?_
  rintro e w9 ⟨rfl, hb9⟩
  obtain ⟨x9, rfl⟩ := hb9.get
  clear hb9
  go_wp2
  go_ret
  exact ⟨rfl, ex_⟩
 ·
  obtain ⟨hn2, hsd, hb12, hb22⟩ := hub rfl
  have HNG := Lib.hid (HNG.out hn2 hsd hb12 hb22)
  have HMM := Lib.hid (HMM.out hb22)
  have HVO := Lib.hid (HVO.out hsd hb12)
  clear hub hsd hb12 hb22
  go_wp2
  obtain ⟨W4, hW4⟩ : ∃ W, ext ((w.alloc (.cells #[.string s0, .slice A1 n1 m1, .slice K n2 kc, .slice A3 n3 m3, .slice A4 n4 m4] 27)).alloc (.cells #[.int .i64 pa.k, .slice pa.key.A pa.key.l.length pa.key.c, .int .i64 pa.r.1.1, .int .i64 pa.r.1.2, .int .i64 pa.r.2.1, .int .i64 pa.r.2.2] 39)) x3 = W := ⟨_, rfl⟩
  have hE4 : Ext w W4 := by rw [← hW4]; exact (ex_)
  have hs4 : Hid (W4.heap.size = w.heap.size + 2 + x3.n) := Lib.hid (by rw [← hW4]; simp [size_ext])
  have hl4 : w.heap.size + 1 < W4.heap.size := by rw [← hW4]; simp [size_ext]; omega
  have t0 : W4.cell? ⟨w.heap.size, 0, none⟩ = some (.string s0) := by rw [← hW4]; simp [go_sem, ↓IntWalk.iteOmega]
  have t1 : W4.cell? ⟨w.heap.size, 1, none⟩ = some (.slice A1 n1 m1) := by rw [← hW4]; simp [go_sem, ↓IntWalk.iteOmega]
  have t2 : W4.cell? ⟨w.heap.size, 2, none⟩ = some (.slice K n2 kc) := by rw [← hW4]; simp [go_sem, ↓IntWalk.iteOmega]
  have t3 : W4.cell? ⟨w.heap.size, 3, none⟩ = some (.slice A3 n3 m3) := by rw [← hW4]; simp [go_sem, ↓IntWalk.iteOmega]
  have t4 : W4.cell? ⟨w.heap.size, 4, none⟩ = some (.slice A4 n4 m4) := by rw [← hW4]; simp [go_sem, ↓IntWalk.iteOmega]
  have p0 : W4.cell? ⟨w.heap.size + 1, 0, none⟩ = some (.int .i64 pa.k) := by rw [← hW4]; simp [go_sem, ↓IntWalk.iteOmega]
  have p1 : W4.cell? ⟨w.heap.size + 1, 1, none⟩ = some (.slice pa.key.A pa.key.l.length pa.key.c) := by rw [← hW4]; simp [go_sem, ↓IntWalk.iteOmega]
  have p2 : W4.cell? ⟨w.heap.size + 1, 2, none⟩ = some (.int .i64 pa.r.1.1) := by rw [← hW4]; simp [go_sem, ↓IntWalk.iteOmega]
  have p3 : W4.cell? ⟨w.heap.size + 1, 3, none⟩ = some (.int .i64 pa.r.1.2) := by rw [← hW4]; simp [go_sem, ↓IntWalk.iteOmega]
  have p4 : W4.cell? ⟨w.heap.size + 1, 4, none⟩ = some (.int .i64 pa.r.2.1) := by rw [← hW4]; simp [go_sem, ↓IntWalk.iteOmega]
  have p5 : W4.cell? ⟨w.heap.size + 1, 5, none⟩ = some (.int .i64 pa.r.2.2) := by rw [← hW4]; simp [go_sem, ↓IntWalk.iteOmega]
  rw [hW4]
  clear hW4
  go_loopw [7, 8, 21] (fun sb sc si wr => ∃ (k cN : Nat) (U : List VeA) (z : Add), k ≤ n ∧ si = .int .i64 k ∧ sc = .int .i64 cN ∧ cN ≤ k ∧ Hid (cN = ((vs.take k).filter fun v => f (vcO v)).length) ∧ Hid (U = vs.reverse.take k) ∧ wr = ext W4 z ∧ Own W4 z 47 9 sb k (U.flatMap encVe)) (fun _ _ si _ => n - (intOf si).toNat)
  case atStart =>
   obtain ⟨z, hz⟩ := (Ext.al1 W4 (.cells #[] 47)).get
   exact ⟨0, 0, [], z, Nat.zero_le _, rfl, rfl, Nat.zero_le _, Lib.hid rfl, Lib.hid rfl, hz, by unfold Own; rw [← hz]; exact own_litv _ _ _ (by have := hs4.out; omega)⟩
  case round =>
   obtain ⟨k, cN, U, z, hk, rfl, rfl, hck, HCN, HU, rfl, hown⟩ := hrel
   by_cases hlt : k < n
   ·
    obtain ⟨xv, b, oo, hpi, rfl, hb, c0, c1, c2, c3, c4, c5, c6, c7, c8⟩ := (HL.out.ext hE4).ve9 HN.out hlt
    obtain ⟨yv, b2, o2, hpj, hA2, -, d0, d1, d2, d3, d4, d5, d6, d7, d8⟩ := (HL.out.ext hE4).ve9 HN.out (show n - 1 - k < n by omega)
    simp only [Option.some.injEq, Addr.mk.injEq, and_true] at hA2
    obtain ⟨rfl, rfl⟩ := hA2
    have HUS2 : Hid (U ++ [yv] = vs.reverse.take (k + 1)) := Lib.hid (by rw [HU.out, rev_step HN.out hlt hpj])
    have HCS := Lib.hid (cnt_step (f := f) hpi)
    have hxm := HVO.out xv (List.mem_of_getElem? hpi)
    have HM := Lib.hid fun W (e : Ext W4 W) => HMM.out xv W (hE4.tr e) (hxm.1.ext (hE4.tr e)) hxm.2.1
    obtain ⟨m, hm⟩ : ∃ m, n - 1 - k = m := ⟨_, rfl⟩
    rw [hm] at d0 d1 d2 d3 d4 d5 d6 d7 d8
    have hmz : (n : Int) - 1 - (k : Int) = (m : Int) := by omega
    have hmz0 : (0 : Int) ≤ (m : Int) := by omega
    have hmz1 : (m : Int) < (n : Int) := by omega
    have hkz : (k : Int) < (n : Int) := by omega
    clear hpi hpj hxm hm
    rcases hf : f (vcO xv) with _ | _
    ·
     rw [hf] at HM HCS
     clear hf
     go_wp2_with (first | (at_builtin; refine wpList_app _ rfl (.tmp 24) (.tmp 33) rfl elVeA W4 (ex_) _ _ _ rfl (by repeat (first | exact hown | apply World.ownsRow.alloc | apply own_ext)) _ 1 1 [.int .i64 yv.id, .int .i64 yv.sch, .slice yv.row.A yv.row.l.length yv.row.c, .int .i64 yv.v.1, .int .i64 yv.v.2, .int .i64 yv.s.1, .int .i64 yv.s.2, .int .i64 yv.by_, .int .i64 yv.un] rfl (Rd.lit _ _ _ 1 9 rfl (by simp [size_ext])) (oneCell_ve yv) (by unfold maxLen; omega) (by omega) ?_; intro v1 y1 hown1 _))
     refine wp_region_ext (by kernel_rfl) (by kernel_rfl) ?_
     repeat (first | go_big_quiet_step ((go_at_call 12; exact Calls.ext_of (HM.out _ (ex_)))) | quiet_step ((go_at_call 12; exact Calls.ext_of (HM.out _ (ex_)))))
     refine wpQuiet_nil ?_
     intro _ hw'
     obtain ⟨xq, hw''⟩ := hw'
     subst hw''
     go_wp2
     obtain ⟨z9, hz9⟩ := (Ext.ex' (Ext.ex W4 y1) xq).get
     go_roundw
     case rel => exact ⟨k + 1, cN, U ++ [yv], z9, by omega, by go_num, rfl, by omega, Lib.hid (by rw [HCS.out, ← HCN.out]; rfl), HUS2, hz9, by unfold Own; rw [← hz9]; exact own_ext (by simpa [encVe] using hown1) _⟩
     case measure => simp [intOf]; omega
    ·
     rw [hf] at HM HCS
     clear hf
     go_wp2_with (first | (at_builtin; refine wpList_app _ rfl (.tmp 24) (.tmp 33) rfl elVeA W4 (ex_) _ _ _ rfl (by repeat (first | exact hown | apply World.ownsRow.alloc | apply own_ext)) _ 1 1 [.int .i64 yv.id, .int .i64 yv.sch, .slice yv.row.A yv.row.l.length yv.row.c, .int .i64 yv.v.1, .int .i64 yv.v.2, .int .i64 yv.s.1, .int .i64 yv.s.2, .int .i64 yv.by_, .int .i64 yv.un] rfl (Rd.lit _ _ _ 1 9 rfl (by simp [size_ext])) (oneCell_ve yv) (by unfold maxLen; omega) (by omega) ?_; intro v1 y1 hown1 _))
     refine wp_region_ext (by kernel_rfl) (by kernel_rfl) ?_
     repeat (first | go_big_quiet_step ((go_at_call 12; exact Calls.ext_of (HM.out _ (ex_)))) | quiet_step ((go_at_call 12; exact Calls.ext_of (HM.out _ (ex_)))))
     refine wpQuiet_nil ?_
     intro _ hw'
     obtain ⟨xq, hw''⟩ := hw'
     subst hw''
     go_wp2
     obtain ⟨z9, hz9⟩ := (Ext.ex' (Ext.ex W4 y1) xq).get
     go_roundw
     case rel => exact ⟨k + 1, cN + 1, U ++ [yv], z9, by omega, by go_num, by go_num, by omega, Lib.hid (by rw [HCS.out, ← HCN.out]; rfl), HUS2, hz9, by unfold Own; rw [← hz9]; exact own_ext (by simpa [encVe] using hown1) _⟩
     case measure => simp [intOf]; omega
   ·
    obtain rfl : k = n := by omega
    have hkz : ¬ (k : Int) < (k : Int) := by omega
    have HCN : Hid (cN = (vs.filter fun v => f (vcO v)).length) := Lib.hid (by have := HCN.out; rwa [← HN.out, List.take_length] at this)
    have hU : U = vs.reverse := by rw [HU.out, ← HN.out, ← List.length_reverse, List.take_length]
    subst hU
    obtain ⟨AB, cB, rfl, hcO, _⟩ := Own.form hown
    have hRB := Rd.of_own hown
    obtain ⟨W5, hW5⟩ : ∃ W, ext W4 z = W := ⟨_, rfl⟩
    have hE5 : Ext W4 W5 := by rw [← hW5]; exact (ex_)
    rw [hW5] at hRB ⊢
    have hl5 : w.heap.size + 1 < W5.heap.size := Nat.lt_of_lt_of_le hl4 hE5.size
    have t0 := hE5.cell' t0
    have t1 := hE5.cell' t1
    have t2 := hE5.cell' t2
    have t3 := hE5.cell' t3
    have t4 := hE5.cell' t4
    have p0 := hE5.cell' p0
    have p1 := hE5.cell' p1
    have p2 := hE5.cell' p2
    have p3 := hE5.cell' p3
    have p4 := hE5.cell' p4
    have p5 := hE5.cell' p5
    have HN1 : Hid (∀ W, Ext w W → Calls Tryz.prog 9 #[.agg #[.string s0, .slice A1 n1 m1, .slice K n2 kc, .slice A3 n3 m3, .slice A4 n4 m4], .slice L k lc] W fun e w' => ∃ xb S, e = .returned (pt xb) ∧ IxM w' xb ks S ∧ S.map vcO = srtC (vs.map vcO) ∧ Ext W w') := Lib.hid fun W e => HNG.out L lc vs W e (List.Perm.refl _) (HL.out.ext e)
    have HN2 : Hid (∀ W, Ext W5 W → Calls Tryz.prog 9 #[.agg #[.string s0, .slice A1 n1 m1, .slice K n2 kc, .slice A3 n3 m3, .slice A4 n4 m4], .slice AB k cB] W fun e w' => ∃ xb S, e = .returned (pt xb) ∧ IxM w' xb ks S ∧ S.map vcO = srtC (vs.map vcO) ∧ Ext W w') := Lib.hid fun W e => HNG.out AB cB vs.reverse W ((hE4.tr hE5).tr e) (List.reverse_perm _) (hRB.ext e)
    clear hW5 hown hRB HU HNG hcO hl4
    go_wp2_with fail
    refine wp_region_held_drew (S := (fun w' => w'.cell? ⟨w.heap.size, 0, none⟩ = some (.string s0) ∧ w'.cell? ⟨w.heap.size, 1, none⟩ = some (.slice A1 n1 m1) ∧ w'.cell? ⟨w.heap.size, 2, none⟩ = some (.slice K n2 kc) ∧ w'.cell? ⟨w.heap.size, 3, none⟩ = some (.slice A3 n3 m3) ∧ w'.cell? ⟨w.heap.size, 4, none⟩ = some (.slice A4 n4 m4) ∧ w'.cell? ⟨w.heap.size + 1, 0, none⟩ = some (.int .i64 pa.k) ∧ w'.cell? ⟨w.heap.size + 1, 1, none⟩ = some (.slice pa.key.A pa.key.l.length pa.key.c) ∧ w'.cell? ⟨w.heap.size + 1, 2, none⟩ = some (.int .i64 pa.r.1.1) ∧ w'.cell? ⟨w.heap.size + 1, 3, none⟩ = some (.int .i64 pa.r.1.2) ∧ w'.cell? ⟨w.heap.size + 1, 4, none⟩ = some (.int .i64 pa.r.2.1) ∧ w'.cell? ⟨w.heap.size + 1, 5, none⟩ = some (.int .i64 pa.r.2.2))) (by kernel_rfl) (by simp [go_sem, ↓IntWalk.iteOmega, *]) (fun hHeld => ?_)
    refine tkH 0 ?oi101 (?v101) ?hi101 ?hy101 ?_
    case hi101 => (simp only [gA, gS, gZ]; try rfl)
    case hy101 => (refine Or.inl ⟨by rfl, ?_⟩; intro wq hSw; (try dsimp only at hSw); go_simp; (try with_reducible rfl))
    (try simp only [Act.put, pA, pZ, pS])
    refine tkH 1 ?oi102 (?v102) ?hi102 ?hy102 ?_
    case hi102 => (simp only [gA, gS, gZ]; try rfl)
    case hy102 => (refine Or.inl ⟨by rfl, ?_⟩; intro wq hSw; (try dsimp only at hSw); go_simp; (try with_reducible rfl))
    (try simp only [Act.put, pA, pZ, pS])
    refine tkH 3 ?oi103 (?v103) ?hi103 ?hy103 ?_
    case hi103 => (simp only [gA, gS, gZ]; try rfl)
    case hy103 => (refine Or.inl ⟨by rfl, ?_⟩; intro wq hSw; (try dsimp only at hSw); go_simp; (try with_reducible rfl))
    (try simp only [Act.put, pA, pZ, pS])
    refine wpAnyH_ready (rs := [2]) (by kernel_rfl) (by simp) ?_
    refine AllReadyH.cons (o := ?oi104) ?hi104 ?ti104 AllReadyH.nil
    case hi104 => (simp only [gA, gS, gZ]; try rfl)
    case ti104 =>
     intro KQ hKQ
     go_simp
     go_at_call 9
     refine Calls.mono (HN1.out _ (hE4.tr (ex_))) ?_
     rintro e w5 ⟨xb5, S5, rfl, hix5, hS5, hb5⟩
     obtain ⟨x5, rfl⟩ := hb5.get
     have HIX5 := Lib.hid hix5
     have HS5 := Lib.hid hS5
     clear hb5 hix5 hS5
     refine hKQ.out _ _ (by simp [go_sem, ↓IntWalk.iteOmega, *]) (fun hHeld2 => ?_)
     clear hHeld hKQ KQ; have hHeld := hHeld2; clear hHeld2
     (try simp only [Act.put, pA, pZ, pS])
     refine wpAnyH_ready (rs := [4]) (by kernel_rfl) (by simp) ?_
     refine AllReadyH.cons (o := ?oi105) ?hi105 ?ti105 AllReadyH.nil
     case hi105 => (simp only [gA, gS, gZ]; try rfl)
     case ti105 =>
      intro KQ hKQ
      go_simp
      go_at_call 6
      refine Calls.mono (HFG.out xb5 S5 _ (hE4.tr (ex_)) (HIX5.out.ext (ex_))) ?_
      rintro e w6 ⟨B5, m5, c5, Q5, rfl, HQl5, HQr5, HQt5, HQm5, hb6⟩
      obtain ⟨y5, rfl⟩ := hb6.get
      clear hb6
      refine hKQ.out _ _ (by simp [go_sem, ↓IntWalk.iteOmega, *]) (fun hHeld2 => ?_)
      clear hHeld hKQ KQ; have hHeld := hHeld2; clear hHeld2
      (try simp only [Act.put, pA, pZ, pS])
      refine tkH 5 ?oi106 (?v106) ?hi106 ?hy106 ?_
      case hi106 => (simp only [gA, gS, gZ]; try rfl)
      case hy106 => (refine Or.inl ⟨by rfl, ?_⟩; intro wq hSw; (try dsimp only at hSw); go_simp; (try with_reducible rfl))
      (try simp only [Act.put, pA, pZ, pS])
      refine wpAnyH_done (by kernel_rfl) ?_ _
      go_wp2_with fail
      refine wp_region_held_drew (S := (fun w' => w'.cell? ⟨w.heap.size, 0, none⟩ = some (.string s0) ∧ w'.cell? ⟨w.heap.size, 1, none⟩ = some (.slice A1 n1 m1) ∧ w'.cell? ⟨w.heap.size, 2, none⟩ = some (.slice K n2 kc) ∧ w'.cell? ⟨w.heap.size, 3, none⟩ = some (.slice A3 n3 m3) ∧ w'.cell? ⟨w.heap.size, 4, none⟩ = some (.slice A4 n4 m4) ∧ w'.cell? ⟨w.heap.size + 1, 0, none⟩ = some (.int .i64 pa.k) ∧ w'.cell? ⟨w.heap.size + 1, 1, none⟩ = some (.slice pa.key.A pa.key.l.length pa.key.c) ∧ w'.cell? ⟨w.heap.size + 1, 2, none⟩ = some (.int .i64 pa.r.1.1) ∧ w'.cell? ⟨w.heap.size + 1, 3, none⟩ = some (.int .i64 pa.r.1.2) ∧ w'.cell? ⟨w.heap.size + 1, 4, none⟩ = some (.int .i64 pa.r.2.1) ∧ w'.cell? ⟨w.heap.size + 1, 5, none⟩ = some (.int .i64 pa.r.2.2))) (by kernel_rfl) (by simp [go_sem, ↓IntWalk.iteOmega, *]) (fun hHeld => ?_)
      refine tkH 0 ?oi201 (?v201) ?hi201 ?hy201 ?_
      case hi201 => (simp only [gA, gS, gZ]; try rfl)
      case hy201 => (refine Or.inl ⟨by rfl, ?_⟩; intro wq hSw; (try dsimp only at hSw); go_simp; (try with_reducible rfl))
      (try simp only [Act.put, pA, pZ, pS])
      refine tkH 1 ?oi202 (?v202) ?hi202 ?hy202 ?_
      case hi202 => (simp only [gA, gS, gZ]; try rfl)
      case hy202 => (refine Or.inl ⟨by rfl, ?_⟩; intro wq hSw; (try dsimp only at hSw); go_simp; (try with_reducible rfl))
      (try simp only [Act.put, pA, pZ, pS])
      refine tkH 3 ?oi203 (?v203) ?hi203 ?hy203 ?_
      case hi203 => (simp only [gA, gS, gZ]; try rfl)
      case hy203 => (refine Or.inl ⟨by rfl, ?_⟩; intro wq hSw; (try dsimp only at hSw); go_simp; (try with_reducible rfl))
      (try simp only [Act.put, pA, pZ, pS])
      refine wpAnyH_ready (rs := [2]) (by kernel_rfl) (by simp) ?_
      refine AllReadyH.cons (o := ?oi204) ?hi204 ?ti204 AllReadyH.nil
      case hi204 => (simp only [gA, gS, gZ]; try rfl)
      case ti204 =>
       intro KQ hKQ
       go_simp
       go_at_call 9
       refine Calls.mono (HN2.out _ (ex_)) ?_
       rintro e w5 ⟨xb7, S7, rfl, hix7, hS7, hb5⟩
       obtain ⟨x7, rfl⟩ := hb5.get
       have HIX7 := Lib.hid hix7
       have HS7 := Lib.hid hS7
       clear hb5 hix7 hS7
       refine hKQ.out _ _ (by simp [go_sem, ↓IntWalk.iteOmega, *]) (fun hHeld2 => ?_)
       clear hHeld hKQ KQ; have hHeld := hHeld2; clear hHeld2
       (try simp only [Act.put, pA, pZ, pS])
       refine wpAnyH_ready (rs := [4]) (by kernel_rfl) (by simp) ?_
       refine AllReadyH.cons (o := ?oi205) ?hi205 ?ti205 AllReadyH.nil
       case hi205 => (simp only [gA, gS, gZ]; try rfl)
       case ti205 =>
        intro KQ hKQ
        go_simp
        go_at_call 6
        refine Calls.mono (HFG.out xb7 S7 _ (hE4.tr (ex_)) (HIX7.out.ext (ex_))) ?_
        rintro e w6 ⟨B7, m7, c7, Q7, rfl, HQl7, HQr7, HQt7, HQm7, hb6⟩
        obtain ⟨y7, rfl⟩ := hb6.get
        clear hb6
        refine hKQ.out _ _ (by simp [go_sem, ↓IntWalk.iteOmega, *]) (fun hHeld2 => ?_)
        clear hHeld hKQ KQ; have hHeld := hHeld2; clear hHeld2
        (try simp only [Act.put, pA, pZ, pS])
        refine tkH 5 ?oi206 (?v206) ?hi206 ?hy206 ?_
        case hi206 => (simp only [gA, gS, gZ]; try rfl)
        case hy206 => (refine Or.inl ⟨by rfl, ?_⟩; intro wq hSw; (try dsimp only at hSw); go_simp; (try with_reducible rfl))
        (try simp only [Act.put, pA, pZ, pS])
        refine wpAnyH_done (by kernel_rfl) ?_ _
        have HQ5 : Hid (Q5.map vcO = (srtC (vs.map vcO)).filter f) := Lib.hid (by rw [HQm5.out, HS5.out])
        have HQ7 : Hid (Q7.map vcO = (srtC (vs.map vcO)).filter f) := Lib.hid (by rw [HQm7.out, HS7.out])
        obtain rfl : m5 = cN := ord_len HQl5.out HQ5.out HCN.out
        obtain rfl : m7 = m5 := ord_len HQl7.out HQ7.out HCN.out
        have HQR5 : Hid (Rd (ext (ext (ext (ext W5.drew x5) y5).drew x7) y7) 9 B5 m7 (Q5.flatMap encVe)) := Lib.hid (HQr5.out.ext (ex_))
        have HQR7 : Hid (Rd (ext (ext (ext (ext W5.drew x5) y5).drew x7) y7) 9 B7 m7 (Q7.flatMap encVe)) := Lib.hid (HQr7.out.ext (ex_))
        have HQO5 : Hid (VsOk (ext (ext (ext (ext W5.drew x5) y5).drew x7) y7) Q5) := Lib.hid (HQt5.out.ext (ex_)).ok
        have HQO7 : Hid (VsOk (ext (ext (ext (ext W5.drew x5) y5).drew x7) y7) Q7) := Lib.hid (HQt7.out.ext (ex_)).ok
        clear HQr5 HQr7 HQt5 HQt7 HQm5 HQm7 HIX5 HIX7 HS5 HS7 HN1 HN2 HFG
        go_wp2
        obtain ⟨W6, hW6⟩ : ∃ W, ext (ext (ext (ext W5.drew x5) y5).drew x7) y7 = W := ⟨_, rfl⟩
        have hE6 : Ext W5 W6 := by rw [← hW6]; exact (ex_)
        rw [hW6] at HQR5 HQR7 HQO5 HQO7 ⊢
        have hl6 : w.heap.size + 1 < W6.heap.size := Nat.lt_of_lt_of_le hl5 hE6.size
        clear hW6
        have t0 := hE6.cell' t0
        have t1 := hE6.cell' t1
        have t2 := hE6.cell' t2
        have t3 := hE6.cell' t3
        have t4 := hE6.cell' t4
        have p0 := hE6.cell' p0
        have p1 := hE6.cell' p1
        have p2 := hE6.cell' p2
        have p3 := hE6.cell' p3
        have p4 := hE6.cell' p4
        have p5 := hE6.cell' p5
        go_loopw [57] (fun si wr => ∃ k : Nat, k ≤ m7 ∧ si = .int .i64 k ∧ Ext W6 wr) (fun si _ => m7 - (intOf si).toNat)
        case atStart => exact ⟨0, Nat.zero_le _, rfl, ex_⟩
        case round =>
         obtain ⟨k, hk, rfl, hE⟩ := hrel
         obtain ⟨x, rfl⟩ := hE.get
         clear hE
         by_cases hlt : k < m7
         ·
          obtain ⟨qv, b, oo, hqi, hA5, hb, e0, e1, e2, e3, e4, e5, e6, e7, e8⟩ := HQR5.out.ve9 HQl5.out hlt
          subst hA5
          have hqm := HQO5.out qv (List.mem_of_getElem? hqi)
          have hqf : f (vcO qv) = true := by
           have h : vcO qv ∈ Q5.map vcO := List.mem_map_of_mem (List.mem_of_getElem? hqi)
           rw [HQ5.out] at h
           exact (List.mem_filter.1 h).2
          have HM := Lib.hid fun W (e : Ext W6 W) => HMM.out qv W ((hE4.tr hE5).tr (hE6.tr e)) (hqm.1.ext e) hqm.2.1
          rw [hqf] at HM
          have hkz : (k : Int) < (m7 : Int) := by omega
          clear hqi hqm hqf
          go_wp2_with fail
          refine wp_region_ext (by kernel_rfl) (by kernel_rfl) ?_
          repeat (first | go_big_quiet_step ((go_at_call 12; exact Calls.ext_of (HM.out _ (ex_)))) | quiet_step ((go_at_call 12; exact Calls.ext_of (HM.out _ (ex_)))))
          refine wpQuiet_nil ?_
          intro _ hw'
          obtain ⟨xq, hw''⟩ := hw'
          subst hw''
          go_wp2
          go_roundw
          case rel => exact ⟨k + 1, by omega, by go_num, ex_⟩
          case measure => simp [intOf]; omega
         ·
          obtain rfl : k = m7 := by omega
          have hkz : ¬ (k : Int) < (k : Int) := by omega
          have HSM := Lib.hid fun W (e : Ext W6 W) => sameX_any B5 B7 k c5 c7 Q5 Q7 W HQl5.out (HQR5.out.ext e) (HQR7.out.ext e) (HQO5.out.ext e) (HQO7.out.ext e) (HQ5.out.trans HQ7.out.symm) (by omega)
          clear HMM
          go_wp2_with (first | (go_at_call 10; refine (HSM.out _ (ex_)).mono ?_; rintro e w8 ⟨rfl, hb8⟩; obtain ⟨x8, rfl⟩ := hb8.get; clear hb8) | (go_at_call 8; refine (awake_any _).mono ?_; rintro e w9 ⟨rfl, hb9⟩; obtain ⟨x9, rfl⟩ := hb9.get; clear hb9))
          go_ret
          exact ⟨rfl, (hE4.tr hE5).tr (hE6.tr (ex_))⟩

end Go.Proofs.YtdiaecgpjgdkdaaGreat

namespace Go.Proofs.YtdiaecgpjgdkdaaGreat
open Go.ChangeShapes Go.WideShapes Go.ChangeAt Go.RowKit Go.Joins Go.Deep

theorem slice_openN {t e k : Nat} {α : Type} {enc : α → List Value} {mem : World → α → Prop} {sz : α → Nat} (ht : Tryz.prog.underlying t = some (.slice e)) (hC : Tryz.prog.cellsOf e = k) (hk : 0 < k) (hen : ∀ a, (enc a).length = k)
  {H : Type} {en : TypeId × Value → H} {w : World} {n : Nat} {cs : List Value} {x : DataW H × List MemPlace} (h : DataW.trod en Tryz.prog w 0 (fun _ => true) true n t cs = some x)
  (hI : ∀ {n' : Nat} {cs' : List Value} {y : DataW H × List MemPlace}, DataW.trod en Tryz.prog w 0 (fun _ => true) true n' e cs' = some y → Rows.uptoBulk y.1 < Rows.uptoBulk x.1 → ∃ a, cs' = enc a ∧ mem w a ∧ sz a ≤ Rows.uptoBulk y.1) :
  ∃ s : Sl α, cs = encS s ∧ memS k enc mem w s ∧ (s.l.map sz).sum + 1 ≤ Rows.uptoBulk x.1 ∧ (s.A = none → s.c = 0) := by
 rcases open_slice ht h with ⟨hcs, hx⟩ | ⟨a, len, cap, m, n, D, Pl, hcs, hb, hl, hm, hmm, hx, hi⟩
 ·
  exact ⟨⟨none, 0, []⟩, hcs, ⟨Nat.le_refl _, Nat.zero_le _, Rd.nil, by simp⟩, by simpa using bulk_one x.1, fun _ => rfl⟩
 ·
  simp only [if_true] at hmm
  subst hmm
  have hq : ∀ i, i < len → ∃ z : α, mem w z ∧ (∀ j, j < k → w.cell? (a.add (i * k + j)) = (enc z)[j]?) ∧ sz z ≤ Rows.uptoBulk (D i) := by
   intro i hil
   obtain ⟨cs', hc, ht'⟩ := hi i (by omega)
   have hlt : Rows.uptoBulk (D i) < Rows.uptoBulk x.1 := by
    rw [hx]
    have h1 : Rows.uptoBulk (D i) ≤ Rows.uptoBulkAll ((List.range len).map D) := bulk_mem (List.mem_map.2 ⟨i, List.mem_range.2 hil, rfl⟩)
    simp only [Rows.uptoBulk]
    omega
   obtain ⟨z, rfl, hz, hsz⟩ := hI ht' hlt
   obtain ⟨_, _, hat⟩ := World.cells?_some hc
   rw [hC] at hat
   refine ⟨z, hz, fun j hj => ?_, hsz⟩
   rw [← Go.Deep.add_add]
   exact hat j hj
  obtain ⟨ls, hls, hql⟩ := list_of len hq
  have hsum : (ls.map sz).sum ≤ Rows.uptoBulkAll ((List.range len).map D) := bulk_sum (by simp [hls]) (fun i h2 h3 => by simpa using (hql i h2).2.2)
  subst hls
  refine ⟨⟨some a, m, ls⟩, hcs, ⟨hl, hm, ⟨fm_len hen ls, fun hpos => ?_⟩, fun z hz => ?_⟩, ?_, fun h => by cases h⟩
  ·
   have hlp : 0 < ls.length := by
    rcases Nat.eq_zero_or_pos ls.length with h0 | h0
    ·
     simp only [h0, Nat.zero_mul] at hpos; omega
    ·
     exact h0
   have h00 := (hql 0 hlp).2.1 0 hk
   rw [Nat.zero_mul, Nat.add_zero, List.getElem?_eq_getElem (by rw [hen]; exact hk)] at h00
   have ha0 : a.add 0 = a := by simp [Addr.add]
   rw [ha0] at h00
   obtain ⟨b, o, s⟩ := a
   have hs : s = none := by
    cases s with
    | none => rfl
    | some s =>
     exfalso
     simp only [World.cell?] at h00
     split at h00 <;> simp at h00
   subst hs
   refine ⟨b, o, rfl, cell_lt h00, fun j u hu => ?_⟩
   have hj : j < ls.length * k := by
    have := (List.getElem?_eq_some_iff.1 hu).1
    rwa [fm_len hen ls] at this
   have hdm : j / k < ls.length := Nat.div_lt_of_lt_mul (by rw [Nat.mul_comm]; exact hj)
   have hjm : j / k * k + j % k = j := Nat.div_add_mod' j k
   have h1 := (hql (j / k) hdm).2.1 (j % k) (Nat.mod_lt _ hk)
   rw [hjm, add_none] at h1
   rw [h1, ← fm_get hen ls (j / k) hdm (j % k) (Nat.mod_lt _ hk), hjm]
   exact hu
  ·
   obtain ⟨i, hi', rfl⟩ := List.getElem_of_mem hz
   exact (hql i hi').1
  ·
   rw [hx]
   simp only [Rows.uptoBulk]
   omega

theorem open_rwN {H : Type} {en : TypeId × Value → H} {w : World} {n : Nat} {cs : List Value} {x : DataW H × List MemPlace} (h : DataW.trod en Tryz.prog w 0 (fun _ => true) true n 33 cs = some x) :
  ∃ s : Sl Va, cs = [.slice s.A s.l.length s.c] ∧ memS 3 vc (fun _ v => v.t.size ≤ maxLen) w s ∧ s.l.length + 1 ≤ Rows.uptoBulk x.1 ∧ (s.A = none → s.c = 0) := by
 obtain ⟨s, e, h1, h2, h3⟩ := slice_openN (k := 3) (enc := vc) (mem := fun _ v => v.t.size ≤ maxLen) (sz := fun _ => 1) Tryz.underlying33 (by kernel_rfl) (by decide) (fun _ => rfl) h
  (fun {n'} {cs'} {y} hy _ => by
   obtain ⟨a, ha, hm⟩ := opnVa.2 hy
   exact ⟨a, ha, hm, bulk_one _⟩)
 rw [ones] at h2
 exact ⟨s, e, h1, h2, h3⟩

def veMN (w : World) (p : VeA) : Prop := (Rd w 3 p.row.A p.row.l.length (vcl p.row.l) ∧ p.row.l.length ≤ 9223372036854775807 ∧ ∀ v ∈ p.row.l, v.t.size ≤ 9223372036854775807) ∧ (p.row.A = none → p.row.c = 0)

set_option maxRecDepth 100000 in
theorem open_verN {H : Type} {en : TypeId × Value → H} {w : World} {n : Nat} {cs : List Value} {x : DataW H × List MemPlace} (hf : DataW.trod en Tryz.prog w 0 (fun _ => true) true n 47 cs = some x) :
  ∃ p : VeA, cs = encVe p ∧ veMN w p := by
 obtain ⟨ys, n', _, hx, hlen, hyl, hfl⟩ := DataW.trod_struct Tryz.underlying47 hf
 obtain ⟨c0, c1, c2, c3, c4, c5, c6, c7, c8, rfl⟩ := nine_ (hlen.trans cells_version)
 have hy5 : ys.length = 7 := hyl
 match ys, hy5 with
 | [y0, y1, y2, y3, y4, y5, y6], _ =>
  have g0 : DataW.trod en Tryz.prog w 0 (fun _ => true) true n' 3 (([c0, c1, c2, c3, c4, c5, c6, c7, c8].drop 0).take (Tryz.prog.cellsOf 3)) = some y0 := hfl 0 _ rfl
  have g1 : DataW.trod en Tryz.prog w 0 (fun _ => true) true n' 3 (([c0, c1, c2, c3, c4, c5, c6, c7, c8].drop 1).take (Tryz.prog.cellsOf 3)) = some y1 := hfl 1 _ rfl
  have g2 : DataW.trod en Tryz.prog w 0 (fun _ => true) true n' 33 (([c0, c1, c2, c3, c4, c5, c6, c7, c8].drop 2).take (Tryz.prog.cellsOf 33)) = some y2 := hfl 2 _ rfl
  have g3 : DataW.trod en Tryz.prog w 0 (fun _ => true) true n' 35 (([c0, c1, c2, c3, c4, c5, c6, c7, c8].drop 3).take (Tryz.prog.cellsOf 35)) = some y3 := hfl 3 _ rfl
  have g4 : DataW.trod en Tryz.prog w 0 (fun _ => true) true n' 35 (([c0, c1, c2, c3, c4, c5, c6, c7, c8].drop 5).take (Tryz.prog.cellsOf 35)) = some y4 := hfl 4 _ rfl
  have g5 : DataW.trod en Tryz.prog w 0 (fun _ => true) true n' 3 (([c0, c1, c2, c3, c4, c5, c6, c7, c8].drop 7).take (Tryz.prog.cellsOf 3)) = some y5 := hfl 5 _ rfl
  have g6 : DataW.trod en Tryz.prog w 0 (fun _ => true) true n' 3 (([c0, c1, c2, c3, c4, c5, c6, c7, c8].drop 8).take (Tryz.prog.cellsOf 3)) = some y6 := hfl 6 _ rfl
  rw [show Tryz.prog.cellsOf 3 = 1 from by kernel_rfl] at g0 g1 g5 g6
  rw [show Tryz.prog.cellsOf 33 = 1 from by kernel_rfl] at g2
  rw [show Tryz.prog.cellsOf 35 = 2 from by kernel_rfl] at g3 g4
  simp only [List.drop, List.take] at g0 g1 g2 g3 g4 g5 g6
  obtain ⟨i0, e0, _⟩ := opnInt.2 g0
  obtain ⟨i1, e1, _⟩ := opnInt.2 g1
  obtain ⟨s, e2, h1, h2, h3⟩ := open_rwN g2
  obtain ⟨p3, e3, _⟩ := opnPer.2 g3
  obtain ⟨p4, e4, _⟩ := opnPer.2 g4
  obtain ⟨i5, e5, _⟩ := opnInt.2 g5
  obtain ⟨i6, e6, _⟩ := opnInt.2 g6
  simp only [List.cons.injEq, and_true] at e0 e1 e2 e3 e4 e5 e6
  obtain ⟨rfl, rfl⟩ := e3
  obtain ⟨rfl, rfl⟩ := e4
  subst e0 e1 e2 e5 e6
  exact ⟨⟨i0, i1, s, p3, p4, i5, i6⟩, rfl, ⟨h1.2.2.1, by show s.l.length ≤ _; have q1 := h1.1; have q2 := h1.2.1; unfold maxLen at q2; omega, fun v hv => by have := h1.2.2.2 v hv; unfold maxLen at this; exact this⟩, h3⟩

set_option maxRecDepth 100000 in
theorem open_versN {H : Type} {en : TypeId × Value → H} {w : World} {r : Reach} {b0 : Nat} {u : Value} {d : DataW H} {p : List MemPlace}
  (hv : Value.okWide Tryz.prog w r b0 28 u) (h : DataW.Trod en Tryz.prog w 0 (fun _ => true) true 28 u d p) :
  ∃ s : Sl VeA, u = .slice s.A s.l.length s.c ∧ s.l.length ≤ s.c ∧ s.c ≤ maxLen ∧ Rd w 9 s.A s.l.length (s.l.flatMap encVe) ∧ VsNL w s.l ∧ s.l.length + 1 ≤ Rows.uptoBulk d := by
 obtain ⟨a, len, cap, rfl⟩ := okWide_slice Tryz.underlying28 hv
 obtain ⟨fuel, hf⟩ := h
 obtain ⟨s, e, h1, h2, _⟩ := slice_openN (k := 9) (enc := encVe) (mem := veMN) (sz := fun _ => 1) Tryz.underlying28 cells_version (by decide) (fun _ => rfl) hf
  (fun {n'} {cs'} {y} hy _ => by
   obtain ⟨a, ha, hm⟩ := open_verN hy
   exact ⟨a, ha, hm, bulk_one _⟩)
 rw [ones] at h2
 have e2 : Value.slice a len cap = .slice s.A s.l.length s.c := by simpa [encS, Value.cells] using e
 exact ⟨s, e2, h1.1, h1.2.1, h1.2.2.1, h1.2.2.2, h2⟩

theorem six_ {cs : List Value} (h : cs.length = 6) : ∃ a b c d e f, cs = [a, b, c, d, e, f] := by
 match cs, h with
 | [a, b, c, d, e, f], _ => exact ⟨a, b, c, d, e, f, rfl⟩
theorem cells_path : Tryz.prog.cellsOf 39 = 6 := by kernel_rfl
set_option maxRecDepth 100000 in
theorem open_pth {H : Type} {en : TypeId × Value → H} {w : World} {n : Nat} {cs : List Value} {x : DataW H × List MemPlace} (hf : DataW.trod en Tryz.prog w 0 (fun _ => true) true n 39 cs = some x) :
  ∃ p : PaA, cs = encPa p ∧ PaOk w p := by
 obtain ⟨ys, n', _, hx, hlen, hyl, hfl⟩ := DataW.trod_struct Tryz.underlying39 hf
 obtain ⟨c0, c1, c2, c3, c4, c5, rfl⟩ := six_ (hlen.trans cells_path)
 have hy5 : ys.length = 3 := hyl
 match ys, hy5 with
 | [y0, y1, y2], _ =>
  have g0 : DataW.trod en Tryz.prog w 0 (fun _ => true) true n' 3 (([c0, c1, c2, c3, c4, c5].drop 0).take (Tryz.prog.cellsOf 3)) = some y0 := hfl 0 _ rfl
  have g1 : DataW.trod en Tryz.prog w 0 (fun _ => true) true n' 33 (([c0, c1, c2, c3, c4, c5].drop 1).take (Tryz.prog.cellsOf 33)) = some y1 := hfl 1 _ rfl
  have g2 : DataW.trod en Tryz.prog w 0 (fun _ => true) true n' 37 (([c0, c1, c2, c3, c4, c5].drop 2).take (Tryz.prog.cellsOf 37)) = some y2 := hfl 2 _ rfl
  rw [show Tryz.prog.cellsOf 3 = 1 from by kernel_rfl] at g0
  rw [show Tryz.prog.cellsOf 33 = 1 from by kernel_rfl] at g1
  rw [show Tryz.prog.cellsOf 37 = 4 from by kernel_rfl] at g2
  simp only [List.drop, List.take] at g0 g1 g2
  obtain ⟨i0, e0, _⟩ := opnInt.2 g0
  obtain ⟨s, e1, h1, h2, _⟩ := open_rwN g1
  obtain ⟨r, e2, _⟩ := opnRc.2 g2
  simp only [List.cons.injEq, and_true] at e0 e1 e2
  obtain ⟨rfl, rfl, rfl, rfl⟩ := e2
  subst e0 e1
  exact ⟨⟨i0, s, r⟩, rfl, h1.2.2.1, by show s.l.length ≤ _; have q1 := h1.1; have q2 := h1.2.1; unfold maxLen at q2; omega, fun v hv => by have := h1.2.2.2 v hv; unfold maxLen at this; exact this⟩
set_option maxRecDepth 100000 in
theorem open_ptha {H : Type} {en : TypeId × Value → H} {w : World} {r : Reach} {b0 : Nat} {u : Value} {d : DataW H} {p : List MemPlace}
  (hv : Value.okWide Tryz.prog w r b0 39 u) (h : DataW.Trod en Tryz.prog w 0 (fun _ => true) true 39 u d p) :
  ∃ pa : PaA, u = .agg #[.int .i64 pa.k, .slice pa.key.A pa.key.l.length pa.key.c, .int .i64 pa.r.1.1, .int .i64 pa.r.1.2, .int .i64 pa.r.2.1, .int .i64 pa.r.2.2] ∧ PaOk w pa := by
 obtain ⟨cs, rfl, hsz⟩ := okWide_struct Tryz.underlying39 hv
 obtain ⟨fuel, hf⟩ := h
 obtain ⟨pa, e, hm⟩ := open_pth hf
 exact ⟨pa, congrArg Value.agg (Array.ext' (e.trans rfl)), hm⟩

end Go.Proofs.YtdiaecgpjgdkdaaGreat

namespace Go.Proofs.YtdiaecgpjgdkdaaGreat
open Go.ChangeShapes Go.WideShapes Go.ChangeAt Go.RowKit Go.Joins Go.Deep

theorem accessOrder_readable : ∀ t ∈ Tryz.f4.params.toList, Tryz.prog.readableRec t = true ∧ t < Tryz.prog.types.size := fun t ht => by
  rw [Tryz.params4] at ht
  simp at ht
  rcases ht with rfl | rfl | rfl
  all_goals exact ⟨by kernel_rfl, of_decide_eq_true (by kernel_rfl)⟩
theorem accessOrder_spec : LawSpec Rows.accessOrderSpec 3 := by
 refine ⟨rfl, fun H ds h => ?_⟩
 match ds, h with
 | [d0, d1, d2], _ => rfl

set_option maxRecDepth 100000 in
theorem accessOrder_lifted (os : Os) (started : os.Started) (H : Type) (enc : TypeId × Value → H) :
  ReturnsInHanded {} Tryz.checked os 4 .any (Rows.accessOrderSpec.pre6 enc Tryz.prog Tryz.f4 Rows.accessOrderRow.domain false) (Rows.accessOrderSpec.post enc Tryz.prog Tryz.f4 false true false false) := by
 refine returnsInHanded_of_change_sized (C := Tryz.checked) Tryz.own started (by kernel_rfl) Tryz.func4
  (ChangeSpec.witness6 (enc := enc) (C := Tryz.checked) false ⟨#[], #[.agg #[.string .empty, .slice none 0 0, .slice none 0 0, .slice none 0 0, .slice none 0 0], .slice none 0 0, .agg #[.int .i64 0, .slice none 0 0, .int .i64 0, .int .i64 0, .int .i64 0, .int .i64 0]], []⟩ 8 (by kernel_rfl) (by kernel_rfl) (by kernel_rfl) (by kernel_rfl)) ?_
 intro W base args ds gs before hval0 hW _ hsz0 _
 have hsz1 : (DataW.weightsEach Tryz.prog (Tryz.f4.params.toList ++ Rows.accessOrderSpec.plain.varTypes Tryz.prog) (ds ++ gs)).all (· ≤ reachBytes) = true := hsz0
 have hval : ∀ (j : Nat) t v, Tryz.f4.params[j]? = some t → args[j]? = some v → Value.okWide Tryz.prog W .any base t v := hval0
 have hW' := hW
 obtain ⟨p, q, hA0, hV, rfl, hfz, hnd⟩ := hW
 have hA : DataW.TrodAll enc Tryz.prog W 0 (fun _ => true) true Tryz.f4.params.toList args.toList ds p := hA0
 obtain ⟨rfl, rfl⟩ := trodVars_none hV
 have hsz : (DataW.weightsEach Tryz.prog Tryz.f4.params.toList ds).all (· ≤ reachBytes) = true := by
  have e : Tryz.f4.params.toList ++ Rows.accessOrderSpec.plain.varTypes Tryz.prog = Tryz.f4.params.toList := by kernel_rfl
  rw [e, List.append_nil] at hsz1
  exact hsz1
 rw [Tryz.params4] at hA hval hsz
 obtain ⟨v0, vs0, d0, ds0, p0, q0, hargs, rfl, rfl, h0, r0⟩ := trodAll_cons hA
 obtain ⟨v1, vs1, d1, ds1, p1, q1, rfl, rfl, rfl, h1, r1⟩ := trodAll_cons r0
 obtain ⟨v2, vs2, d2, ds2, p2, q2, rfl, rfl, rfl, h2, r2⟩ := trodAll_cons r1
 obtain ⟨rfl, rfl, rfl⟩ := trodAll_nil r2
 obtain rfl : args = #[v0, v1, v2] := by cases args; simp_all
 clear hA0 hval0 hsz0 hsz1
 obtain ⟨s0, A1, K, A3, A4, n1, m1, n2, kc, n3, m3, n4, m4, cl, ks, fl, es, css, rfl, hs0, hT⟩ := open_tab (hval 0 27 v0 rfl rfl) h0
 obtain ⟨vs, rfl, hv1, hv2, hL, hV, _⟩ := open_versN (hval 1 28 v1 rfl rfl) h1
 have hmax : maxLen = 9223372036854775807 := rfl
 rw [hmax] at hv2
 obtain ⟨pa, rfl, hPO⟩ := open_ptha (hval 2 39 v2 rfl rfl) h2
 refine Calls.mono ?_ (R := fun e W' => e = .returned (.bool true) ∧ Ext W W') fun e W' ⟨he, hE⟩ => ⟨_, he, law_post (tb := 4) Tryz.laidOut accessOrder_spec accessOrder_readable Tryz.underlying4 rfl hW' hE⟩
 exact lawOrder_any s0 A1 K A3 A4 n1 m1 n2 kc n3 m3 n4 m4 cl ks fl es css vs.A vs.l.length vs.c vs.l pa W hs0 hT rfl (by omega) hL hV hPO

theorem accessOrder_holds : Rows.AccessOrderSaid :=
 OpenClaim.holds_of_wide 4 Tryz.f4 rfl rfl rfl rfl rfl rfl rfl ⟨rfl, rfl, rfl, rfl, rfl⟩ rfl rfl rfl rfl rfl (by kernel_rfl) Tryz.func4 (by kernel_rfl)
  (of_decide_eq_true (by kernel_rfl)) (by unfold Func.isWrapper; first | (rw [if_pos (by decide +kernel)]; kernel_rfl) | (rw [if_neg (by decide +kernel)]; exact ⟨rfl, rfl⟩))
  (fun os started H enc _ => accessOrder_lifted os started H enc)

#print axioms accessOrder_holds
end Go.Proofs.YtdiaecgpjgdkdaaGreat

