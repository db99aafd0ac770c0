/- Lemmas for the rows: AcA AcB AcG AcC AcE. -/
import Derived.Test.YtdiaecgpjgdkdaaGreatThS41
import Derived.Deep.OwnRows
import Derived.Deep.LoopGhost
import Derived.Test.YtdiaecgpjgdkdaaGreatThS05
import Derived.Test.YtdiaecgpjgdkdaaGreatThS17
import Derived.Test.YtdiaecgpjgdkdaaGreatThS06
import Derived.Test.YtdiaecgpjgdkdaaGreatThS07
import Derived.Test.YtdiaecgpjgdkdaaGreatThS29
import Derived.Test.YtdiaecgpjgdkdaaGreatThS34
import Derived.Test.YtdiaecgpjgdkdaaGreatThS38
import Derived.StillTailTactics
set_option linter.unusedSimpArgs false
set_option linter.unusedVariables false
namespace Go.Proofs.YtdiaecgpjgdkdaaGreat
open Go.RowKit

theorem kt_alloc2 (V : World) (a a' b b' : Array Value) (t : TypeId) (x : Add) : Kt (fun ty => ty ≠ t) (ext ((V.alloc (.cells a t)).alloc (.cells b t)) x) (ext ((V.alloc (.cells a' t)).alloc (.cells b' t)) x) := by
 refine ⟨rfl, rfl, rfl, by simp [size_ext], fun k c0 ty f hb ht => ?_⟩
 have at0 : ∀ (c d : Array Value), (ext ((V.alloc (.cells c t)).alloc (.cells d t)) x).heap[V.heap.size]? = some (.cells c t) := fun c d => by
  rw [block_ext _ _ _ (by simp; omega)]
  show ((V.heap.push _).push _)[V.heap.size]? = _
  simp [Array.getElem?_push]
 have at1 : ∀ (c d : Array Value), (ext ((V.alloc (.cells c t)).alloc (.cells d t)) x).heap[V.heap.size + 1]? = some (.cells d t) := fun c d => by
  rw [block_ext _ _ _ (by simp)]
  show ((V.heap.push _).push _)[V.heap.size + 1]? = _
  rw [Array.getElem?_push, if_pos (by simp)]
 by_cases h0 : k = V.heap.size
 ·
  exfalso
  subst h0
  rw [at0] at hb
  cases hb
  exact ht rfl
 by_cases h1 : k = V.heap.size + 1
 ·
  exfalso
  subst h1
  rw [at1] at hb
  cases hb
  exact ht rfl
 rw [← hb]
 refine ext_agree (by simp) ?_
 show ((V.heap.push _).push _)[k]? = ((V.heap.push _).push _)[k]?
 rw [Array.getElem?_push, Array.getElem?_push, Array.getElem?_push, Array.getElem?_push]
 simp [h0, h1]
def VeA.at (p : VeA) (A : Option Addr) (c : Nat) : VeA := { p with row := { A := A, c := c, l := p.row.l } }
set_option maxRecDepth 100000 in
set_option maxHeartbeats 8000000 in
theorem acloned_any (p : VeA) (w : World) (hR : Rd w 3 p.row.A p.row.l.length (vcl p.row.l)) (hl : p.row.l.length ≤ 1048576) (hnil : p.row.A = none → p.row.c = 0) :
  Calls Tryz.prog 16 #[vgA p] w fun e w' => ∃ A c, e = .returned (vgA (p.at A c)) ∧ Ext w w' ∧ RdT w' TVA 3 A p.row.l.length (vcl p.row.l) ∧ (A = none → c = 0) := by
 have HC := Lib.hid fun W (e : Ext w W) => cloneV_any p.row.A p.row.l.length p.row.c (vcl p.row.l) W (hR.ext e) (oneCell_vcl _) hl fun h => by
  refine ⟨?_, hnil h⟩
  rcases Nat.eq_zero_or_pos p.row.l.length with h0 | h0
  ·
   exact h0
  ·
   obtain ⟨b, o, h1, _⟩ := hR.2 (by omega)
   rw [h] at h1; cases h1
 obtain ⟨id, sch, ⟨rA, rc, rl⟩, ⟨v1, v2⟩, ⟨s1, s2⟩, by_, un⟩ := p
 unfold VeA.at
 dsimp only at HC ⊢
 clear hR hl hnil
 generalize vcl rl = xs at HC ⊢
 go_enter Tryz.func16, Tryz.ntmps16
 go_wp2_with fail
 refine Calls.mono (HC.out _ (ex_)) ?_
 rintro e w1 ⟨v1', rfl, ho, hb1⟩
 obtain ⟨x1, rfl⟩ := hb1.get
 obtain ⟨A1, c1, rfl, hnc⟩ : ∃ A c, v1' = .slice A rl.length c ∧ (A = none → c = 0) := by
  rcases ho.2 with ⟨rfl, h0⟩ | ⟨g, cap, cur, rfl, _⟩
  ·
   exact ⟨none, 0, by rw [h0], fun _ => rfl⟩
  ·
   exact ⟨_, _, rfl, fun h => by cases h⟩
 have HR := Lib.hid (RdT.of_own ho)
 clear ho hb1
 go_wp2
 refine bodyPost_ret (v := .agg #[.int .i64 id, .int .i64 sch, .slice A1 rl.length c1, .int .i64 v1, .int .i64 v2, .int .i64 s1, .int .i64 s2, .int .i64 by_, .int .i64 un]) ?_ rfl ⟨A1, c1, rfl, ex_, HR.out.kt (kt_alloc2 w _ _ _ _ 47 x1) (by decide), hnc⟩
 simp [results, Tryz.results16, go_sem, ↓IntWalk.iteOmega]

def IdxS (w : World) (xb : Nat) (VA : Option Addr) (n vc tb ib : Nat) (RA : Option Addr) (m rc : Nat) : Prop := w.heap[xb]? = some (.cells #[.slice VA n vc, pt tb, ptI ib, .slice RA m rc] 54 (0, 0))
theorem IdxS.c {w : World} {xb : Nat} {VA : Option Addr} {n vc tb ib : Nat} {RA : Option Addr} {m rc : Nat} (h : IdxS w xb VA n vc tb ib RA m rc) : xb < w.heap.size ∧ w.cell? ⟨xb, 0, none⟩ = some (.slice VA n vc) ∧ w.cell? ⟨xb, 1, none⟩ = some (.pointer (some ⟨tb, 0, none⟩)) ∧ w.cell? ⟨xb, 2, none⟩ = some (.pointer (some ⟨ib, 0, none⟩)) ∧ w.cell? ⟨xb, 3, none⟩ = some (.slice RA m rc) ∧ ∀ j, w.frozen? ⟨xb, j, none⟩ = false := by
 have k : w.heap[xb]? = some (.cells #[.slice VA n vc, pt tb, ptI ib, .slice RA m rc] 54 (0, 0)) := h
 refine ⟨(Array.getElem?_eq_some_iff.1 k).1, ?_, ?_, ?_, ?_, fun j => ?_⟩ <;> simp [World.cell?, World.frozen?, k, ptI, pt]
theorem IdxS.ext {w w' : World} {xb : Nat} {VA : Option Addr} {n vc tb ib : Nat} {RA : Option Addr} {m rc : Nat} (h : IdxS w xb VA n vc tb ib RA m rc) (e : Ext w w') : IdxS w' xb VA n vc tb ib RA m rc := (e.block _ h.c.1).trans h
theorem IdxS.kt {T : TypeId → Prop} {w w' : World} {xb : Nat} {VA : Option Addr} {n vc tb ib : Nat} {RA : Option Addr} {m rc : Nat} (h : IdxS w xb VA n vc tb ib RA m rc) (k : Kt T w w') (hT : T 54) : IdxS w' xb VA n vc tb ib RA m rc := k.blk _ _ _ _ h hT
theorem own_made (w : World) (n : Nat) (hn : n ≤ maxLen) {b : Nat} (hb : b = w.heap.size) : (w.alloc (.cells (madeCells #[.int .i64 0] n) 3)).ownsRow w.heap.size 3 1 (.slice (some ⟨b, 0, none⟩) n n) n (ic (List.replicate n 0)) := by
 subst hb
 have e : (madeCells #[.int .i64 0] n).toList = ic (List.replicate n 0) := by
  apply List.ext_getElem
  ·
   simp [madeCells, ic]
  ·
   intro i h1 h2
   simp [madeCells, ic, Nat.mod_one]
 refine ⟨by simp [ic], .inr ⟨w.heap.size, n, madeCells #[.int .i64 0] n, rfl, Nat.le_refl _, ?_, Nat.le_refl _, hn, by rw [size_madeCells]; omega, ?_⟩⟩
 ·
  show (w.heap.push _)[w.heap.size]? = _
  simp
 ·
  rw [e, List.take_of_length_le (by simp [ic])]
def upL (k n : Nat) : List Int := (List.range k).map (fun i : Nat => (i : Int)) ++ List.replicate (n - k) 0
theorem upL_set {k n : Nat} (h : k < n) : (ic (upL k n)).set k (.int .i64 (k : Int)) = ic (upL (k + 1) n) := by
 unfold upL ic
 rw [← List.map_set]
 congr 1
 rw [List.set_append_right _ _ (by simp), List.range_succ, List.map_append, List.length_map, List.length_range, Nat.sub_self]
 obtain ⟨m, hm⟩ : ∃ m, n - k = m + 1 := ⟨n - k - 1, by omega⟩
 rw [hm, show n - (k + 1) = m from by omega, List.replicate_succ]
 simp
theorem upL_len (k n : Nat) (h : k ≤ n) : (upL k n).length = n := by unfold upL; simp; omega
set_option maxRecDepth 100000 in
set_option maxHeartbeats 8000000 in
theorem scan_find (xb : Nat) (VA : Option Addr) (n vc tb ib : Nat) (RA : Option Addr) (m rc : Nat) (w : World) (hx : IdxS w xb VA n vc tb ib RA m rc) (hn : n ≤ 1048576) :
  Calls Tryz.prog 188 #[.agg #[], pt xb] w (OPost w (upL n n)) := by
 obtain ⟨h1, h2, -, -, -, -⟩ := hx.c
 have hmk := fun w => run_make_row' (P := Tryz.prog) 23 3 (.int .i64 0) 8 Tryz.underlying23 (by kernel_rfl) rfl .i64 .i64 n (by omega) (by omega) w
 clear hx
 unfold OPost
 go_enter Tryz.func188, Tryz.ntmps188
 go_wp2
 go_loopw [15] (fun si wr => ∃ (k : Nat) (x : Add), k ≤ n ∧ si = .int .i64 k ∧ wr = ext (w.alloc (.cells #[] 94)) x ∧ Own (w.alloc (.cells #[] 94)) x 3 1 (.slice (some ⟨w.heap.size + 1, 0, none⟩) n n) n (ic (upL k n))) (fun si _ => n - (intOf si).toNat)
 case atStart =>
  obtain ⟨x, hxx⟩ := (Ext.al1 (w.alloc (.cells #[] 94)) (.cells (madeCells #[.int .i64 0] n) 3)).get
  refine ⟨0, x, Nat.zero_le _, rfl, hxx, ?_⟩
  unfold Own
  rw [← hxx]
  have := own_made (w.alloc (.cells #[] 94)) n (by unfold maxLen; omega) (b := w.heap.size + 1) (by simp)
  simpa [upL] using this
 case round =>
  obtain ⟨k, x, hk, rfl, rfl, hown⟩ := hrel
  by_cases hlt : k < n
  ·
   obtain ⟨x2, hset, hxn, hown2, -, -, -⟩ := Own.set hown k (.int .i64 (k : Int))
   have hlow : ¬ w.heap.size + 1 < (w.alloc (.cells #[] 94)).heap.size := by simp
   have hfz : (extR (w.alloc (.cells #[] 94)) x).frozen? ⟨w.heap.size + 1, k, none⟩ = false := hown.frozenAt k
   obtain ⟨g, hg, _, hgs, hcl, _⟩ := Own.at hown (by omega)
   have hg2 : w.heap.size + 1 = g := by simpa using hg
   subst hg2
   have hck : (extR (w.alloc (.cells #[] 94)) x).cell? ⟨w.heap.size + 1, k, none⟩ = some (.int .i64 ((upL k n)[k]'(by rw [upL_len k n hk]; exact hlt))) := hcl k _ (by simp [ic, upL_len k n hk, hlt])
   have hkz : (k : Int) < (n : Int) := by omega
   have HOW := Lib.hid (by rw [upL_set hlt] at hown2; exact hown2)
   simp only [World.size_alloc] at hgs
   clear hown hown2 hcl hg
   go_wp2
   go_roundw
   case rel => exact ⟨k + 1, x2, by omega, by go_num, rfl, HOW.out⟩
   case measure => simp [intOf]; omega
  ·
   have hkn : k = n := by omega
   subst hkn
   go_wp2
   go_ret
   refine ⟨_, k, by rw [upL_len k k (Nat.le_refl _)]; rfl, ?_, ex_⟩
   rw [upL_len k k (Nat.le_refl _)]
   exact own_mono hown (by simp)

set_option maxRecDepth 100000 in
set_option maxHeartbeats 8000000 in
theorem valid_find (xb : Nat) (VA : Option Addr) (n vc tb ib : Nat) (RA : Option Addr) (m rc : Nat) (p : Int × Int) (base : Nat) (t : AT) (w : World) (hx : IdxS w xb VA n vc tb ib RA m rc) (ht : ITr w base ib t) (sz : t.flat.length ≤ 1048576) :
  Calls Tryz.prog 200 #[pr p, pt xb] w (OPost w (idsF p t)) := by
 have HOV := Lib.hid fun W (e : Ext w W) => OverlapO W p base ib t (ht.ext e) sz
 unfold ptI at HOV
 obtain ⟨h1, -, -, h2, -, -⟩ := hx.c
 clear hx ht sz
 unfold OPost at *
 go_enter Tryz.func200, Tryz.ntmps200
 go_wp2
 refine wp_region_held_drew (S := (fun w' => w'.cell? ⟨xb, 2, none⟩ = some (.pointer (some ⟨ib, 0, none⟩)) ∧ w'.cell? ⟨w.heap.size, 0, none⟩ = some (.int .i64 p.1) ∧ w'.cell? ⟨w.heap.size, 1, none⟩ = some (.int .i64 p.2))) (by kernel_rfl) (by simp [go_sem, ↓IntWalk.iteOmega, *]) (fun hHeld => ?_)
 refine tkH 0 ?oi1 (?v1) ?hi1 ?hy1 ?_
 case hi1 => (simp only [gA, gS, gZ]; try rfl)
 case hy1 => (refine Or.inl ⟨by rfl, ?_⟩; intro wq hSw; (try dsimp only at hSw); go_simp; (try with_reducible rfl))
 (try simp only [Act.put, pA, pZ, pS])
 refine tkH 1 ?oi2 (?v2) ?hi2 ?hy2 ?_
 case hi2 => (simp only [gA, gS, gZ]; try rfl)
 case hy2 => (refine Or.inl ⟨by rfl, ?_⟩; intro wq hSw; (try dsimp only at hSw); go_simp; (try with_reducible rfl))
 (try simp only [Act.put, pA, pZ, pS])
 refine tkH 2 ?oi3 (?v3) ?hi3 ?hy3 ?_
 case hi3 => (simp only [gA, gS, gZ]; try rfl)
 case hy3 => (refine Or.inl ⟨by rfl, ?_⟩; intro wq hSw; (try dsimp only at hSw); go_simp; (try with_reducible rfl))
 (try simp only [Act.put, pA, pZ, pS])
 refine tkH 3 ?oi4 (?v4) ?hi4 ?hy4 ?_
 case hi4 => (simp only [gA, gS, gZ]; try rfl)
 case hy4 => (refine Or.inl ⟨by rfl, ?_⟩; intro wq hSw; (try dsimp only at hSw); go_simp; (try with_reducible rfl))
 (try simp only [Act.put, pA, pZ, pS])
 refine tkH 4 ?oi5 (?v5) ?hi5 ?hy5 ?_
 case hi5 => (simp only [gA, gS, gZ]; try rfl)
 case hy5 => (refine Or.inl ⟨by rfl, ?_⟩; intro wq hSw; (try dsimp only at hSw); go_simp; (try with_reducible rfl))
 (try simp only [Act.put, pA, pZ, pS])
 refine tkH 5 ?oi6 (?v6) ?hi6 ?hy6 ?_
 case hi6 => (simp only [gA, gS, gZ]; try rfl)
 case hy6 => (refine Or.inl ⟨by rfl, ?_⟩; intro wq hSw; (try dsimp only at hSw); go_simp; (try with_reducible rfl))
 (try simp only [Act.put, pA, pZ, pS])
 refine wpAnyH_ready (rs := [6]) (by kernel_rfl) (by simp) ?_
 refine AllReadyH.cons (o := ?oi7) ?hi7 ?ti7 AllReadyH.nil
 case hi7 => (simp only [gA, gS, gZ]; try rfl)
 case ti7 =>
  intro KQ hKQ
  go_simp
  go_at_call 202
  refine Calls.mono (HOV.out _ (ex_)) ?_
  rintro e w1 ⟨A1, c1, rfl, ho1, hb1⟩
  obtain ⟨x1, rfl⟩ := hb1.get
  have HO1 := Lib.hid ho1
  clear hb1 ho1
  refine hKQ.out _ _ (by simp [go_sem, ↓IntWalk.iteOmega, *]) (fun hHeld2 => ?_)
  clear hHeld hKQ KQ; have hHeld := hHeld2; clear hHeld2
  (try simp only [Act.put, pA, pZ, pS])
  refine tkH 7 ?oi8 (?v8) ?hi8 ?hy8 ?_
  case hi8 => (simp only [gA, gS, gZ]; try rfl)
  case hy8 => (refine Or.inl ⟨by rfl, ?_⟩; intro wq hSw; (try dsimp only at hSw); go_simp; (try with_reducible rfl))
  (try simp only [Act.put, pA, pZ, pS])
  refine wpAnyH_done (by kernel_rfl) ?_ _
  go_wp2
  go_ret
  exact ⟨A1, c1, rfl, own_mono HO1.out (by simp <;> omega), ex_⟩

def badL (l : List Va) : Bool := l.any fun v => !vvB v
set_option maxRecDepth 100000 in
set_option maxHeartbeats 8000000 in
theorem notval_any (v : Va) (w : World) (hs : v.t.size ≤ 9223372036854775807) : Calls Tryz.prog 193 #[vag v] w fun e w' => e = .returned (.bool (!vvB v)) ∧ Ext w w' := by
 have HV := Lib.hid fun W => vvalid_any v W hs
 generalize vvB v = b at HV ⊢
 go_enter Tryz.func193, Tryz.ntmps193
 go_wp2_with fail
 refine (HV.out _).mono ?_
 rintro e w1 ⟨rfl, hb1⟩
 obtain ⟨x1, rfl⟩ := hb1.get
 clear hb1 HV
 go_wp2
 go_ret
 exact ⟨rfl, ex_⟩
set_option maxRecDepth 100000 in
set_option maxHeartbeats 8000000 in
theorem indexf_any (A : Option Addr) (n c : Nat) (l : List Va) (w : World) (hn : l.length = n) (hA : Rd w 3 A n (vcl l)) (nl : n ≤ 9223372036854775807) (hz : ∀ v ∈ l, v.t.size ≤ 9223372036854775807) :
  Calls Tryz.prog 195 #[.slice A n c, .func (.func 193) #[] #[]] w fun e w' => (∃ z : Int, e = .returned (.int .i64 z) ∧ Hid (badL l = decide (0 ≤ z))) ∧ Ext w w' := by
 have HN := Lib.hid hn
 have HZ := Lib.hid hz
 clear hn hz
 go_enter Tryz.func195, Tryz.ntmps195
 go_wp2
 go_loopw [8, 5] (fun si _ wr => ∃ k : Nat, k ≤ n ∧ si = .int .i64 k ∧ Hid (badL l = badL (l.drop k)) ∧ Ext w wr) (fun si _ _ => n - (intOf si).toNat)
 case atStart => exact ⟨0, Nat.zero_le _, rfl, Lib.hid rfl, ex_⟩
 case round =>
  obtain ⟨k, hk, rfl, HF, hE⟩ := hrel
  obtain ⟨x, rfl⟩ := hE.get
  clear hE
  by_cases hlt : k < n
  ·
   obtain ⟨v, b, oo, hv, rfl, hb, p0, p1, p2⟩ := hA.val3 HN.out hlt
   have HV := Lib.hid fun W => notval_any v W (HZ.out v (List.mem_of_getElem? hv))
   have HS : Hid (badL (l.drop k) = (!vvB v || badL (l.drop (k + 1)))) := Lib.hid (by
    obtain ⟨h1, h2⟩ := List.getElem?_eq_some_iff.1 hv
    unfold badL
    rw [List.drop_eq_getElem_cons h1, h2, List.any_cons])
   have hkz : (k : Int) < (n : Int) := by omega
   clear hv
   rcases hvb : vvB v with _ | _
   ·
    rw [hvb] at HV
    have HE : Hid (badL l = decide (0 ≤ (k : Int))) := Lib.hid (by rw [HF.out, HS.out, hvb, decide_eq_true (by omega)]; rfl)
    clear HF HS hvb
    go_wp2_with (go_at_call 193; refine (HV.out _).mono ?_; rintro e w1 ⟨rfl, hb1⟩; obtain ⟨x1, rfl⟩ := hb1.get; clear hb1)
    go_ret
    exact ⟨⟨_, rfl, HE⟩, ex_⟩
   ·
    rw [hvb] at HV
    have HE : Hid (badL l = badL (l.drop (k + 1))) := Lib.hid (by rw [HF.out, HS.out, hvb]; rfl)
    clear HF HS hvb
    go_wp2_with (go_at_call 193; refine (HV.out _).mono ?_; rintro e w1 ⟨rfl, hb1⟩; obtain ⟨x1, rfl⟩ := hb1.get; clear hb1)
    go_roundw
    case rel => exact ⟨k + 1, by omega, by go_num, HE, ex_⟩
    case measure => simp [intOf]; omega
  ·
   have HE : Hid (badL l = decide (0 ≤ (-1 : Int))) := Lib.hid (by rw [HF.out, List.drop_eq_nil_of_le (by have := HN.out; omega)]; rfl)
   have hkz : ¬ (k : Int) < (n : Int) := by omega
   clear HF
   go_wp2
   go_ret
   exact ⟨⟨_, rfl, HE⟩, ex_⟩
set_option maxRecDepth 100000 in
set_option maxHeartbeats 8000000 in
theorem containsf_any (A : Option Addr) (n c : Nat) (l : List Va) (w : World) (hn : l.length = n) (hA : Rd w 3 A n (vcl l)) (nl : n ≤ 9223372036854775807) (hz : ∀ v ∈ l, v.t.size ≤ 9223372036854775807) :
  Calls Tryz.prog 192 #[.slice A n c, .func (.func 193) #[] #[]] w fun e w' => e = .returned (.bool (badL l)) ∧ Ext w w' := by
 have HI := Lib.hid fun W (e : Ext w W) => indexf_any A n c l W hn (hA.ext e) nl hz
 generalize badL l = b at HI ⊢
 go_enter Tryz.func192, Tryz.ntmps192
 go_wp2_with fail
 refine (HI.out _ (ex_)).mono ?_
 rintro e w1 ⟨⟨z, rfl, hz1⟩, hb1⟩
 obtain ⟨x1, rfl⟩ := hb1.get
 have HZ1 := Lib.hid hz1.out
 clear hb1 HI
 go_wp2
 go_ret
 exact ⟨by rw [HZ1.out]; rfl, ex_⟩

def kidF (Ks : List Kp) (K : List Va) : List Int := if badL K then [] else preK Ks K
set_option maxRecDepth 100000 in
set_option maxHeartbeats 8000000 in
theorem keyed_find (xb : Nat) (VA : Option Addr) (n vc tb ib : Nat) (RA : Option Addr) (m rc : Nat) (PA : Option Addr) (kn pc : Nat) (K : List Va) (base : Nat) (Ks : List Kp) (w : World) (hx : IdxS w xb VA n vc tb ib RA m rc) (ht : TK base w tb 8 Ks) (hkn : K.length = kn) (hK : Rd w 3 PA kn (vcl K)) (nk : kn ≤ 9223372036854775807) (hz : ∀ v ∈ K, v.t.size ≤ 9223372036854775807) :
  Calls Tryz.prog 190 #[.agg #[.slice PA kn pc], pt xb] w (OPost w (kidF Ks K)) := by
 have HCO := Lib.hid fun W (e : Ext w W) => containsf_any PA kn pc K W hkn (hK.ext e) nk hz
 have HPR : Hid (∀ W, Ext w W → Calls Tryz.prog 194 #[.pointer (some ⟨tb, 0, none⟩), .slice PA kn pc] W (OPost W (preK Ks K))) := Lib.hid fun W e => by
  have h := preO_k base 8 tb Ks PA pc K W (by decide) (by decide) (ht.ext e) (by rw [hkn]; exact hK.ext e) (by omega)
  rw [hkn] at h
  exact h
 obtain ⟨h1, -, h2, -, -, -⟩ := hx.c
 have HKF : Hid (kidF Ks K = if badL K then [] else preK Ks K) := Lib.hid rfl
 generalize kidF Ks K = R at HKF ⊢
 generalize preK Ks K = R2 at HKF HPR
 clear hx ht hK hz hkn
 unfold OPost at *
 rcases hb : badL K with _ | _
 ·
  rw [hb] at HCO HKF
  obtain rfl : R = R2 := HKF.out
  clear hb HKF
  go_enter Tryz.func190, Tryz.ntmps190
  go_wp2_with fail
  refine (HCO.out _ (ex_)).mono ?_
  rintro e w1 ⟨rfl, hb1⟩
  obtain ⟨x0, rfl⟩ := hb1.get
  clear hb1 HCO
  go_wp2
  refine wp_region_held_drew (S := (fun w' => w'.cell? ⟨xb, 1, none⟩ = some (.pointer (some ⟨tb, 0, none⟩)) ∧ w'.cell? ⟨w.heap.size, 0, none⟩ = some (.slice PA kn pc))) (by kernel_rfl) (by simp [go_sem, ↓IntWalk.iteOmega, *]) (fun hHeld => ?_)
  refine tkH 0 ?oi101 (?v101) ?hi101 ?hy101 ?_
  case hi101 => (simp only [gA, gS, gZ]; try rfl)
  case hy101 => (refine Or.inl ⟨by rfl, ?_⟩; intro wq hSw; (try dsimp only at hSw); go_simp; (try with_reducible rfl))
  (try simp only [Act.put, pA, pZ, pS])
  refine tkH 1 ?oi102 (?v102) ?hi102 ?hy102 ?_
  case hi102 => (simp only [gA, gS, gZ]; try rfl)
  case hy102 => (refine Or.inl ⟨by rfl, ?_⟩; intro wq hSw; (try dsimp only at hSw); go_simp; (try with_reducible rfl))
  (try simp only [Act.put, pA, pZ, pS])
  refine tkH 2 ?oi103 (?v103) ?hi103 ?hy103 ?_
  case hi103 => (simp only [gA, gS, gZ]; try rfl)
  case hy103 => (refine Or.inl ⟨by rfl, ?_⟩; intro wq hSw; (try dsimp only at hSw); go_simp; (try with_reducible rfl))
  (try simp only [Act.put, pA, pZ, pS])
  refine tkH 3 ?oi104 (?v104) ?hi104 ?hy104 ?_
  case hi104 => (simp only [gA, gS, gZ]; try rfl)
  case hy104 => (refine Or.inl ⟨by rfl, ?_⟩; intro wq hSw; (try dsimp only at hSw); go_simp; (try with_reducible rfl))
  (try simp only [Act.put, pA, pZ, pS])
  refine tkH 4 ?oi105 (?v105) ?hi105 ?hy105 ?_
  case hi105 => (simp only [gA, gS, gZ]; try rfl)
  case hy105 => (refine Or.inl ⟨by rfl, ?_⟩; intro wq hSw; (try dsimp only at hSw); go_simp; (try with_reducible rfl))
  (try simp only [Act.put, pA, pZ, pS])
  refine tkH 5 ?oi106 (?v106) ?hi106 ?hy106 ?_
  case hi106 => (simp only [gA, gS, gZ]; try rfl)
  case hy106 => (refine Or.inl ⟨by rfl, ?_⟩; intro wq hSw; (try dsimp only at hSw); go_simp; (try with_reducible rfl))
  (try simp only [Act.put, pA, pZ, pS])
  refine wpAnyH_ready (rs := [6]) (by kernel_rfl) (by simp) ?_
  refine AllReadyH.cons (o := ?oi107) ?hi107 ?ti107 AllReadyH.nil
  case hi107 => (simp only [gA, gS, gZ]; try rfl)
  case ti107 =>
   intro KQ hKQ
   go_simp
   go_at_call 194
   refine Calls.mono (HPR.out _ (ex_)) ?_
   rintro e w1 ⟨A1, c1, rfl, ho1, hb1⟩
   obtain ⟨x1, rfl⟩ := hb1.get
   have HO1 := Lib.hid ho1
   clear hb1 ho1
   refine hKQ.out _ _ (by simp [go_sem, ↓IntWalk.iteOmega, *]) (fun hHeld2 => ?_)
   clear hHeld hKQ KQ; have hHeld := hHeld2; clear hHeld2
   (try simp only [Act.put, pA, pZ, pS])
   refine tkH 7 ?oi108 (?v108) ?hi108 ?hy108 ?_
   case hi108 => (simp only [gA, gS, gZ]; try rfl)
   case hy108 => (refine Or.inl ⟨by rfl, ?_⟩; intro wq hSw; (try dsimp only at hSw); go_simp; (try with_reducible rfl))
   (try simp only [Act.put, pA, pZ, pS])
   refine wpAnyH_done (by kernel_rfl) ?_ _
   go_wp2
   go_ret
   exact ⟨A1, c1, rfl, own_mono HO1.out (by simp <;> omega), ex_⟩
 ·
  rw [hb] at HCO HKF
  obtain rfl : R = [] := HKF.out
  clear hb HKF
  go_enter Tryz.func190, Tryz.ntmps190
  go_wp2_with fail
  refine (HCO.out _ (ex_)).mono ?_
  rintro e w1 ⟨rfl, hb1⟩
  obtain ⟨x0, rfl⟩ := hb1.get
  clear hb1 HCO
  go_wp2
  go_ret
  exact ⟨none, 0, rfl, World.ownsRow_nil _ _ _ _, ex_⟩

def TrsF (w : World) : List (Option Addr × List Bxs) → Prop := fun R => ∀ r ∈ R, r.2.length ≤ 200 ∧ ∃ n d, TreeH w r.1 (rtE 8 r.2) n d
theorem TrsF.ext {w w' : World} {R : List (Option Addr × List Bxs)} (h : TrsF w R) (e : Ext w w') : TrsF w' R := fun r hr => by
 obtain ⟨h1, n, d, h2⟩ := h r hr
 exact ⟨h1, n, d, h2.ext e⟩
def ptrR (R : List (Option Addr × List Bxs)) : List Value := R.map fun r => .pointer r.1
def ridF (R : List (Option Addr × List Bxs)) (q : Rct) : List Int := R.flatMap fun r => rsF (loE 8 r.2) q
theorem ridF_len (R : List (Option Addr × List Bxs)) (q : Rct) (h : ∀ r ∈ R, r.2.length ≤ 200) : (ridF R q).length ≤ R.length * 200 := by
 unfold ridF
 induction R with
 | nil => simp
 | cons r R ih =>
  rw [List.flatMap_cons, List.length_append, List.length_cons]
  have h1 := Nat.le_trans (rsF_length (loE 8 r.2) q) (lo_le 8 r.2)
  have h2 := h r (by simp)
  have h3 := ih fun x hx => h x (by simp [hx])
  omega
theorem Rd.ptrA {w : World} {A : Option Addr} {R : List (Option Addr × List Bxs)} {m : Nat} (h : Rd w 1 A m (ptrR R)) (hm : R.length = m) {k : Nat} (hk : k < m) : ∃ r b o, R[k]? = some r ∧ A = some ⟨b, o, none⟩ ∧ b < w.heap.size ∧ w.cell? ⟨b, o + k, none⟩ = some (.pointer r.1) := by
 have hk' : k < R.length := by omega
 obtain ⟨b, o, hA, hb, hc⟩ := h.2 (by omega)
 exact ⟨R[k], b, o, List.getElem?_eq_getElem hk', hA, hb, hc k _ (by simp [ptrR, hk'])⟩
set_option maxRecDepth 100000 in
set_option maxHeartbeats 8000000 in
theorem rect_find (xb : Nat) (VA : Option Addr) (n vc tb ib : Nat) (RA : Option Addr) (m rc : Nat) (q : Rct) (R : List (Option Addr × List Bxs)) (w : World) (hx : IdxS w xb VA n vc tb ib RA m rc) (hm : R.length = m) (hR : Rd w 1 RA m (ptrR R)) (ht : TrsF w R) (hm2 : m ≤ 100) :
  Calls Tryz.prog 205 #[.agg #[.int .i64 q.1.1, .int .i64 q.1.2, .int .i64 q.2.1, .int .i64 q.2.2], pt xb] w (OPost w (ridF R q)) := by
 have HM := Lib.hid hm
 have HT := Lib.hid ht
 have HLR : Hid ((ridF R q).length ≤ m * 200) := Lib.hid (by rw [← hm]; exact ridF_len R q fun r hr => (ht r hr).1)
 obtain ⟨h1, -, -, -, h2, -⟩ := hx.c
 clear hx hm ht
 unfold OPost
 go_enter Tryz.func205, Tryz.ntmps205
 go_wp2
 go_loopw [5, 13] (fun so si wr => ∃ (k : Nat) (acc : List Int) (x : Add), k ≤ m ∧ acc.length ≤ k * 200 ∧ si = .int .i64 k ∧ Hid (ridF R q = acc ++ ridF (R.drop k) q) ∧ wr = ext (w.alloc (.cells #[.int .i64 q.1.1, .int .i64 q.1.2, .int .i64 q.2.1, .int .i64 q.2.2] 100)) x ∧ Own (w.alloc (.cells #[.int .i64 q.1.1, .int .i64 q.1.2, .int .i64 q.2.1, .int .i64 q.2.2] 100)) x TI' 1 so acc.length (ic acc)) (fun _ si _ => m - (intOf si).toNat)
 case atStart =>
  obtain ⟨x, hx⟩ := (Ext.refl' (w.alloc (.cells #[.int .i64 q.1.1, .int .i64 q.1.2, .int .i64 q.2.1, .int .i64 q.2.2] 100))).get
  exact ⟨0, [], x, Nat.zero_le _, by simp, rfl, Lib.hid rfl, hx, own_nil _ _ _ _⟩
 case round =>
  obtain ⟨k, acc, x, hk, hal, rfl, HF, rfl, hown⟩ := hrel
  by_cases hlt : k < m
  ·
   obtain ⟨r, b, oo, hr, rfl, hb, c0⟩ := hR.ptrA HM.out hlt
   have hr2 := HT.out r (List.mem_of_getElem? hr)
   obtain ⟨h3r, n', d', h4r⟩ := hr2
   have HS := Lib.hid fun W (e : Ext w W) => searchU 8 r.2 h3r q r.1 n' d' W (h4r.ext e)
   have HE : Hid (ridF R q = (acc ++ rsF (loE 8 r.2) q) ++ ridF (R.drop (k + 1)) q) := Lib.hid (by
    obtain ⟨h5, h6⟩ := List.getElem?_eq_some_iff.1 hr
    rw [HF.out, List.drop_eq_getElem_cons h5, h6, List.append_assoc]
    rfl)
   have hle : (rsF (loE 8 r.2) q).length ≤ 200 := Nat.le_trans (Nat.le_trans (rsF_length _ _) (lo_le 8 r.2)) h3r
   generalize rsF (loE 8 r.2) q = Q at HS HE hle
   have hkz : (k : Int) < (m : Int) := by omega
   clear h3r h4r
   obtain ⟨ra, rb⟩ := r
   simp only at c0 HS
   clear HF hr
   unfold RdP at HS
   go_wp2_with (first | (go_at_call 207; refine Calls.mono (HS.out _ (ex_)) ?_; rintro e w1 ⟨A1, c1, rfl, hb1, hR1⟩; obtain ⟨x1, rfl⟩ := hb1.get; clear hb1) | (at_builtin; refine wpList_app _ rfl (.tmp 17) (.tmp 21) rfl elI (w.alloc (.cells #[.int .i64 q.1.1, .int .i64 q.1.2, .int .i64 q.2.1, .int .i64 q.2.2] 100)) (ex_) _ _ _ rfl (by repeat (first | exact hown | apply World.ownsRow.alloc | apply own_ext)) _ Q.length _ (ic Q) rfl (hR1.ext (ex_)) (oneCell_ic Q) (by unfold maxLen; omega) (by omega) ?_; intro v' x' hown' _; have HOWN := Lib.hid hown'; clear hown'))
   go_roundw
   case rel => exact ⟨k + 1, acc ++ Q, x', by omega, by simp; omega, by go_num, HE, rfl, by rw [List.length_append]; have := HOWN.out; simpa [ic] using this⟩
   case measure => simp [intOf]; omega
  ·
   have HE : Hid (ridF R q = acc) := Lib.hid (by rw [HF.out, List.drop_eq_nil_of_le (by have := HM.out; omega)]; simp [ridF])
   have hkz : ¬ (k : Int) < (m : Int) := by omega
   obtain ⟨A7, c7, rfl, _, _⟩ := Own.form hown
   have HO7 := Lib.hid hown
   clear HF hown
   go_wp2
   go_ret
   rw [HE.out]
   exact ⟨A7, c7, rfl, own_mono HO7.out (by simp), ex_⟩

end Go.Proofs.YtdiaecgpjgdkdaaGreat

namespace Go.Proofs.YtdiaecgpjgdkdaaGreat
open Go.RowKit

def VsN (w : World) (vs : List VeA) : Prop := ∀ p ∈ vs, (Rd w 3 p.row.A p.row.l.length (vcl p.row.l) ∧ p.row.l.length ≤ 1048576 ∧ ∀ v ∈ p.row.l, v.t.size ≤ 9223372036854775807) ∧ (p.row.A = none → p.row.c = 0)
theorem VsN.ext {w w' : World} {vs : List VeA} (h : VsN w vs) (e : Ext w w') : VsN w' vs := fun p hp => ⟨⟨(h p hp).1.1.ext e, (h p hp).1.2⟩, (h p hp).2⟩
structure IxD (w : World) (xb : Nat) (ks : List Int) (S : List VeA) (VA : Option Addr) (n vc tb ib : Nat) (RA : Option Addr) (m rc : Nat) (base : Nat) (Ks : List Kp) (t : AT) (R : List (Option Addr × List Bxs)) : Prop where
 x : IdxS w xb VA n vc tb ib RA m rc
 sn : S.length = n
 s : Rd w 9 VA n (S.flatMap encVe)
 ok : VsN w S
 tk : TK base w tb 8 Ks
 km : ∀ y, y ∈ Ks ↔ ∃ (i : Nat) (p : VeA), S[i]? = some p ∧ y = (ks.map (atV p.row.l), (i : Int))
 it : ITr w base ib t
 im : ∀ y, y ∈ t.flat ↔ ∃ (i : Nat) (p : VeA), S[i]? = some p ∧ y = (p.v, (i : Int))
 il : t.flat.length ≤ 1048576
 rn : R.length = m
 r : Rd w 1 RA m (ptrR R)
 rt : TrsF w R
 rm : ∀ q z, z ∈ ridF R q ↔ ∃ (i : Nat) (p : VeA), S[i]? = some p ∧ z = (i : Int) ∧ ovlB (p.v, p.s) q = true
 m100 : m ≤ 100
 n200 : n ≤ 1048576
 pv : ∀ p ∈ S, pvB p.v = true ∧ pvB p.s = true
 rv : ∀ p ∈ S, ∀ v ∈ p.row.l, vvB v = true
def IxM (w : World) (xb : Nat) (ks : List Int) (S : List VeA) : Prop := ∃ VA n vc tb ib RA m rc base Ks t R, IxD w xb ks S VA n vc tb ib RA m rc base Ks t R
theorem IxD.ext {w w' : World} {xb : Nat} {ks : List Int} {S : List VeA} {VA : Option Addr} {n vc tb ib : Nat} {RA : Option Addr} {m rc base : Nat} {Ks : List Kp} {t : AT} {R : List (Option Addr × List Bxs)} (h : IxD w xb ks S VA n vc tb ib RA m rc base Ks t R) (e : Ext w w') : IxD w' xb ks S VA n vc tb ib RA m rc base Ks t R :=
 ⟨h.x.ext e, h.sn, h.s.ext e, h.ok.ext e, h.tk.ext e, h.km, h.it.ext e, h.im, h.il, h.rn, h.r.ext e, h.rt.ext e, h.rm, h.m100, h.n200, h.pv, h.rv⟩
theorem IxM.ext {w w' : World} {xb : Nat} {ks : List Int} {S : List VeA} (h : IxM w xb ks S) (e : Ext w w') : IxM w' xb ks S := by
 obtain ⟨VA, n, vc, tb, ib, RA, m, rc, base, Ks, t, R, h⟩ := h
 exact ⟨VA, n, vc, tb, ib, RA, m, rc, base, Ks, t, R, h.ext e⟩
theorem vv_null : vvB nullV = true := by decide +kernel
theorem vv_atV {row : List Va} (h : ∀ v ∈ row, vvB v = true) (i : Int) : vvB (atV row i) = true := by
 unfold atV
 split
 ·
  exact vv_null
 ·
  rw [List.getD_eq_getElem?_getD]
  cases hg : row[i.toNat]? with
  | none => exact vv_null
  | some v => exact h v (List.mem_of_getElem? hg)
section
variable {w : World} {xb : Nat} {ks : List Int} {S : List VeA} {VA : Option Addr} {n vc tb ib : Nat} {RA : Option Addr} {m rc base : Nat} {Ks : List Kp} {t : AT} {R : List (Option Addr × List Bxs)}
def FndP (S : List VeA) (f : VC → Bool) (J : List Int) : Prop := ∀ z, z ∈ J ↔ ∃ (i : Nat) (c : VC), (S.map vcO)[i]? = some c ∧ z = (i : Nat) ∧ f c = true
theorem fnd_scan (p q : Int × Int) (key : List Va) : FndP S (hasC ks 0 key p q) (upL S.length S.length) := fun z => by
 have e : upL S.length S.length = (List.range S.length).map (fun i : Nat => (i : Int)) := by unfold upL; simp
 rw [e, List.mem_map]
 constructor
 ·
  rintro ⟨i, hi, rfl⟩
  have hi := List.mem_range.1 hi
  exact ⟨i, vcO S[i], by simp [hi], rfl, by simp [hasC, matB]⟩
 ·
  rintro ⟨i, c, hc, rfl, _⟩
  have := (List.getElem?_eq_some_iff.1 hc).1
  exact ⟨i, List.mem_range.2 (by simpa using this), rfl⟩
theorem fnd_keyed (h : IxD w xb ks S VA n vc tb ib RA m rc base Ks t R) (key : List Va) (p q : Int × Int) : FndP S (hasC ks 1 key p q) (kidF Ks key) := fun z => by
 unfold kidF
 have hc : ∀ c : VC, hasC ks 1 key p q c = keyB key (ks.map (atV c.row)) := fun c => by simp [hasC, matB]
 cases hb : badL key with
 | true =>
  rw [if_pos rfl]
  constructor
  ·
   intro hz; cases hz
  ·
   rintro ⟨i, c, hi, rfl, hf⟩
   exfalso
   rw [hc] at hf
   unfold keyB at hf
   simp only [Bool.and_eq_true, decide_eq_true_eq, beq_iff_eq] at hf
   have h2 := cmpR_zero.1 hf.2
   obtain ⟨v, hv, hv2⟩ := List.any_eq_true.1 hb
   rw [← h2] at hv
   have h3 := List.mem_of_mem_take hv
   obtain ⟨k, _, rfl⟩ := List.mem_map.1 h3
   have h4 : c.row = c.row := rfl
   obtain ⟨pp, hp, rfl⟩ : ∃ pp ∈ S, c = vcO pp := by
    have := List.mem_of_getElem? hi
    obtain ⟨pp, h5, h6⟩ := List.mem_map.1 this
    exact ⟨pp, h5, h6.symm⟩
   rw [show vvB (atV (vcO pp).row k) = true from vv_atV (h.rv pp hp) k] at hv2
   cases hv2
 | false =>
  rw [if_neg (by simp)]
  unfold preK
  rw [List.mem_map]
  constructor
  ·
   rintro ⟨y, hy, rfl⟩
   obtain ⟨h1, h2⟩ := List.mem_filter.1 hy
   obtain ⟨i, pp, hp, rfl⟩ := (h.km y).1 h1
   refine ⟨i, vcO pp, by simp [hp], rfl, ?_⟩
   rw [hc]
   unfold keyB
   simp only [Bool.and_eq_true, decide_eq_true_eq, beq_iff_eq] at h2 ⊢
   exact h2
  ·
   rintro ⟨i, c, hi, rfl, hf⟩
   rw [List.getElem?_map] at hi
   obtain ⟨pp, hp, rfl⟩ := Option.map_eq_some_iff.1 hi
   refine ⟨(ks.map (atV pp.row.l), (i : Int)), List.mem_filter.2 ⟨(h.km _).2 ⟨i, pp, hp, rfl⟩, ?_⟩, rfl⟩
   rw [hc] at hf
   unfold keyB at hf
   simp only [Bool.and_eq_true, decide_eq_true_eq, beq_iff_eq] at hf ⊢
   exact hf
theorem fnd_valid (h : IxD w xb ks S VA n vc tb ib RA m rc base Ks t R) (key : List Va) (p q : Int × Int) : FndP S (hasC ks 2 key p q) (idsF p t) := fun z => by
 have hc : ∀ c : VC, hasC ks 2 key p q c = povB c.v p := fun c => by simp [hasC, matB]
 have e1 : z ∈ idsF p t ↔ pvB p = true ∧ ∃ y ∈ t.flat, y.2 = z ∧ ovP p y = true := by
  unfold idsF
  split
  ·
   rename_i hp
   unfold ovIds
   rw [(compact_ascC _).2, AT.ov_flat p h.it.ok h.it.st, List.mem_map]
   constructor
   ·
    rintro ⟨y, hy, rfl⟩
    exact ⟨hp, y, (List.mem_filter.1 hy).1, rfl, (List.mem_filter.1 hy).2⟩
   ·
    rintro ⟨_, y, hy, rfl, ho⟩
    exact ⟨y, List.mem_filter.2 ⟨hy, ho⟩, rfl⟩
  ·
   rename_i hp
   simp only [List.not_mem_nil, false_iff]
   rintro ⟨h1, _⟩
   exact hp h1
 rw [e1]
 constructor
 ·
  rintro ⟨hp, y, hy, rfl, ho⟩
  obtain ⟨i, pp, hpp, rfl⟩ := (h.im y).1 hy
  refine ⟨i, vcO pp, by simp [hpp], rfl, ?_⟩
  rw [hc]
  have := (h.pv pp (List.mem_of_getElem? hpp)).1
  unfold povB
  unfold ovP at ho
  simp only [Bool.and_eq_true, decide_eq_true_eq] at ho ⊢
  exact ⟨⟨⟨this, hp⟩, ho.1⟩, ho.2⟩
 ·
  rintro ⟨i, c, hi, rfl, hf⟩
  rw [List.getElem?_map] at hi
  obtain ⟨pp, hpp, rfl⟩ := Option.map_eq_some_iff.1 hi
  rw [hc] at hf
  unfold povB at hf
  simp only [Bool.and_eq_true, decide_eq_true_eq] at hf
  refine ⟨hf.1.1.2, (pp.v, (i : Int)), (h.im _).2 ⟨i, pp, hpp, rfl⟩, rfl, ?_⟩
  unfold ovP
  simp only [Bool.and_eq_true, decide_eq_true_eq]
  exact ⟨hf.1.2, hf.2⟩
theorem fnd_rect (h : IxD w xb ks S VA n vc tb ib RA m rc base Ks t R) (key : List Va) (p q : Int × Int) : FndP S (hasC ks 3 key p q) (ridF R (p, q)) := fun z => by
 have hc : ∀ c : VC, hasC ks 3 key p q c = ovlB (c.v, c.s) (p, q) := fun c => by
  unfold hasC matB ovlB povB rvB
  simp only [show (3 : Int) ≠ 0 from by decide, show (3 : Int) ≠ 1 from by decide, show (3 : Int) ≠ 2 from by decide, if_false, if_true]
  cases pvB c.v <;> cases pvB c.s <;> cases pvB p <;> cases pvB q <;> simp [Bool.and_assoc]
 rw [h.rm]
 constructor
 ·
  rintro ⟨i, pp, hpp, rfl, ho⟩
  exact ⟨i, vcO pp, by simp [hpp], rfl, by rw [hc]; exact ho⟩
 ·
  rintro ⟨i, c, hi, rfl, hf⟩
  rw [List.getElem?_map] at hi
  obtain ⟨pp, hpp, rfl⟩ := Option.map_eq_some_iff.1 hi
  rw [hc] at hf
  exact ⟨i, pp, hpp, rfl, hf⟩
end
def FetP (C : List VC) (w : World) (e : Ending) (w' : World) : Prop := ∃ (A : Option Addr) (n c : Nat) (Q : List VeA), e = .returned (.slice A n c) ∧ Hid (Q.length = n) ∧ Hid (Rd w' 9 A n (Q.flatMap encVe)) ∧ Hid (VsT w' Q) ∧ Hid (Q.map vcO = C) ∧ Ext w w'

end Go.Proofs.YtdiaecgpjgdkdaaGreat

namespace Go.Proofs.YtdiaecgpjgdkdaaGreat
open Go.RowKit

def PickL (S : List VeA) (F : List VC) (zs : List Int) : Prop := zs.length = F.length ∧ ∀ k, k < F.length → ∃ (i : Nat) (p : VeA), zs[k]? = some (i : Int) ∧ S[i]? = some p ∧ F[k]? = some (vcO p)
theorem pickL_of {S : List VeA} {f : VC → Bool} {J : List Int} (h : FndP S f J) : PickL S ((S.map vcO).filter f) (Lib.compact (J.mergeSort fun x y => decide (x ≤ y))) := by
 obtain ⟨cs, h1, h2⟩ := pick_eq f (S.map vcO) J h
 rw [h1]
 generalize (S.map vcO).filter f = F at h2
 have hl : cs.length = F.length := by simpa using congrArg List.length h2
 refine ⟨by simpa using hl, fun k hk => ?_⟩
 have h3 := congrArg (fun l => l[k]?) h2
 simp only [List.getElem?_map] at h3
 rw [List.getElem?_eq_getElem hk, List.getElem?_eq_getElem (show k < cs.length by omega)] at h3
 simp only [Option.map_some, Option.some.injEq] at h3
 obtain ⟨p, hp, hv⟩ := Option.map_eq_some_iff.1 h3
 refine ⟨cs[k]'(by omega), p, by simp [show k < cs.length by omega], hp, ?_⟩
 rw [List.getElem?_eq_getElem hk, hv]
theorem VsN.at {w : World} {vs : List VeA} (h : VsN w vs) {i : Nat} {p : VeA} (hp : vs[i]? = some p) : (Rd w 3 p.row.A p.row.l.length (vcl p.row.l) ∧ p.row.l.length ≤ 1048576 ∧ ∀ v ∈ p.row.l, v.t.size ≤ 9223372036854775807) ∧ (p.row.A = none → p.row.c = 0) := h p (List.mem_of_getElem? hp)
set_option maxRecDepth 100000 in
set_option maxHeartbeats 8000000 in
theorem fetch_core (k : Int) (PK : Option Addr) (kn pc : Nat) (p q : Int × Int) (ty : TypeId) (fn : Nat) (v : Value) (hm : ∀ w, (method 380 ty v "bitemporal/access.find").run Tryz.prog w = .ok (fn, v) w) (hcf : ∀ xs w, (callFunc fn xs).run Tryz.prog w = .ok (.enter fn xs) w) (hov : ofV k PK kn pc p.1 p.2 q.1 q.2 = .iface ty v)
  (xb : Nat) (VA : Option Addr) (n vc tb ib : Nat) (RA : Option Addr) (m rc : Nat) (J : List Int) (S : List VeA) (F : List VC) (w : World) (hx : IdxS w xb VA n vc tb ib RA m rc) (hsn : S.length = n) (hs : Rd w 9 VA n (S.flatMap encVe)) (hok : VsN w S) (hf : ∀ W, Ext w W → Calls Tryz.prog fn #[v, pt xb] W (OPost W J)) (hJ : J.length ≤ 1048576) (hP : PickL S F (Lib.compact (J.mergeSort fun x y => decide (x ≤ y)))) (hF : F.length ≤ 1048576) :
  Calls Tryz.prog 6 #[pt xb, .agg #[.int .i64 k, .slice PK kn pc, .int .i64 p.1, .int .i64 p.2, .int .i64 q.1, .int .i64 q.2]] w (FetP F w) := by
 have HO := Lib.hid (fun w => of_any k PK kn pc p.1 p.2 q.1 q.2 w)
 rw [hov] at HO
 have HFN := Lib.hid hf
 have HSN := Lib.hid hsn
 have HOK := Lib.hid hok
 have HJ := Lib.hid hJ
 have HP := Lib.hid hP
 have HFL := Lib.hid hF
 have HX := Lib.hid hx
 have HSR := Lib.hid hs
 obtain ⟨h1, h2, -, -, -, -⟩ := hx.c
 clear hf hov hsn hok hJ hP hx hF hs
 unfold OPost at HFN
 go_enter Tryz.func6, Tryz.ntmps6
 go_wp2_with (first | (go_at_call 13; refine (HO.out _).mono ?_; rintro e w1 ⟨rfl, hb1⟩; obtain ⟨xo, rfl⟩ := hb1.get; clear hb1 HO))
 refine Calls.mono (HFN.out _ (ex_)) ?_
 rintro e w1 ⟨A1, c1, rfl, ho1, hb1⟩
 have hbb : Ext w w1 := Ext.tr (ex_) hb1
 have ho2 : w1.ownsRow w.heap.size TI' 1 (.slice A1 J.length c1) J.length (ic J) := own_mono ho1 (by simp [size_ext] <;> omega)
 obtain ⟨x1, rfl⟩ := hbb.get
 obtain ⟨_, _, hv1, hl1, hm1⟩ := Own.form (W := w) (x := x1) ho2
 simp only [Value.slice.injEq] at hv1
 obtain ⟨rfl, _, rfl⟩ := hv1
 clear hb1 ho1 HFN hbb
 have hlen : (J.mergeSort fun x y => decide (x ≤ y)).length = J.length := List.length_mergeSort _
 have HS := Lib.hid (sortI w x1 A1 c1 J ho2 (by have := HJ.out; omega))
 have HC := Lib.hid (fun x' ho => compactO w x' A1 c1 (J.mergeSort fun x y => decide (x ≤ y)) ho (by have := HJ.out; rw [hlen]; omega) (by rw [hlen]; exact hl1))
 rw [hlen] at HC
 obtain ⟨ms, hms⟩ : ∃ ms, J.mergeSort (fun x y => decide (x ≤ y)) = ms := ⟨_, rfl⟩
 rw [hms] at HS HC HP
 clear hlen hms ho2
 go_wp2_with (first | (go_at_call 14; refine (HS.out).mono ?_; rintro e w1 ⟨rfl, x5, rfl, ho5⟩) | (go_at_call 15; refine (HC.out x5 ho5).mono ?_; rintro e w1 ⟨rfl, x6, rfl, ho6⟩; have hE6 : Ext w (ext w x6) := (ex_); have HR6 := Lib.hid (Rd.of_own ho6); clear ho6 ho5 h2; have HX6 := HX.out.ext hE6; have HSR6 := Lib.hid (HSR.out.ext hE6); have HOK6 := Lib.hid (HOK.out.ext hE6); clear HX HSR HOK; have HE6 := Lib.hid hE6; clear hE6; generalize ext w x6 = W6 at HR6 HX6 HSR6 HOK6 HE6 ⊢))
 obtain ⟨h1, h2, -, -, -, -⟩ := HX6.c
 obtain ⟨zs, hzs⟩ : ∃ zs, Lib.compact ms = zs := ⟨_, rfl⟩
 rw [hzs] at HR6 HP ⊢
 have hzl : zs.length ≤ 1048576 := by rw [HP.out.1]; exact HFL.out
 clear hzs HC HS HX6 hl1 hm1
 go_loopw [7, 26] (fun so si wr => ∃ (j : Nat) (Q : List VeA) (x : Add), j ≤ zs.length ∧ si = .int .i64 j ∧ Hid (Q.map vcO = F.take j) ∧ Hid (Q.length = j) ∧ wr = ext W6 x ∧ Own W6 x 47 9 so j (Q.flatMap encVe) ∧ Hid (VsT (ext W6 x) Q)) (fun _ si _ => zs.length - (intOf si).toNat)
 case atStart =>
  obtain ⟨x, hx⟩ := (Ext.refl' W6).get
  exact ⟨0, [], x, Nat.zero_le _, rfl, Lib.hid rfl, Lib.hid rfl, hx, own_nil _ _ _ _, Lib.hid fun p h => by cases h⟩
 case round =>
  obtain ⟨j, Q, x, hj, rfl, HQF, HQL, rfl, hown, HVQ⟩ := hrel
  by_cases hlt : j < zs.length
  ·
   have hjF : j < F.length := by rw [← HP.out.1]; exact hlt
   obtain ⟨i, pp, hz, hS, hFk⟩ := HP.out.2 j hjF
   have HNX : Hid ((Q.map vcO) ++ [vcO pp] = F.take (j + 1)) := Lib.hid (by
    rw [HQF.out, List.take_succ_eq_append_getElem hjF]
    rw [List.getElem?_eq_getElem hjF, Option.some.injEq] at hFk
    rw [hFk])
   obtain ⟨b, oo, rfl, hb, d0⟩ := HR6.out.int hlt
   have hzi : zs[j] = (i : Int) := by rw [List.getElem?_eq_getElem hlt, Option.some.injEq] at hz; exact hz
   rw [hzi] at d0
   have hi : i < n := by rw [← HSN.out]; exact (List.getElem?_eq_some_iff.1 hS).1
   obtain ⟨pp', b2, oo2, hpi, rfl, hb2, c0, c1, c2, c3, c4, c5, c6, c7, c8⟩ := HSR6.out.ve9 HSN.out hi
   obtain rfl : pp = pp' := by rw [hS] at hpi; exact Option.some.inj hpi
   obtain ⟨⟨hpr, hpl, hpt⟩, hpn⟩ := HOK6.out.at hS
   have HCL : Hid (∀ W, Ext W6 W → Calls Tryz.prog 16 #[vgA pp] W fun e w' => ∃ A c, e = .returned (.agg #[.int .i64 pp.id, .int .i64 pp.sch, .slice A pp.row.l.length c, .int .i64 pp.v.1, .int .i64 pp.v.2, .int .i64 pp.s.1, .int .i64 pp.s.2, .int .i64 pp.by_, .int .i64 pp.un]) ∧ Ext W w' ∧ RdT w' TVA 3 A pp.row.l.length (vcl pp.row.l) ∧ (A = none → c = 0)) := Lib.hid fun W e => acloned_any pp W (hpr.ext e) hpl hpn
   have HPL : Hid (pp.row.l.length ≤ 1048576 ∧ ∀ v ∈ pp.row.l, v.t.size ≤ 9223372036854775807) := Lib.hid ⟨hpl, hpt⟩
   have hjz : (j : Int) < (zs.length : Int) := by omega
   have hiz : (i : Int) < (n : Int) := by omega
   clear hz hS hFk hzi hpi hpr hpl hpt hpn hjF HQF
   go_wp2_with (first | (go_at_call 16; refine Calls.mono (HCL.out _ (ex_)) ?_; rintro e w1 ⟨A2, c2, rfl, hb9, hR2, -⟩; obtain ⟨x1, rfl⟩ := hb9.get; have HR2 := Lib.hid hR2; clear hb9 hR2 HCL) | (at_builtin; refine wpList_app2 _ rfl (.tmp 30) (.tmp 39) rfl elVeA W6 (ex_) _ _ _ rfl (by repeat (first | exact hown | apply World.ownsRow.alloc | apply own_ext)) _ 1 1 [.int .i64 pp.id, .int .i64 pp.sch, .slice A2 pp.row.l.length c2, .int .i64 pp.v.1, .int .i64 pp.v.2, .int .i64 pp.s.1, .int .i64 pp.s.2, .int .i64 pp.by_, .int .i64 pp.un] rfl (Rd.lit _ _ _ 1 9 rfl (by simp [size_ext])) (oneCell_ve (pp.at A2 c2)) (by unfold maxLen; omega) (by omega) ?_; intro v' x' hown' hg' _; have HOWN := Lib.hid hown'; have HVN : Hid (VsT (ext W6 x') (Q ++ [pp.at A2 c2])) := Lib.hid (VsT.kt (VsT.snoc (p := pp.at A2 c2) (VsT.ext HVQ.out (ex_)) ⟨RdT.ext HR2.out (ex_), HPL.out⟩) (Kt.ofGrown hg' (by repeat (first | exact hown | apply World.ownsRow.alloc | apply own_ext))) (by decide)); clear hown' hg'))
   go_roundw
   case rel => exact ⟨j + 1, Q ++ [pp.at A2 c2], x', by omega, by go_num, Lib.hid (by rw [List.map_append]; exact HNX.out), Lib.hid (by rw [List.length_append, HQL.out]; rfl), rfl, by rw [List.flatMap_append]; simpa [encVe, VeA.at] using HOWN.out, HVN⟩
   case measure => simp [intOf]; omega
  ·
   obtain rfl : j = zs.length := by omega
   obtain ⟨A7, c7, rfl, _, _⟩ := Own.form hown
   have HO7 := Lib.hid hown
   have HQ7 : Hid (Q.map vcO = F) := Lib.hid (by rw [HQF.out, HP.out.1, List.take_length])
   have hjz : ¬ (zs.length : Int) < (zs.length : Int) := by omega
   clear hown HQF
   go_wp2
   go_ret
   exact ⟨A7, zs.length, c7, Q, rfl, HQL, Lib.hid (Rd.of_own HO7.out), HVQ, HQ7, HE6.out.tr (ex_)⟩

theorem kidF_len {base tb m : Nat} {w : World} {Ks : List Kp} (h : TK base w tb m Ks) (K : List Va) : (kidF Ks K).length ≤ 1048576 := by
 obtain ⟨l, F, h1, rfl, -⟩ := h
 unfold kidF
 split
 ·
  simp
 ·
  unfold preK
  rw [List.length_map]
  refine Nat.le_trans (List.length_filter_le _ _) ?_
  rw [List.length_map]
  exact h1.len
theorem idsF_len (p : Int × Int) (t : AT) (h : t.flat.length ≤ 1048576) : (idsF p t).length ≤ 1048576 := by
 unfold idsF
 split
 ·
  unfold ovIds
  have h1 : ∀ zs : List Int, (Lib.compact zs).length ≤ zs.length := fun zs => by
   have := List.length_filter_le (Lib.keeps zs.toArray) (List.range zs.length)
   simpa [Lib.compact, Lib.compactUpTo] using this
  refine Nat.le_trans (h1 _) ?_
  rw [List.length_mergeSort]
  exact Nat.le_trans (AT.ov_len p t) h
 ·
  simp
set_option maxRecDepth 100000 in
set_option maxHeartbeats 8000000 in
theorem fetch_none (xb : Option Addr) (k : Int) (PK : Option Addr) (kn pc : Nat) (p q : Int × Int) (hx : xb = none ∨ (∃ b, xb = some b) ∧ ofV k PK kn pc p.1 p.2 q.1 q.2 = .nilIface) (w : World) :
  Calls Tryz.prog 6 #[.pointer xb, .agg #[.int .i64 k, .slice PK kn pc, .int .i64 p.1, .int .i64 p.2, .int .i64 q.1, .int .i64 q.2]] w (FetP [] w) := by
 have HO := Lib.hid (fun w => of_any k PK kn pc p.1 p.2 q.1 q.2 w)
 have HE : ∀ w', Ext w w' → FetP [] w (.returned (.slice none 0 0)) w' := fun w' e => ⟨none, 0, 0, [], rfl, Lib.hid rfl, Lib.hid Rd.nil, Lib.hid (fun p h => by cases h), Lib.hid rfl, e⟩
 rcases hx with rfl | ⟨⟨xa, rfl⟩, hv⟩
 ·
  generalize ofV k PK kn pc p.1 p.2 q.1 q.2 = v at HO
  go_enter Tryz.func6, Tryz.ntmps6
  go_wp2_with (first | (go_at_call 13; refine (HO.out _).mono ?_; rintro e w1 ⟨rfl, hb1⟩; obtain ⟨xo, rfl⟩ := hb1.get; clear hb1 HO))
  go_ret
  exact HE _ (ex_)
 ·
  rw [hv] at HO
  clear hv
  go_enter Tryz.func6, Tryz.ntmps6
  go_wp2_with (first | (go_at_call 13; refine (HO.out _).mono ?_; rintro e w1 ⟨rfl, hb1⟩; obtain ⟨xo, rfl⟩ := hb1.get; clear hb1 HO))
  go_ret
  exact HE _ (ex_)
set_option maxRecDepth 100000 in
set_option maxHeartbeats 8000000 in
theorem fetch_any (xb : Nat) (ks : List Int) (S : List VeA) (k : Int) (PK : Option Addr) (kn pc : Nat) (key : List Va) (p q : Int × Int) (w : World) (hI : IxM w xb ks S) (hkn : key.length = kn) (hK : Rd w 3 PK kn (vcl key)) (nk : kn ≤ 9223372036854775807) (hz : ∀ v ∈ key, v.t.size ≤ 9223372036854775807) :
  Calls Tryz.prog 6 #[pt xb, .agg #[.int .i64 k, .slice PK kn pc, .int .i64 p.1, .int .i64 p.2, .int .i64 q.1, .int .i64 q.2]] w (FetP ((S.map vcO).filter (hasC ks k key p q)) w) := by
 obtain ⟨VA, n, vc, tb, ib, RA, m, rc, base, Ks, t, R, h⟩ := hI
 have hFl : ((S.map vcO).filter (hasC ks k key p q)).length ≤ 1048576 := by
  refine Nat.le_trans (List.length_filter_le _ _) ?_
  rw [List.length_map, h.sn]
  exact h.n200
 rcases (show k = 0 ∨ k = 1 ∨ k = 2 ∨ k = 3 ∨ (k ≠ 0 ∧ k ≠ 1 ∧ k ≠ 2 ∧ k ≠ 3) from by omega) with rfl | rfl | rfl | rfl | ⟨h0, h1, h2, h3⟩
 ·
  have hv : ofV 0 PK kn pc p.1 p.2 q.1 q.2 = .iface 94 (.agg #[]) := by simp [ofV]
  exact fetch_core 0 PK kn pc p q 94 188 (.agg #[]) (fun w => by kernel_rfl) (fun xs w => by kernel_rfl) hv xb VA n vc tb ib RA m rc (upL n n) S _ w h.x h.sn h.s h.ok (fun W e => scan_find xb VA n vc tb ib RA m rc W (h.x.ext e) h.n200) (by rw [upL_len n n (Nat.le_refl _)]; exact h.n200) (pickL_of (by rw [← h.sn]; exact fnd_scan p q key)) hFl
 ·
  have hv : ofV 1 PK kn pc p.1 p.2 q.1 q.2 = .iface 96 (.agg #[.slice PK kn pc]) := by simp [ofV]
  exact fetch_core 1 PK kn pc p q 96 190 (.agg #[.slice PK kn pc]) (fun w => by kernel_rfl) (fun xs w => by kernel_rfl) hv xb VA n vc tb ib RA m rc (kidF Ks key) S _ w h.x h.sn h.s h.ok (fun W e => keyed_find xb VA n vc tb ib RA m rc PK kn pc key base Ks W (h.x.ext e) (h.tk.ext e) hkn (hK.ext e) nk hz) (kidF_len h.tk key) (pickL_of (fnd_keyed h key p q)) hFl
 ·
  have hv : ofV 2 PK kn pc p.1 p.2 q.1 q.2 = .iface 98 (.agg #[.int .i64 p.1, .int .i64 p.2]) := by simp [ofV]
  exact fetch_core 2 PK kn pc p q 98 200 (.agg #[.int .i64 p.1, .int .i64 p.2]) (fun w => by kernel_rfl) (fun xs w => by kernel_rfl) hv xb VA n vc tb ib RA m rc (idsF p t) S _ w h.x h.sn h.s h.ok (fun W e => valid_find xb VA n vc tb ib RA m rc p base t W (h.x.ext e) (h.it.ext e) h.il) (idsF_len p t h.il) (pickL_of (fnd_valid h key p q)) hFl
 ·
  have hv : ofV 3 PK kn pc p.1 p.2 q.1 q.2 = .iface 100 (.agg #[.int .i64 p.1, .int .i64 p.2, .int .i64 q.1, .int .i64 q.2]) := by simp [ofV]
  exact fetch_core 3 PK kn pc p q 100 205 (.agg #[.int .i64 p.1, .int .i64 p.2, .int .i64 q.1, .int .i64 q.2]) (fun w => by kernel_rfl) (fun xs w => by kernel_rfl) hv xb VA n vc tb ib RA m rc (ridF R (p, q)) S _ w h.x h.sn h.s h.ok (fun W e => rect_find xb VA n vc tb ib RA m rc (p, q) R W (h.x.ext e) h.rn (h.r.ext e) (h.rt.ext e) h.m100) (by
   have h1 := ridF_len R (p, q) fun r hr => (h.rt r hr).1
   have h2 := h.rn
   have h3 := h.m100
   have h4 : R.length * 200 ≤ 100 * 200 := Nat.mul_le_mul_right 200 (by omega)
   omega) (pickL_of (fnd_rect h key p q)) hFl
 ·
  have hv : ofV k PK kn pc p.1 p.2 q.1 q.2 = .nilIface := by simp [ofV, h0, h1, h2, h3]
  rw [show (S.map vcO).filter (hasC ks k key p q) = [] from by
   rw [List.filter_eq_nil_iff]
   intro c _
   simp [hasC, matB, h0, h1, h2, h3]]
  exact fetch_none _ k PK kn pc p q (.inr ⟨⟨_, rfl⟩, hv⟩) w

end Go.Proofs.YtdiaecgpjgdkdaaGreat

namespace Go.Proofs.YtdiaecgpjgdkdaaGreat
open Go.RowKit

def VsX (w : World) (Q : List VeA) : Prop := VsT w Q ∧ ∀ p ∈ Q, p.row.A = none → p.row.c = 0
theorem VsX.kt {T : TypeId → Prop} {w w' : World} {Q : List VeA} (h : VsX w Q) (k : Kt T w w') (hT : T TVA) : VsX w' Q := ⟨h.1.kt k hT, h.2⟩
theorem VsX.nil (w : World) : VsX w [] := ⟨(fun p h => by cases h), fun p h => by cases h⟩
theorem VsX.snoc {w : World} {Q : List VeA} {p : VeA} (h : VsX w Q) (hp : RdT w TVA 3 p.row.A p.row.l.length (vcl p.row.l) ∧ p.row.l.length ≤ 1048576 ∧ ∀ v ∈ p.row.l, v.t.size ≤ 9223372036854775807) (hn : p.row.A = none → p.row.c = 0) : VsX w (Q ++ [p]) := ⟨h.1.snoc hp, fun q hq => by
 rcases List.mem_append.1 hq with hq | hq
 ·
  exact h.2 q hq
 ·
  obtain rfl := List.mem_singleton.1 hq
  exact hn⟩
theorem VsX.perm {w : World} {Q Q' : List VeA} (h : VsX w Q) (p : Q'.Perm Q) : VsX w Q' := ⟨fun x hx => h.1 x (p.mem_iff.1 hx), fun x hx => h.2 x (p.mem_iff.1 hx)⟩
theorem VsX.vsN {w : World} {Q : List VeA} (h : VsX w Q) : VsN w Q := fun p hp => ⟨h.1.ok p hp, h.2 p hp⟩
structure NwA (w W : World) (tc : Array Value) (tbl var xb ib tb : Nat) (A : Option Addr) (n c : Nat) (Q : List VeA) (Ks : List Kp) (t : AT) (so : Value) (L : List Bxs) : Prop where
 e : Ext w W
 hT : W.heap[tbl]? = some (.cells tc 27 (0, 0))
 hV : W.heap[var]? = some (.cells #[pt xb] 30 (0, 0))
 hX : IdxS W xb A n c tb ib none 0 0
 l1 : w.heap.size ≤ tbl
 l2 : w.heap.size ≤ var
 l3 : w.heap.size ≤ xb
 own : W.ownsRow w.heap.size 47 9 (.slice A n c) n (Q.flatMap encVe)
 vs : VsX W Q
 tk : TK w.heap.size W tb 8 Ks
 it : ITr W w.heap.size ib t
 bo : W.ownsRow w.heap.size 84 5 so L.length (bxl L)
section
variable {w W C : World} {tc : Array Value} {tbl var xb ib tb : Nat} {A : Option Addr} {n c : Nat} {Q : List VeA} {Ks : List Kp} {t : AT} {so : Value} {L : List Bxs}
theorem NwA.kt {T : TypeId → Prop} (h : NwA w W tc tbl var xb ib tb A n c Q Ks t so L) (k : Kt T W C) (e : Ext w C) (h1 : T 27) (h2 : T 30) (h3 : T 54) (h4 : T 47) (h5 : T TVA) (h6 : ∀ ty, TreeT ty → T ty) (h7 : ∀ ty, ItT ty → T ty) (h8 : T 84) : NwA w C tc tbl var xb ib tb A n c Q Ks t so L :=
 ⟨e, k.blk _ _ _ _ h.hT h1, k.blk _ _ _ _ h.hV h2, h.hX.kt k h3, h.l1, h.l2, h.l3, own_kt h.own k h4, h.vs.kt k h5, h.tk.kt k h6 h5 fun b hb _ => (e.block b hb).trans (h.e.block b hb).symm, h.it.kt k h7, own_kt h.bo k h8⟩
theorem NwA.ext (h : NwA w W tc tbl var xb ib tb A n c Q Ks t so L) (e : Ext W C) : NwA w C tc tbl var xb ib tb A n c Q Ks t so L := h.kt (T := fun _ => True) (Kt.ofExt e) (h.e.tr e) trivial trivial trivial trivial trivial (fun _ _ => trivial) (fun _ _ => trivial) trivial
theorem NwA.len (h : NwA w W tc tbl var xb ib tb A n c Q Ks t so L) : Q.length = n := by
 have h1 := h.own.1
 rw [fm_len (enc := encVe) (k := 9) (fun _ => rfl)] at h1
 omega
theorem NwA.app (h : NwA w W tc tbl var xb ib tb A n c Q Ks t so L) {w1 : World} {p : VeA} {A' : Option Addr} {n' c' : Nat} (hg : W.grownBy w1 (Value.ownBlock (.slice A n c))) (e1 : Ext w w1) (ho : w1.ownsRow w.heap.size 47 9 (.slice A' n' c') n' (Q.flatMap encVe ++ encVe p)) (hp : RdT W TVA 3 p.row.A p.row.l.length (vcl p.row.l) ∧ p.row.l.length ≤ 1048576 ∧ ∀ v ∈ p.row.l, v.t.size ≤ 9223372036854775807) (hn : p.row.A = none → p.row.c = 0) :
  NwA w (w1.setCell ⟨xb, 0, none⟩ (.slice A' n' c')) tc tbl var xb ib tb A' n' c' (Q ++ [p]) Ks t so L := by
 have k1 : Kt (fun ty => ty ≠ 47) W w1 := Kt.ofGrown hg h.own
 have hX1 := k1.blk _ _ _ _ h.hX (by decide)
 have k2 : Kt (fun ty => ty ≠ 54) w1 (w1.setCell ⟨xb, 0, none⟩ (.slice A' n' c')) := Kt.ofSet hX1
 have e2 : Ext w (w1.setCell ⟨xb, 0, none⟩ (.slice A' n' c')) := Ext.st e1 h.l3 _
 have k3 : Kt (fun ty => ty ≠ 47 ∧ ty ≠ 54) W (w1.setCell ⟨xb, 0, none⟩ (.slice A' n' c')) := (k1.mono fun _ h => h.1).trans (k2.mono fun _ h => h.2)
 refine ⟨e2, k3.blk _ _ _ _ h.hT (by decide), k3.blk _ _ _ _ h.hV (by decide), ?_, h.l1, h.l2, h.l3, own_kt (by simpa using ho) k2 (by decide), (h.vs.snoc hp hn).kt k3 (by decide), h.tk.kt k3 (fun ty ht => by rcases ht with rfl | rfl | rfl | rfl <;> decide) (by decide) fun b hb _ => (e2.block b hb).trans (h.e.block b hb).symm, h.it.kt k3 (fun ty ht => by rcases ht with rfl | rfl <;> decide), own_kt h.bo k3 (by decide)⟩
 exact set_heap hX1 0 _
theorem NwA.sort (h : NwA w W tc tbl var xb ib tb A n c Q Ks t so L) {Q' : List VeA} (hg : W.grownBy C (Value.ownBlock (.slice A n c))) (e : Ext w C) (ho : C.ownsRow w.heap.size 47 9 (.slice A n c) n (Q'.flatMap encVe)) (hp : Q'.Perm Q) :
  NwA w C tc tbl var xb ib tb A n c Q' Ks t so L := by
 have k1 : Kt (fun ty => ty ≠ 47) W C := Kt.ofGrown hg h.own
 exact ⟨e, k1.blk _ _ _ _ h.hT (by decide), k1.blk _ _ _ _ h.hV (by decide), h.hX.kt k1 (by decide), h.l1, h.l2, h.l3, ho, (h.vs.perm hp).kt k1 (by decide), h.tk.kt k1 (fun ty ht => by rcases ht with rfl | rfl | rfl | rfl <;> decide) (by decide) fun b hb _ => (e.block b hb).trans (h.e.block b hb).symm, h.it.kt k1 (fun ty ht => by rcases ht with rfl | rfl <;> decide), own_kt h.bo k1 (by decide)⟩
theorem NwA.put (h : NwA w W tc tbl var xb ib tb A n c Q Ks t so L) {Ks' : List Kp} (hm : Mu w.heap.size W C) (hk : TK w.heap.size C tb 8 Ks') : NwA w C tc tbl var xb ib tb A n c Q Ks' t so L := by
 have k1 := Kt.ofMu hm
 have e : Ext w C := hm.lo h.e (Nat.le_refl _)
 have d : ∀ ty, (ty = 27 ∨ ty = 30 ∨ ty = 54 ∨ ty = 47 ∨ ty = TVA ∨ ty = 84 ∨ ItT ty) → ¬ TreeT ty := by
  intro ty hty
  unfold ItT at hty
  rcases hty with rfl | rfl | rfl | rfl | rfl | rfl | rfl | rfl <;> (unfold TreeT; decide)
 exact ⟨e, k1.blk _ _ _ _ h.hT (d _ (by simp)), k1.blk _ _ _ _ h.hV (d _ (by simp)), h.hX.kt k1 (d _ (by simp)), h.l1, h.l2, h.l3, own_kt h.own k1 (d _ (by simp)), h.vs.kt k1 (d _ (by simp)), hk, h.it.kt k1 (fun ty ht => d _ (by simp [ht])), own_kt h.bo k1 (d _ (by simp))⟩
theorem NwA.add (h : NwA w W tc tbl var xb ib tb A n c Q Ks t so L) {t' : AT} (hc : Chg (ib :: t.foot) W C) (hi : ITr C w.heap.size ib t') : NwA w C tc tbl var xb ib tb A n c Q Ks t' so L := by
 have k1 := Kt.ofChg hc h.it
 have e : Ext w C := hc.toExt h.e fun j hj => by
  rcases List.mem_cons.1 hj with rfl | hj
  ·
   exact h.it.hb
  ·
   exact h.it.hf j hj
 have d : ∀ ty, (ty = 27 ∨ ty = 30 ∨ ty = 54 ∨ ty = 47 ∨ ty = TVA ∨ ty = 84 ∨ TreeT ty) → ¬ ItT ty := by
  intro ty hty
  unfold TreeT at hty
  rcases hty with rfl | rfl | rfl | rfl | rfl | rfl | rfl | rfl | rfl | rfl <;> (unfold ItT; decide)
 exact ⟨e, k1.blk _ _ _ _ h.hT (d _ (by simp)), k1.blk _ _ _ _ h.hV (d _ (by simp)), h.hX.kt k1 (d _ (by simp)), h.l1, h.l2, h.l3, own_kt h.own k1 (d _ (by simp)), h.vs.kt k1 (d _ (by simp)), h.tk.kt k1 (fun ty ht => d _ (by simp [ht])) (d _ (by simp)) fun b hb _ => (e.block b hb).trans (h.e.block b hb).symm, hi, own_kt h.bo k1 (d _ (by simp))⟩
theorem NwA.box (h : NwA w W tc tbl var xb ib tb A n c Q Ks t so L) {so' : Value} {L' : List Bxs} (hg : W.grownBy C so.ownBlock) (e : Ext w C) (ho : C.ownsRow w.heap.size 84 5 so' L'.length (bxl L')) : NwA w C tc tbl var xb ib tb A n c Q Ks t so' L' := by
 have k1 : Kt (fun ty => ty ≠ 84) W C := Kt.ofGrown hg h.bo
 exact ⟨e, k1.blk _ _ _ _ h.hT (by decide), k1.blk _ _ _ _ h.hV (by decide), h.hX.kt k1 (by decide), h.l1, h.l2, h.l3, own_kt h.own k1 (by decide), h.vs.kt k1 (by decide), h.tk.kt k1 (fun ty ht => by rcases ht with rfl | rfl | rfl | rfl <;> decide) (by decide) fun b hb _ => (e.block b hb).trans (h.e.block b hb).symm, h.it.kt k1 (fun ty ht => by rcases ht with rfl | rfl <;> decide), ho⟩
end
theorem putK_mem {ks : List Kp} {x : Kp} (h : x ∉ ks) (y : Kp) : y ∈ putK ks x ↔ y = x ∨ y ∈ ks := by
 unfold putK
 rw [hasK_no h, if_neg (by simp), List.mem_append, List.mem_cons, List.mem_filter, List.mem_filter]
 cases kLt y x <;> simp <;> grind

theorem own_none {w : World} {base e size n c : Nat} {A : Option Addr} {xs : List Value} (h : w.ownsRow base e size (.slice A n c) n xs) (hA : A = none) : n = 0 ∧ c = 0 := by
 subst hA
 rcases h.2 with ⟨h', h0⟩ | ⟨g, cap, cur, h', _⟩
 ·
  simp only [Value.slice.injEq] at h'
  exact ⟨h0, h'.2.2⟩
 ·
  simp at h'
set_option maxHeartbeats 2000000 in
theorem tpickN_any (A L : Option Addr) (c d : Nat) (row : List Va) (l : List Int) (w : World) (hA : Rd w 3 A row.length (vcl row)) (hL : Rd w 1 L l.length (ic l)) (na : row.length ≤ 9223372036854775807) (nl : l.length ≤ 1048576) :
  Calls Tryz.prog 50 #[.slice A row.length c, .slice L l.length d] w fun e w' => ∃ B q, e = .returned (.slice B l.length q) ∧ Ext w w' ∧ l.length ≤ q ∧ Rd w' 3 B l.length (vcl (l.map (atV row))) ∧ (B = none → l.length = 0 ∧ q = 0) := by
 go_enter Tryz.func50, Tryz.ntmps50
 go_wp2_with (at_make; refine wpList_mk _ rfl _ _ rfl elVal3 w (ex_) .i64 .i64 _ l.length rfl rfl rfl (by omega) (by unfold maxLen; omega) ?_; intro x0 hown0)
 go_loopw [5, 13] (fun s5 s6 wr => ∃ (k : Nat) (acc : List Va) (x : Add), k ≤ l.length ∧ acc.length ≤ k ∧ s6 = .int .i64 k ∧ Hid (l.map (atV row) = acc ++ (l.drop k).map (atV row)) ∧ wr = ext w x ∧ Own w x 66 3 s5 acc.length (vcl acc)) (fun _ s6 _ => l.length - (intOf s6).toNat)
 case atStart =>
  exact ⟨0, [], x0, by omega, by simp, rfl, Lib.hid (by simp), rfl, hown0⟩
 case round =>
  obtain ⟨k, acc, x, hk, hal, rfl, HC, rfl, hown⟩ := hrel
  by_cases hlt : k < l.length
  ·
   obtain ⟨g, oo, rfl, hg, c0⟩ := hL.int hlt
   have HD : Hid (l.map (atV row) = acc ++ [atV row l[k]] ++ (l.drop (k + 1)).map (atV row)) := Lib.hid (by rw [HC.out, List.drop_eq_getElem_cons hlt, List.map_cons, List.append_assoc]; rfl)
   generalize l[k] = i at c0 HD
   have HAT := Lib.hid (fun w h => tat_any A c row i w h na)
   generalize atV row i = v at HD HAT
   clear HC
   go_wp2_with (first | (go_at_call 91; refine (HAT.out _ (hA.ext (ex_))).mono ?_; rintro e w1 ⟨rfl, hb1⟩; obtain ⟨x1, rfl⟩ := hb1.get; clear hb1) | (at_builtin; refine wpList_app _ rfl (.tmp 17) (.tmp 21) rfl elVal3 w (ex_) _ _ _ rfl (by repeat (first | exact hown | apply World.ownsRow.alloc | apply own_ext)) _ 1 1 [.int .i64 v.k, .int .i64 v.i, .string v.t] rfl (Rd.lit _ _ _ 1 3 rfl (by simp [size_ext])) (oneCell_vcl [v]) (by unfold maxLen; omega) (by omega) ?_; intro v' x' hown' _; have HOWN := Lib.hid hown'; clear hown'))
   go_roundw
   case rel => exact ⟨k + 1, acc ++ [v], x', by omega, by simp; omega, by go_num, HD, rfl, by rw [vcl_append, List.length_append]; exact HOWN.out⟩
   case measure => simp [intOf]; omega
  ·
   have H0 : Hid (l.map (atV row) = acc) := Lib.hid (by rw [HC.out, List.drop_eq_nil_of_le (Nat.le_of_not_lt hlt)]; simp)
   have hln : acc.length = l.length := by have := congrArg List.length H0.out; simp at this; omega
   obtain ⟨A7, c7, rfl, hq, _⟩ := Own.form hown
   go_wp2
   go_ret
   exact ⟨A7, c7, by rw [hln]; rfl, Ext.ex _ _, by omega, by rw [H0.out, ← hln]; exact Rd.of_own hown, fun h0 => by rw [← hln]; exact own_none hown h0⟩
set_option maxHeartbeats 2000000 in
theorem tkeyN_any (s0 : ByteArray) (a1 a3 a4 K : Option Addr) (n1 m1 n3 m3 n4 m4 kc : Nat) (ks : List Int) (A : Option Addr) (c : Nat) (row : List Va) (w : World) (hA : Rd w 3 A row.length (vcl row)) (hK : Rd w 1 K ks.length (ic ks)) (na : row.length ≤ 9223372036854775807) (nk : ks.length ≤ 1048576) :
  Calls Tryz.prog 26 #[.agg #[.string s0, .slice a1 n1 m1, .slice K ks.length kc, .slice a3 n3 m3, .slice a4 n4 m4], .slice A row.length c] w fun e w' => ∃ B q, e = .returned (.slice B ks.length q) ∧ Ext w w' ∧ ks.length ≤ q ∧ Rd w' 3 B ks.length (vcl (ks.map (atV row))) ∧ (B = none → ks.length = 0 ∧ q = 0) := by
 have H := Lib.hid (fun w h1 h2 => tpickN_any A K c kc row ks w h1 h2 na nk)
 go_enter Tryz.func26, Tryz.ntmps26
 go_wp2_with fail
 refine Calls.mono (H.out _ (hA.ext (ex_)) (hK.ext (ex_))) ?_
 rintro e w1 ⟨B, q, rfl, hb1, hq, hR, hnn⟩
 obtain ⟨x1, rfl⟩ := hb1.get
 clear hb1
 go_wp2
 go_ret
 exact ⟨B, q, rfl, ex_, hq, hR, hnn⟩

theorem step_app2 {P : Program} (w : World) {ops : Array Oper} {o : Oper} {a : Act} {K : Act → World → Prop} {Q : Exit → Act → World → Prop} {C : Prop} (hgd : o.guard = none) (s x : Operand) {t e : TypeId} {z : Value} {size bytes : Nat}
  (ho : o.op = .call { callee := .builtin .append, args := #[s, x], argTypes := #[t, t] }) (E : El P t e z size bytes) (W : World) (hW : Ext W w) (v : Value) (n : Nat) (xs : List Value) (hs : a.eval s = v) (hown : w.ownsRow W.heap.size e size v n xs)
  (A : Option Addr) (m c : Nat) (news : List Value) (hx : a.eval x = .slice A m c) (hr : Rd w size A m news) (h1 : ∀ u ∈ news, u.oneCell' = true) (h63 : n + m ≤ maxLen) (hbytes : (n + m) * bytes ≤ 140737488355328)
  (h : ∀ v' x', Own W x' e size v' (n + m) (xs ++ news) → w.grownBy (ext W x') v.ownBlock → (∀ g, v'.ownBlock = some g → v.ownBlock = some g ∨ w.heap.size ≤ g) → K (a.put o.dst v') (ext W x')) : if Region.wanted o (yielded ops a.tmps) = true then Oper.wp P o a w K Q else C := by
 have hw : Region.wanted o (yielded ops a.tmps) = true := by simp [Region.wanted, hgd]
 rw [if_pos hw]
 exact wp_app2 w s x ho E W hW v n xs hs hown A m c news hx hr h1 h63 hbytes h
theorem gcell {w w' : World} {row : Option Nat} (hg : w.grownBy w' row) {b o : Nat} {v : Value} (hb : b < w.heap.size) (hne : row ≠ some b) (h : w.cell? ⟨b, o, none⟩ = some v) : w'.cell? ⟨b, o, none⟩ = some v :=
 (World.cell?_of_block (hg.block b hb (fun e => hne e.symm))).trans h

end Go.Proofs.YtdiaecgpjgdkdaaGreat

namespace Go.Proofs.YtdiaecgpjgdkdaaGreat
open Go.RowKit Go.Shelf

attribute [local go_sem] Oper.semAt_some

theorem Rd.kept {w w' : World} {row : Option Nat} (hg : w.grownBy w' row) (hr : ∀ r, row = some r → ∃ o : Obj, w.heap[r]? = some o ∧ o.isCells = false) {sz n : Nat} {A : Option Addr} {xs : List Value} (h : Rd w sz A n xs) : Rd w' sz A n xs := by
 refine ⟨h.1, fun hn => ?_⟩
 obtain ⟨b, o, hA, hb, hc⟩ := h.2 hn
 refine ⟨b, o, hA, Nat.lt_of_lt_of_le hb hg.size, fun j u hu => gcell hg hb (fun e => ?_) (hc j u hu)⟩
 obtain ⟨ob, ho, hoc⟩ := hr b e
 have := hc j u hu
 unfold World.cell? at this
 rw [ho] at this
 cases ob <;> simp [Obj.isCells] at hoc this

theorem mem_got {wd : Int} {L : List Bxs} {r : Rct} (hE : errF wd L = 0) {i : Int} : i ∈ rsF (loE wd L) r ↔ ∃ b ∈ L, b.2 = i ∧ ovlB b.1 r = true := by
 unfold rsF loE
 rw [if_pos hE, mem_putsF, List.mem_map]
 constructor
 ·
  rintro ⟨b, hb, rfl⟩
  rw [List.mem_filter] at hb
  exact ⟨b, (ordF_perm L).mem_iff.1 hb.1, rfl, hb.2⟩
 ·
  rintro ⟨b, hb, rfl, h⟩
  exact ⟨b, List.mem_filter.2 ⟨(ordF_perm L).mem_iff.2 hb, h⟩, rfl⟩

def onlyN (Q : Exit → Act → World → Prop) : Exit → Act → World → Prop
 | .normal, a, w => Q .normal a w
 | _, _, _ => False
theorem onlyN_n {Q : Exit → Act → World → Prop} {a : Act} {w : World} (h : Q .normal a w) : onlyN Q .normal a w := h
theorem wp_noexit {P : Program} {c : Code} {Q : Exit → Act → World → Prop} {a : Act} {w : World} (h : c.wp P (onlyN Q) a w) : c.wp P Q a w :=
 wp_mono h fun e a w h => by cases e <;> first | exact h | exact h.elim
theorem cell_of {w : World} {b j : Nat} {c : Array Value} {t : TypeId} {f : Nat × Nat} {v : Value} (h : w.heap[b]? = some (.cells c t f)) (hv : c[j]? = some v) : w.cell? ⟨b, j, none⟩ = some v := by simp [World.cell?, h, hv]
theorem froz_of {w : World} {b j : Nat} {c : Array Value} {t : TypeId} (h : w.heap[b]? = some (.cells c t (0, 0))) : w.frozen? ⟨b, j, none⟩ = false := by simp [World.frozen?, h]
theorem cell_kept {W W' : World} {row : Option Nat} (hg : W.grownBy W' row) (hr : ∀ r, row = some r → ∃ o : Obj, W.heap[r]? = some o ∧ o.isCells = false) {b o : Nat} {v : Value} (h : W.cell? ⟨b, o, none⟩ = some v) : W'.cell? ⟨b, o, none⟩ = some v := by
 have hb : ∃ c t f, W.heap[b]? = some (.cells c t f) := by
  unfold World.cell? at h
  cases hh : W.heap[b]? with
  | none => rw [hh] at h; cases h
  | some ob => rw [hh] at h; cases ob <;> first | exact ⟨_, _, _, rfl⟩ | (simp at h)
 obtain ⟨c, t, f, hb⟩ := hb
 refine (World.cell?_of_block (hg.block b (Array.getElem?_eq_some_iff.1 hb).1 fun e => ?_)).trans h
 obtain ⟨ob, h1, h2⟩ := hr b e.symm
 rw [hb] at h1
 cases h1
 cases h2
mutual
theorem TM.kept {w w' : World} {row : Option Nat} (hg : w.grownBy w' row) (hr : ∀ r, row = some r → ∃ o : Obj, w.heap[r]? = some o ∧ o.isCells = false) : ∀ {t : Tr} {p : Nat}, TM w t p → TM w' t p
 | .lf r bs, p, h => by
  rw [TM] at h ⊢
  obtain ⟨A, c, h0, h1, h2, h3, h4, h5, h6, h7, h8⟩ := h
  exact ⟨A, c, Nat.lt_of_lt_of_le h0 hg.size, cell_kept hg hr h1, cell_kept hg hr h2, cell_kept hg hr h3, cell_kept hg hr h4, cell_kept hg hr h5, cell_kept hg hr h6, h7, h8.kept hg hr⟩
 | .nd r ks, p, h => by
  rw [TM] at h ⊢
  obtain ⟨A, c, ps, h0, h1, h2, h3, h4, h5, h6, h7, h8, h9⟩ := h
  exact ⟨A, c, ps, Nat.lt_of_lt_of_le h0 hg.size, cell_kept hg hr h1, cell_kept hg hr h2, cell_kept hg hr h3, cell_kept hg hr h4, cell_kept hg hr h5, cell_kept hg hr h6, h7, h8.kept hg hr, TMs.kept hg hr h9⟩
theorem TMs.kept {w w' : World} {row : Option Nat} (hg : w.grownBy w' row) (hr : ∀ r, row = some r → ∃ o : Obj, w.heap[r]? = some o ∧ o.isCells = false) : ∀ {ts : List Tr} {ps : List Nat}, TMs w ts ps → TMs w' ts ps
 | [], ps, h => by rw [TMs] at h ⊢; exact h
 | t :: ts, ps, h => by
  rw [TMs] at h ⊢
  obtain ⟨p, ps', h1, h2, h3⟩ := h
  exact ⟨p, ps', h1, TM.kept hg hr h2, TMs.kept hg hr h3⟩
end
theorem TreeH.kept {w w' : World} {row : Option Nat} (hg : w.grownBy w' row) (hr : ∀ r, row = some r → ∃ o : Obj, w.heap[r]? = some o ∧ o.isCells = false) {a : Option Addr} {root : Option Tr} {n d : Int} (h : TreeH w a root n d) : TreeH w' a root n d := by
 rcases h with h | ⟨b, h1, h2, h3, h4, h5⟩
 ·
  exact .inl h
 ·
  refine .inr ⟨b, h1, Nat.lt_of_lt_of_le h2 hg.size, cell_kept hg hr h3, cell_kept hg hr h4, ?_⟩
  rcases h5 with ⟨a1, a2⟩ | ⟨t, p, a1, a2, a3⟩
  ·
   exact .inl ⟨a1, cell_kept hg hr a2⟩
  ·
   exact .inr ⟨t, p, a1, cell_kept hg hr a2, a3.kept hg hr⟩
theorem But.setA (h B o : Nat) (W : World) (v : Value) : But h B W (W.setCell ⟨B, o, none⟩ v) :=
 ⟨rfl, rfl, rfl, (KeepsWalks.setCell W _ v).size, fun k _ hB => Below.heap_setCell _ _ _ k (fun e => hB (by rw [e]))⟩
theorem wpIn_region_round_T {P : Program} {l n : Nat} {Q : Exit → Act → World → Prop} (t : Nat) {id : Nat} {ops : Array Oper} {S : World → Prop} {a : Act} {w : World} (hm : P.follows .mixedOrders = true) (hd : ops.all noDefer = true) (hno : ¬ LetsOut Q) (hS : S w.drew)
  (h : S w.drew → wpAnyT P .any ops Q S t ops.size (Array.replicate ops.size false) a w.drew) : (Code.region id ops true).wpIn (Fence.wide.inRound l) n P Q a w :=
 wpIn_region_round hm hd hno (wpAny_of_T _ _ _ _ (h hS))
theorem kt_but {W0 W : World} {h xb : Nat} {c : Array Value} {t : TypeId} {f : Nat × Nat} (b : But h xb W0 W) (hh : W0.heap.size ≤ h) (hx : W0.heap[xb]? = some (.cells c t f)) : Kt (fun ty => ty ≠ t) W0 W :=
 ⟨b.os, b.tape, b.output, b.size, fun i c' ty f' hb ht => (b.block i (Nat.lt_of_lt_of_le (Array.getElem?_eq_some_iff.1 hb).1 hh) fun e => by
  subst e
  rw [hx] at hb
  cases hb
  exact ht rfl).trans hb⟩

structure St2 (ks : List Int) (S : List VeA) (j : Nat) (Ks : List Kp) (t : AT) (L : List Bxs) : Prop where
 kl : Ks.length ≤ j
 km : ∀ y, y ∈ Ks ↔ ∃ (i : Nat) (p : VeA), i < j ∧ S[i]? = some p ∧ y = (ks.map (atV p.row.l), (i : Int))
 im : ∀ y, y ∈ t.flat ↔ ∃ (i : Nat) (p : VeA), i < j ∧ S[i]? = some p ∧ y = (p.v, (i : Int))
 il : t.flat.length = j
 ll : L.length = j
 lm : ∀ (i : Nat) (p : VeA), i < j → S[i]? = some p → L[i]? = some ((p.v, p.s), (i : Int))
theorem St2.zero (ks : List Int) (S : List VeA) : St2 ks S 0 [] .nil [] := by
 refine ⟨Nat.le_refl _, fun y => ?_, fun y => ?_, rfl, rfl, fun i p h => absurd h (by omega)⟩ <;> exact ⟨(fun h => by cases h), fun ⟨i, p, h, _⟩ => absurd h (by omega)⟩
theorem St2.fresh {ks : List Int} {S : List VeA} {j : Nat} {Ks : List Kp} {t : AT} {L : List Bxs} (h : St2 ks S j Ks t L) (K : List Va) (v : Int × Int) : (K, (j : Int)) ∉ Ks ∧ (v, (j : Int)) ∉ t.flat := by
 constructor
 ·
  intro hm
  obtain ⟨i, p, hi, _, he⟩ := (h.km _).1 hm
  have := congrArg Prod.snd he
  simp at this
  omega
 ·
  intro hm
  obtain ⟨i, p, hi, _, he⟩ := (h.im _).1 hm
  have := congrArg Prod.snd he
  simp at this
  omega
theorem St2.step {ks : List Int} {S : List VeA} {j : Nat} {Ks : List Kp} {t t' : AT} {L : List Bxs} {p : VeA} (h : St2 ks S j Ks t L) (hp : S[j]? = some p) (ht : t'.flat.Perm ((p.v, (j : Int)) :: t.flat)) :
  St2 ks S (j + 1) (putK Ks (ks.map (atV p.row.l), (j : Int))) t' (L ++ [((p.v, p.s), (j : Int))]) := by
 have hf := h.fresh (ks.map (atV p.row.l)) p.v
 refine ⟨?_, fun y => ?_, fun y => ?_, ?_, by simp [h.ll], fun i q hi hq => ?_⟩
 ·
  have := putK_len Ks (ks.map (atV p.row.l), (j : Int))
  have := h.kl
  omega
 ·
  rw [putK_mem hf.1, h.km]
  constructor
  ·
   rintro (rfl | ⟨i, q, hi, hq, rfl⟩)
   ·
    exact ⟨j, p, by omega, hp, rfl⟩
   ·
    exact ⟨i, q, by omega, hq, rfl⟩
  ·
   rintro ⟨i, q, hi, hq, rfl⟩
   by_cases e : i = j
   ·
    subst e
    rw [hp] at hq
    cases hq
    exact .inl rfl
   ·
    exact .inr ⟨i, q, by omega, hq, rfl⟩
 ·
  rw [ht.mem_iff, List.mem_cons, h.im]
  constructor
  ·
   rintro (rfl | ⟨i, q, hi, hq, rfl⟩)
   ·
    exact ⟨j, p, by omega, hp, rfl⟩
   ·
    exact ⟨i, q, by omega, hq, rfl⟩
  ·
   rintro ⟨i, q, hi, hq, rfl⟩
   by_cases e : i = j
   ·
    subst e
    rw [hp] at hq
    cases hq
    exact .inl rfl
   ·
    exact .inr ⟨i, q, by omega, hq, rfl⟩
 ·
  rw [ht.length_eq, List.length_cons, h.il]
 ·
  by_cases e : i = j
  ·
   subst e
   rw [hp] at hq
   cases hq
   rw [← h.ll]
   simp
  ·
   rw [List.getElem?_append_left (by rw [h.ll]; omega)]
   exact h.lm i q (by omega) hq
theorem of_srt {S vs : List VeA} (h : S.map vcO = srtC (vs.map vcO)) {p : VeA} (hp : p ∈ S) : ∃ q ∈ vs, vcO q = vcO p := by
 have h1 : vcO p ∈ srtC (vs.map vcO) := by rw [← h]; exact List.mem_map_of_mem hp
 rw [(srtC_perm _).mem_iff] at h1
 exact List.mem_map.1 h1
theorem Ext.tr' {w W0 W : World} {h xb : Nat} (e : Ext w W0) (b : But h xb W0 W) (hh : w.heap.size ≤ h) (hx : w.heap.size ≤ xb) : Ext w W :=
 ⟨b.os.trans e.os, b.tape.trans e.tape, b.output.trans e.output, Nat.le_trans e.size b.size, fun k hk => (b.block k (by omega) (by omega)).trans (e.block k hk)⟩
theorem bx_mem {ks : List Int} {S : List VeA} {j : Nat} {Ks : List Kp} {t : AT} {L : List Bxs} (h : St2 ks S j Ks t L) (hS : S.length = j) (b : Bxs) : b ∈ L ↔ ∃ (i : Nat) (p : VeA), S[i]? = some p ∧ b = ((p.v, p.s), (i : Int)) := by
 rw [List.mem_iff_getElem?]
 constructor
 ·
  rintro ⟨i, hi⟩
  have h1 : i < S.length := by
   have := (List.getElem?_eq_some_iff.1 hi).1
   rw [h.ll] at this
   omega
  have h2 := List.getElem?_eq_getElem h1
  have h3 := h.lm i _ (by omega) h2
  rw [hi] at h3
  exact ⟨i, _, h2, Option.some.inj h3⟩
 ·
  rintro ⟨i, p, hp, rfl⟩
  have h1 := (List.getElem?_eq_some_iff.1 hp).1
  exact ⟨i, h.lm i p (by omega) hp⟩
theorem bx_ids {ks : List Int} {S : List VeA} {j : Nat} {Ks : List Kp} {t : AT} {L : List Bxs} (h : St2 ks S j Ks t L) (hS : S.length = j) : L.map (·.2) = (List.range j).map fun i : Nat => (i : Int) := by
 apply List.ext_getElem?
 intro i
 rw [List.getElem?_map, List.getElem?_map]
 by_cases hi : i < j
 ·
  have h2 := List.getElem?_eq_getElem (show i < S.length by omega)
  rw [h.lm i _ hi h2]
  simp [hi]
 ·
  rw [List.getElem?_eq_none (by rw [h.ll]; omega), List.getElem?_eq_none (by simp; omega)]
  rfl
theorem bx_err {ks : List Int} {S : List VeA} {j : Nat} {Ks : List Kp} {t : AT} {L : List Bxs} (h : St2 ks S j Ks t L) (hS : S.length = j) (hj : j ≤ 200) (pv : ∀ p ∈ S, pvB p.v = true ∧ pvB p.s = true) (i k : Nat) : errF 8 ((L.drop i).take k) = 0 := by
 have hsub : ((L.drop i).take k).Sublist L := (List.take_sublist _ _).trans (List.drop_sublist _ _)
 rw [err_zero_iff (by decide) (Nat.le_trans hsub.length_le (by rw [h.ll]; exact hj))]
 refine ⟨fun x hx => ?_, ?_⟩
 ·
  obtain ⟨i, p, hp, rfl⟩ := (bx_mem h hS x).1 (hsub.subset hx)
  have := pv p (List.mem_of_getElem? hp)
  unfold rvB
  rw [this.1, this.2]
  rfl
 ·
  have h1 : (L.map (·.2)).Nodup := by
   rw [bx_ids h hS]
   exact (List.pairwise_map.2 (List.nodup_range.imp fun {a b} h e => h (by omega)))
  exact h1.sublist (hsub.map _)
theorem ix_mk {w W : World} {xb ib tb j c : Nat} {A RA : Option Addr} {rc : Nat} {ks : List Int} {S : List VeA} {Ks : List Kp} {t : AT} {L : List Bxs} {R : List (Option Addr × List Bxs)} (hX : IdxS W xb A j c tb ib RA R.length rc) (own : W.ownsRow w.heap.size 47 9 (.slice A j c) j (S.flatMap encVe)) (vs : VsX W S) (tk : TK w.heap.size W tb 8 Ks) (it : ITr W w.heap.size ib t)
  (st : St2 ks S j Ks t L) (hS : S.length = j) (hj : j ≤ 200) (pv : ∀ p ∈ S, pvB p.v = true ∧ pvB p.s = true) (rv : ∀ p ∈ S, ∀ v ∈ p.row.l, vvB v = true) (hR : Rd W 1 RA R.length (ptrR R)) (hm : R.length ≤ 1) (ht : TrsF W R) (hr : ∀ q, ridF R q = rsF (loE 8 L) q) : IxM W xb ks S := by
 refine ⟨A, j, c, tb, ib, RA, R.length, rc, w.heap.size, Ks, t, R, hX, hS, Rd.of_own own, vs.vsN, tk, fun y => ?_, it, fun y => ?_, by rw [st.il]; omega, rfl, hR, ht, fun q z => ?_, by omega, by omega, pv, rv⟩
 ·
  rw [st.km]
  exact ⟨fun ⟨i, p, _, h1, h2⟩ => ⟨i, p, h1, h2⟩, fun ⟨i, p, h1, h2⟩ => ⟨i, p, by have := (List.getElem?_eq_some_iff.1 h1).1; omega, h1, h2⟩⟩
 ·
  rw [st.im]
  exact ⟨fun ⟨i, p, _, h1, h2⟩ => ⟨i, p, h1, h2⟩, fun ⟨i, p, h1, h2⟩ => ⟨i, p, by have := (List.getElem?_eq_some_iff.1 h1).1; omega, h1, h2⟩⟩
 ·
  have he : errF 8 L = 0 := by
   have := bx_err st hS hj pv 0 j
   rwa [List.drop_zero, List.take_of_length_le (by rw [st.ll]; exact Nat.le_refl _)] at this
  rw [hr, mem_got he]
  constructor
  ·
   rintro ⟨b, hb, rfl, ho⟩
   obtain ⟨i, p, hp, rfl⟩ := (bx_mem st hS b).1 hb
   exact ⟨i, p, hp, rfl, ho⟩
  ·
   rintro ⟨i, p, hp, rfl, ho⟩
   exact ⟨_, (bx_mem st hS _).2 ⟨i, p, hp, rfl⟩, rfl, ho⟩
theorem elTree : El Tryz.prog 52 88 (.pointer none) 1 8 := ⟨Tryz.underlying52, info_parts (by kernel_rfl), rfl, by decide⟩
def RnI (W0 : World) (h xb : Nat) (A : Option Addr) (n c tb ib : Nat) (L : List Bxs) {m : Nat} (pre : List (Ix m)) (W : World) : Prop :=
 But h xb W0 W ∧ ((pre = [] ∧ IdxS W xb A n c tb ib none 0 0) ∨ ∃ x RA rc tp nn d, pre = [x] ∧ IdxS W xb A n c tb ib RA 1 rc ∧ W.ownsRow h 88 1 (.slice RA 1 rc) 1 [.pointer tp] ∧ TreeH W tp (rtE 8 ((L.drop x.1).take 4096)) nn d)
theorem RnI.own {W0 : World} {h xb : Nat} {A : Option Addr} {n c tb ib : Nat} {L : List Bxs} {m : Nat} (hh : h ≤ W0.heap.size) : OwnFrom h (RnI W0 h xb A n c tb ib L (m := m)) := fun pre W W' row ⟨h1, h2⟩ hg hr => by
 have hr2 := fun r e => (hr r e).2
 refine ⟨But.own (β := Unit) hh () W W' row h1 hg hr, ?_⟩
 rcases h2 with ⟨h3, h4⟩ | ⟨x, RA, rc, tp, nn, d, h3, h4, h5, h6⟩
 ·
  exact .inl ⟨h3, nodes_kept hg hr2 h4⟩
 ·
  exact .inr ⟨x, RA, rc, tp, nn, d, h3, nodes_kept hg hr2 h4, row_kept hg hr2 h5, h6.kept hg hr2⟩
theorem one_ix {m wd : Nat} {xs : List (Ix m)} (h : xs.map Subtype.val = (List.range 1).map (· * wd)) : ∃ x, xs = [x] ∧ x.1 = 0 := by
 match xs, h with
 | [x], h => exact ⟨x, rfl, by simpa using h⟩
 | [], h => cases h
 | x :: y :: l, h => simp at h
theorem rn_step {W0 W w1 cur C : World} {h xb : Nat} {A RA : Option Addr} {n c tb ib rc : Nat} {L : List Bxs} {m : Nat} {x : Ix m} {tp : Option Addr} {nn d : Int} (hr : RnI W0 h xb A n c tb ib L ([] : List (Ix m)) W) (hh : h ≤ W.heap.size) (hx : xb < h) (e1 : Ext W w1)
  (hX : ∀ X : World, w1.heap.size ≤ X.heap.size → (∀ k, W.heap.size ≤ k → k < w1.heap.size → X.heap[k]? = w1.heap[k]?) → TreeH X tp (rtE 8 ((L.drop x.1).take 4096)) nn d) (e2 : Ext w1 cur) (hg : cur.grownBy C none) (ho : C.ownsRow W.heap.size 88 1 (.slice RA 1 rc) 1 [.pointer tp]) :
  KeepsFrom h W (C.setCell ⟨xb, 3, none⟩ (.slice RA 1 rc)) ∧ But h xb W (C.setCell ⟨xb, 3, none⟩ (.slice RA 1 rc)) ∧ RnI W0 h xb A n c tb ib L [x] (C.setCell ⟨xb, 3, none⟩ (.slice RA 1 rc)) := by
 have e3 : Ext cur C := ⟨hg.os, hg.tape, hg.output, hg.size, fun k hk => hg.block k hk (by simp)⟩
 have e : Ext W C := (e1.tr e2).tr e3
 have b : But h xb W (C.setCell ⟨xb, 3, none⟩ (.slice RA 1 rc)) := (But.ofExt e hh).trans (But.setA _ _ _ _ _)
 obtain ⟨h1, h2⟩ := hr
 rcases h2 with ⟨-, h4⟩ | ⟨_, _, _, _, _, _, h3, _⟩
 ·
  have hI : C.heap[xb]? = some (.cells #[.slice A n c, pt tb, ptI ib, .slice none 0 0] 54 (0, 0)) := (e.block xb (by omega)).trans h4
  refine ⟨((keepsOthers_ext e).trans (keepsOthers_set _ _ _)).from _, b, h1.trans b, .inr ⟨x, RA, rc, tp, nn, d, rfl, set_heap hI 3 _, own_mono (own_kt ho (Kt.ofSet hI) (by decide)) hh, hX _ ?_ fun k h5 h6 => ?_⟩⟩
  ·
   rw [set_size]
   exact (e2.tr e3).size
  ·
   exact (set_other (by omega)).trans ((e2.tr e3).block k h6)
 ·
  cases h3
theorem rn_done {w W0 W : World} {tc : Array Value} {tbl var h xb ib tb : Nat} {A : Option Addr} {j c D : Nat} {ks : List Int} {S : List VeA} {Ks : List Kp} {t : AT} {so : Value} {L : List Bxs} {m : Nat} {xs : List (Ix m)} (hn : NwA w W0 tc tbl var xb ib tb A j c S Ks t so L) (st : St2 ks S j Ks t L) (hj : j ≤ 200) (pv : ∀ p ∈ S, pvB p.v = true ∧ pvB p.s = true) (rv : ∀ p ∈ S, ∀ v ∈ p.row.l, vvB v = true)
  (hr : RnI W0 h xb A j c tb ib L xs W) (hh : W0.heap.size = h) (hx : (xs = [] ∧ j = 0) ∨ ∃ x, xs = [x] ∧ x.1 = 0) (hD : h ≤ D) (hK : W.heap[D]? = some (.deferred (some []))) :
  IxM (W.putObj D (.deferred none)) xb ks S ∧ Ext w (W.putObj D (.deferred none)) := by
 have hxW : W.heap.size ≤ (W.putObj D (.deferred none)).heap.size := (grownBy_putObj' W D (.deferred none)).size
 have hr2 : RnI W0 h xb A j c tb ib L xs (W.putObj D (.deferred none)) := RnI.own (by omega) _ _ _ _ hr (grownBy_putObj' W D (.deferred none)) fun r e => by
  cases e
  exact ⟨hD, _, hK, rfl⟩
 generalize W.putObj D (.deferred none) = Wf at hr2
 clear hr hK hxW
 obtain ⟨b, h2⟩ := hr2
 have hS := hn.len
 have k := kt_but b (by omega) hn.hX
 have hxb := (Array.getElem?_eq_some_iff.1 hn.hX).1
 have l3 := hn.l3
 have hsz := hn.e.size
 have e : Ext w Wf := Ext.tr' hn.e b (by omega) l3
 have own := own_kt hn.own k (by decide)
 have vs := hn.vs.kt k (by decide)
 have tk := hn.tk.kt k (fun ty ht => by rcases ht with rfl | rfl | rfl | rfl <;> decide) (by decide) fun i hi _ => (e.block i hi).trans (hn.e.block i hi).symm
 have it := hn.it.kt k (fun ty ht => by rcases ht with rfl | rfl <;> decide)
 refine ⟨?_, e⟩
 rcases h2 with ⟨rfl, h4⟩ | ⟨x, RA, rc, tp, nn, d, rfl, h4, h5, h6⟩
 ·
  obtain ⟨-, rfl⟩ : ([] : List (Ix m)) = [] ∧ j = 0 := by
   rcases hx with h | ⟨_, h, _⟩
   ·
    exact h
   ·
    cases h
  have hL0 : L = [] := List.eq_nil_of_length_eq_zero st.ll
  subst hL0
  exact ix_mk (R := []) h4 own vs tk it st hS hj pv rv Rd.nil (by simp) (fun r hr => by cases hr) fun q => rfl
 ·
  have hx0 : x.1 = 0 := by
   rcases hx with ⟨h, _⟩ | ⟨y, h, h0⟩
   ·
    cases h
   ·
    cases h
    exact h0
  rw [hx0, List.drop_zero, List.take_of_length_le (by rw [st.ll]; omega)] at h6
  refine ix_mk (R := [(tp, L)]) h4 own vs tk it st hS hj pv rv (Rd.of_own h5) (by simp) (fun r hr => ?_) fun q => by simp [ridF]
  obtain rfl := List.mem_singleton.1 hr
  exact ⟨by rw [st.ll]; exact hj, nn, d, h6⟩

end Go.Proofs.YtdiaecgpjgdkdaaGreat
