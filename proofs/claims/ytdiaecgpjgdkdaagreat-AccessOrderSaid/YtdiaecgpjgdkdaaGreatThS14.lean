/- Lemmas for the rows: TrA ItE. -/
import Derived.Test.YtdiaecgpjgdkdaaGreatThS08
import Derived.Test.YtdiaecgpjgdkdaaGreatThS09
import Derived.Test.YtdiaecgpjgdkdaaGreatThS01
import Derived.Deep.RegionHeld3
import Derived.Test.YtdiaecgpjgdkdaaGreatThS10
import Derived.WalkMore
import Derived.Test.YtdiaecgpjgdkdaaGreatThS07
set_option linter.unusedSimpArgs false
set_option linter.unusedVariables false
namespace Go.Proofs.YtdiaecgpjgdkdaaGreat
open Go.RowKit

abbrev rx (r : Rct) : Value := .agg #[.int .i64 r.1.1, .int .i64 r.1.2, .int .i64 r.2.1, .int .i64 r.2.2]
abbrev bxg (b : Bxs) : Value := .agg #[.int .i64 b.1.1.1, .int .i64 b.1.1.2, .int .i64 b.1.2.1, .int .i64 b.1.2.2, .int .i64 b.2]
def encX (b : Bxs) : List Value := [.int .i64 b.1.1.1, .int .i64 b.1.1.2, .int .i64 b.1.2.1, .int .i64 b.1.2.2, .int .i64 b.2]
def bxl (l : List Bxs) : List Value := l.flatMap encX
theorem fmX_get {α : Type} {enc : α → List Value} {k : Nat} (h : ∀ a, (enc a).length = k) : ∀ (l : List α) (i : Nat) (hi : i < l.length) (j : Nat), j < k → (l.flatMap enc)[i * k + j]? = (enc l[i])[j]?
 | [], i, hi, j, _ => by simp at hi
 | a :: l, 0, hi, j, hj => by
  rw [List.flatMap_cons, List.getElem?_append_left (by rw [h]; omega)]; simp
 | a :: l, i + 1, hi, j, hj => by
  rw [List.flatMap_cons, List.getElem?_append_right (by rw [h, Nat.add_mul]; omega)]
  have := fmX_get h l i (by simpa using hi) j hj
  rw [List.getElem_cons_succ, ← this]
  congr 1
  rw [h, Nat.add_mul]; omega
theorem bxl_append (a b : List Bxs) : bxl (a ++ b) = bxl a ++ bxl b := by simp [bxl]
theorem oneCell_bxl (l : List Bxs) : ∀ u ∈ bxl l, u.oneCell' = true := by
 intro u hu
 unfold bxl at hu
 obtain ⟨r, _, h⟩ := List.mem_flatMap.1 hu
 simp [encX] at h
 rcases h with rfl | rfl | rfl | rfl | rfl <;> rfl
theorem bxl_get (l : List Bxs) (k : Nat) (h : k < l.length) : (bxl l)[k * 5]? = some (.int .i64 l[k].1.1.1) ∧ (bxl l)[k * 5 + 1]? = some (.int .i64 l[k].1.1.2) ∧ (bxl l)[k * 5 + 2]? = some (.int .i64 l[k].1.2.1) ∧ (bxl l)[k * 5 + 3]? = some (.int .i64 l[k].1.2.2) ∧ (bxl l)[k * 5 + 4]? = some (.int .i64 l[k].2) := by
 have f := fun j hj => fmX_get (enc := encX) (k := 5) (fun _ => rfl) l k h j hj
 exact ⟨f 0 (by omega), f 1 (by omega), f 2 (by omega), f 3 (by omega), f 4 (by omega)⟩
theorem Rd.box {w : World} {A : Option Addr} {l : List Bxs} {n : Nat} (h : Rd w 5 A n (bxl l)) (hn : n = l.length) {k : Nat} (hk : k < l.length) :
  ∃ b o, A = some ⟨b, o, none⟩ ∧ b < w.heap.size ∧ w.cell? ⟨b, o + k * 5, none⟩ = some (.int .i64 l[k].1.1.1) ∧ w.cell? ⟨b, o + k * 5 + 1, none⟩ = some (.int .i64 l[k].1.1.2) ∧ w.cell? ⟨b, o + k * 5 + 2, none⟩ = some (.int .i64 l[k].1.2.1) ∧ w.cell? ⟨b, o + k * 5 + 3, none⟩ = some (.int .i64 l[k].1.2.2) ∧ w.cell? ⟨b, o + k * 5 + 4, none⟩ = some (.int .i64 l[k].2) := by
 obtain ⟨b, o, hA, hb, hc⟩ := h.2 (by omega)
 obtain ⟨h1, h2, h3, h4, h5⟩ := bxl_get l k hk
 exact ⟨b, o, hA, hb, hc _ _ h1, hc _ _ h2, hc _ _ h3, hc _ _ h4, hc _ _ h5⟩
theorem elBox : El Tryz.prog 79 84 (.agg #[.int .i64 0, .int .i64 0, .int .i64 0, .int .i64 0, .int .i64 0]) 5 40 := ⟨Tryz.underlying79, info_parts (by kernel_rfl), rfl, by decide⟩

theorem sign_anyT (a b : Int) (w : World) : Calls Tryz.prog 135 #[.int .i64 a, .int .i64 b] w fun e w' => e = .returned (.int .i64 (cmpI a b)) ∧ w' = w := by
 go_enter Tryz.func135, Tryz.ntmps135
 go_wp2
 all_goals go_ret
 all_goals refine ⟨?_, rfl⟩
 all_goals refine congrArg (fun z => Ending.returned (Value.int .i64 z)) ?_
 all_goals unfold cmpI
 all_goals (repeat' split) <;> first | rfl | omega
def pcmpI (p q : Int × Int) : Int := if p.1 = q.1 then cmpI p.2 q.2 else cmpI p.1 q.1
theorem pcompare_any (p q : Int × Int) (w : World) : Calls Tryz.prog 96 #[pr p, pr q] w fun e w' => e = .returned (.int .i64 (pcmpI p q)) ∧ w' = (w.alloc (.cells #[.int .i64 p.1, .int .i64 p.2] 35)).alloc (.cells #[.int .i64 q.1, .int .i64 q.2] 35) := by
 by_cases h : p.1 = q.1
 ·
  have hq : (p.1 != q.1) = false := by simp [h]
  have HE : Hid (pcmpI p q = cmpI p.2 q.2) := Lib.hid (by unfold pcmpI; rw [if_pos h])
  clear h
  go_enter Tryz.func96, Tryz.ntmps96
  go_wp2_with (go_at_call 135; (refine (sign_anyT _ _ _).mono ?_); rintro e w1 ⟨rfl, rfl⟩)
  go_ret
  exact ⟨by rw [HE.out]; rfl, rfl⟩
 ·
  have hq : (p.1 != q.1) = true := by simp [h]
  have HE : Hid (pcmpI p q = cmpI p.1 q.1) := Lib.hid (by unfold pcmpI; rw [if_neg h])
  clear h
  go_enter Tryz.func96, Tryz.ntmps96
  go_wp2_with (go_at_call 135; (refine (sign_anyT _ _ _).mono ?_); rintro e w1 ⟨rfl, rfl⟩)
  go_ret
  exact ⟨by rw [HE.out]; rfl, rfl⟩
theorem poverlapsX_any (p q : Int × Int) (w : World) : Calls Tryz.prog 203 #[pr p, pr q] w fun e w' => e = .returned (.bool (povB p q)) ∧ Ext w w' := by
 go_enter Tryz.func203, Tryz.ntmps203
 go_wp2_with (go_at_call 42; refine (pvalid_any _ _).mono ?_; rintro e w1 ⟨rfl, hb1⟩; obtain ⟨x1, rfl⟩ := hb1.get; clear hb1)
 all_goals go_ret
 all_goals refine ⟨?_, ex_⟩
 all_goals simp_all [povB]
 all_goals omega
theorem ovlB_pov (a b : Rct) : ovlB a b = (rvB a && rvB b && povB a.1 b.1 && povB a.2 b.2) := by
 rw [Bool.eq_iff_iff, ovlB_iff]
 simp only [povB, rvB, Bool.and_eq_true, decide_eq_true_eq]
 constructor
 ·
  rintro ⟨⟨a, b⟩, ⟨c, d⟩, e⟩; exact ⟨⟨⟨⟨a, b⟩, c, d⟩, ⟨⟨a, c⟩, by omega⟩, by omega⟩, ⟨⟨b, d⟩, by omega⟩, by omega⟩
 ·
  rintro ⟨⟨⟨⟨a, b⟩, c, d⟩, ⟨⟨_, _⟩, _⟩, _⟩, ⟨⟨_, _⟩, _⟩, _⟩; exact ⟨⟨a, b⟩, ⟨c, d⟩, by omega⟩

set_option maxHeartbeats 400000 in
theorem gvalidX_any (r : Rct) (w : World) : Calls Tryz.prog 212 #[rx r] w fun e w' => e = .returned (.bool (rvB r)) ∧ Ext w w' := by
 have H1 := Lib.hid (fun w => pvalid_any r.1 w)
 have H2 := Lib.hid (fun w => pvalid_any r.2 w)
 have HR : Hid (rvB r = (pvB r.1 && pvB r.2)) := Lib.hid rfl
 rcases h1 : pvB r.1 with _ | _
 ·
  rw [h1] at H1 HR
  go_enter Tryz.func212, Tryz.ntmps212
  go_wp2_with (go_at_call 42; refine Calls.mono (H1.out _) ?_; rintro e w1 ⟨rfl, hb1⟩; obtain ⟨x1, rfl⟩ := hb1.get; clear hb1)
  go_ret
  exact ⟨by rw [HR.out]; rfl, ex_⟩
 ·
  rw [h1] at H1 HR
  generalize pvB r.2 = v2 at H2 HR
  go_enter Tryz.func212, Tryz.ntmps212
  go_wp2_with fail
  refine Calls.mono (H1.out _) ?_
  rintro e w1 ⟨rfl, hb1⟩
  obtain ⟨x1, rfl⟩ := hb1.get
  clear hb1
  go_wp2_with fail
  refine Calls.mono (H2.out _) ?_
  rintro e w1 ⟨rfl, hb1⟩
  obtain ⟨x2, rfl⟩ := hb1.get
  clear hb1
  go_wp2
  go_ret
  exact ⟨by rw [HR.out]; rfl, ex_⟩

set_option maxHeartbeats 400000 in
theorem tvalid_any (r : Rct) (w : World) : Calls Tryz.prog 94 #[rx r] w fun e w' => e = .returned (.bool (rvB r)) ∧ Ext w w' := by
 have H1 := Lib.hid (fun w => pvalid_any r.1 w)
 have H2 := Lib.hid (fun w => pvalid_any r.2 w)
 have HR : Hid (rvB r = (pvB r.1 && pvB r.2)) := Lib.hid rfl
 rcases h1 : pvB r.1 with _ | _
 ·
  rw [h1] at H1 HR
  go_enter Tryz.func94, Tryz.ntmps94
  go_wp2_with (go_at_call 42; refine Calls.mono (H1.out _) ?_; rintro e w1 ⟨rfl, hb1⟩; obtain ⟨x1, rfl⟩ := hb1.get; clear hb1)
  go_ret
  exact ⟨by rw [HR.out]; rfl, ex_⟩
 ·
  rw [h1] at H1 HR
  generalize pvB r.2 = v2 at H2 HR
  go_enter Tryz.func94, Tryz.ntmps94
  go_wp2_with fail
  refine Calls.mono (H1.out _) ?_
  rintro e w1 ⟨rfl, hb1⟩
  obtain ⟨x1, rfl⟩ := hb1.get
  clear hb1
  go_wp2_with fail
  refine Calls.mono (H2.out _) ?_
  rintro e w1 ⟨rfl, hb1⟩
  obtain ⟨x2, rfl⟩ := hb1.get
  clear hb1
  go_wp2
  go_ret
  exact ⟨by rw [HR.out]; rfl, ex_⟩

set_option maxHeartbeats 800000 in
theorem overlapsX_any (a b : Rct) (w : World) : Calls Tryz.prog 209 #[rx a, rx b] w fun e w' => e = .returned (.bool (ovlB a b)) ∧ Ext w w' := by
 have HO : Hid (ovlB a b = (rvB a && rvB b && povB a.1 b.1 && povB a.2 b.2)) := Lib.hid (ovlB_pov a b)
 have H1 := Lib.hid (fun w => gvalidX_any a w)
 have H2 := Lib.hid (fun w => gvalidX_any b w)
 have H3 := Lib.hid (fun w => poverlapsX_any a.1 b.1 w)
 have H4 := Lib.hid (fun w => poverlapsX_any a.2 b.2 w)
 rcases h1 : rvB a with _ | _
 ·
  rw [h1] at H1
  have HE : Hid (ovlB a b = false) := Lib.hid (by rw [HO.out, h1]; rfl)
  go_enter Tryz.func209, Tryz.ntmps209
  go_wp2_with (first | (go_at_call 212; (with_reducible refine Calls.mono (H1.out _) ?_); rintro e w1 ⟨rfl, hb1⟩; obtain ⟨y1, rfl⟩ := hb1.get; clear hb1) | (go_at_call 212; (with_reducible refine Calls.mono (H2.out _) ?_); rintro e w1 ⟨rfl, hb1⟩; obtain ⟨y2, rfl⟩ := hb1.get; clear hb1) | (go_at_call 203; (with_reducible refine Calls.mono (H3.out _) ?_); rintro e w1 ⟨rfl, hb1⟩; obtain ⟨y3, rfl⟩ := hb1.get; clear hb1) | (go_at_call 203; (with_reducible refine Calls.mono (H4.out _) ?_); rintro e w1 ⟨rfl, hb1⟩; obtain ⟨y4, rfl⟩ := hb1.get; clear hb1))
  go_ret
  exact ⟨by rw [HE.out]; rfl, ex_⟩
 ·
  rw [h1] at H1
  rcases h2 : rvB b with _ | _
  ·
   rw [h2] at H2
   have HE : Hid (ovlB a b = false) := Lib.hid (by rw [HO.out, h1, h2]; rfl)
   go_enter Tryz.func209, Tryz.ntmps209
   go_wp2_with (first | (go_at_call 212; (with_reducible refine Calls.mono (H1.out _) ?_); rintro e w1 ⟨rfl, hb1⟩; obtain ⟨y1, rfl⟩ := hb1.get; clear hb1) | (go_at_call 212; (with_reducible refine Calls.mono (H2.out _) ?_); rintro e w1 ⟨rfl, hb1⟩; obtain ⟨y2, rfl⟩ := hb1.get; clear hb1) | (go_at_call 203; (with_reducible refine Calls.mono (H3.out _) ?_); rintro e w1 ⟨rfl, hb1⟩; obtain ⟨y3, rfl⟩ := hb1.get; clear hb1) | (go_at_call 203; (with_reducible refine Calls.mono (H4.out _) ?_); rintro e w1 ⟨rfl, hb1⟩; obtain ⟨y4, rfl⟩ := hb1.get; clear hb1))
   go_ret
   exact ⟨by rw [HE.out]; rfl, ex_⟩
  ·
   rw [h2] at H2
   rcases h3 : povB a.1 b.1 with _ | _
   ·
    rw [h3] at H3
    have HE : Hid (ovlB a b = false) := Lib.hid (by rw [HO.out, h1, h2, h3]; rfl)
    go_enter Tryz.func209, Tryz.ntmps209
    go_wp2_with (first | (go_at_call 212; (with_reducible refine Calls.mono (H1.out _) ?_); rintro e w1 ⟨rfl, hb1⟩; obtain ⟨y1, rfl⟩ := hb1.get; clear hb1) | (go_at_call 212; (with_reducible refine Calls.mono (H2.out _) ?_); rintro e w1 ⟨rfl, hb1⟩; obtain ⟨y2, rfl⟩ := hb1.get; clear hb1) | (go_at_call 203; (with_reducible refine Calls.mono (H3.out _) ?_); rintro e w1 ⟨rfl, hb1⟩; obtain ⟨y3, rfl⟩ := hb1.get; clear hb1) | (go_at_call 203; (with_reducible refine Calls.mono (H4.out _) ?_); rintro e w1 ⟨rfl, hb1⟩; obtain ⟨y4, rfl⟩ := hb1.get; clear hb1))
    go_ret
    exact ⟨by rw [HE.out]; rfl, ex_⟩
   ·
    rw [h3] at H3
    rcases h4 : povB a.2 b.2 with _ | _
    ·
     rw [h4] at H4
     have HE : Hid (ovlB a b = false) := Lib.hid (by rw [HO.out, h1, h2, h3, h4]; rfl)
     go_enter Tryz.func209, Tryz.ntmps209
     go_wp2_with (first | (go_at_call 212; (with_reducible refine Calls.mono (H1.out _) ?_); rintro e w1 ⟨rfl, hb1⟩; obtain ⟨y1, rfl⟩ := hb1.get; clear hb1) | (go_at_call 212; (with_reducible refine Calls.mono (H2.out _) ?_); rintro e w1 ⟨rfl, hb1⟩; obtain ⟨y2, rfl⟩ := hb1.get; clear hb1) | (go_at_call 203; (with_reducible refine Calls.mono (H3.out _) ?_); rintro e w1 ⟨rfl, hb1⟩; obtain ⟨y3, rfl⟩ := hb1.get; clear hb1) | (go_at_call 203; (with_reducible refine Calls.mono (H4.out _) ?_); rintro e w1 ⟨rfl, hb1⟩; obtain ⟨y4, rfl⟩ := hb1.get; clear hb1))
     go_ret
     exact ⟨by rw [HE.out]; rfl, ex_⟩
    ·
     rw [h4] at H4
     have HE : Hid (ovlB a b = true) := Lib.hid (by rw [HO.out, h1, h2, h3, h4]; rfl)
     go_enter Tryz.func209, Tryz.ntmps209
     go_wp2_with (first | (go_at_call 212; (with_reducible refine Calls.mono (H1.out _) ?_); rintro e w1 ⟨rfl, hb1⟩; obtain ⟨y1, rfl⟩ := hb1.get; clear hb1) | (go_at_call 212; (with_reducible refine Calls.mono (H2.out _) ?_); rintro e w1 ⟨rfl, hb1⟩; obtain ⟨y2, rfl⟩ := hb1.get; clear hb1) | (go_at_call 203; (with_reducible refine Calls.mono (H3.out _) ?_); rintro e w1 ⟨rfl, hb1⟩; obtain ⟨y3, rfl⟩ := hb1.get; clear hb1) | (go_at_call 203; (with_reducible refine Calls.mono (H4.out _) ?_); rintro e w1 ⟨rfl, hb1⟩; obtain ⟨y4, rfl⟩ := hb1.get; clear hb1))
     go_ret
     exact ⟨by rw [HE.out]; rfl, ex_⟩
theorem hull_any (p q : Int × Int) (w : World) : Calls Tryz.prog 136 #[pr p, pr q] w fun e w' => e = .returned (pr (min p.1 q.1, max p.2 q.2)) ∧ Ext w w' := by
 go_enter Tryz.func136, Tryz.ntmps136
 go_wp2
 all_goals refine bodyPost_ret (v := pr (min p.1 q.1, max p.2 q.2)) ?_ rfl ⟨rfl, ex_⟩
 all_goals simp [results, Tryz.results136, go_sem, ↓IntWalk.iteOmega]
 all_goals (first | done | omega | (and_intros <;> omega))
end Go.Proofs.YtdiaecgpjgdkdaaGreat

namespace Go.Proofs.YtdiaecgpjgdkdaaGreat
open Go.RowKit

structure ITr (w : World) (base tb : Nat) (t : AT) : Prop where
 tr : w.heap[tb]? = some (.cells #[t.p, .int .i64 (t.flat.length : Nat)] 114 (0, 0))
 gd : Gd w t
 nd : t.foot.Nodup
 ok : t.Ok
 st : SrI t.flat
 nt : tb ∉ t.foot
 hb : base ≤ tb
 hf : ∀ k ∈ t.foot, base ≤ k
theorem ITr.c {w : World} {base tb : Nat} {t : AT} (h : ITr w base tb t) : tb < w.heap.size ∧ w.cell? ⟨tb, 0, none⟩ = some t.p ∧ w.cell? ⟨tb, 1, none⟩ = some (.int .i64 (t.flat.length : Nat)) ∧ w.frozen? ⟨tb, 0, none⟩ = false ∧ w.frozen? ⟨tb, 1, none⟩ = false := by
 have k' := h.tr
 refine ⟨(Array.getElem?_eq_some_iff.1 k').1, ?_, ?_, ?_, ?_⟩ <;> simp [World.cell?, World.frozen?, k']
theorem ITr.ext {w w' : World} {base tb : Nat} {t : AT} (h : ITr w base tb t) (e : Ext w w') : ITr w' base tb t :=
 ⟨(e.block tb h.c.1).trans h.tr, h.gd.ext e, h.nd, h.ok, h.st, h.nt, h.hb, h.hf⟩
@[go_sem] theorem neq_nilI (w : World) : (binOp .neq 112 (.pointer none) (.pointer none)).run Tryz.prog w = .ok (.bool false) w := by
 have h := run_equal_pointer_nil (P := Tryz.prog) w 112 none (by kernel_rfl)
 simp [binOp, h]
@[go_sem] theorem neq_ptrI (w : World) (b : Nat) : (binOp .neq 112 (.pointer (some ⟨b, 0, none⟩)) (.pointer none)).run Tryz.prog w = .ok (.bool true) w := by
 have h := run_equal_pointer_nil (P := Tryz.prog) w 112 (some ⟨b, 0, none⟩) (by kernel_rfl)
 simp [binOp, h]
def NewE (w : World) (en : Ending) (w' : World) : Prop := en = .returned (.pointer (some ⟨w.heap.size, 0, none⟩)) ∧ ITr w' w.heap.size w.heap.size .nil ∧ Ext w w'
set_option maxRecDepth 100000 in
set_option maxHeartbeats 8000000 in
theorem new_any (w : World) : Calls Tryz.prog 21 #[] w (NewE w) := by
 have h0 : ITr (w.alloc (.cells #[.pointer none, .int .i64 0] 114)) w.heap.size w.heap.size .nil :=
  ⟨heap_alloc_new _ _, trivial, by simp [AT.foot], trivial, by simp [AT.flat, SrI], by simp [AT.foot], Nat.le_refl _, by simp [AT.foot]⟩
 have H0 := Lib.hid h0
 clear h0
 go_enter Tryz.func21, Tryz.ntmps21
 go_wp2
 go_ret
 exact ⟨rfl, H0.out, ex_⟩
set_option maxRecDepth 100000 in
set_option maxHeartbeats 8000000 in
theorem has_no (x : It) (w : World) (base tb : Nat) (t : AT) (h : ITr w base tb t) (hx : x ∉ t.flat) : Calls Tryz.prog 51 #[ptI tb, itg x] w fun en w' => en = .returned (.bool false) ∧ Ext w w' := by
 obtain ⟨h1, h2, -, -, -⟩ := h.c
 have HT := Lib.hid h
 have HX := Lib.hid hx
 obtain ⟨tp, htp⟩ := p_form t
 have HP := Lib.hid htp
 rw [htp] at h2
 clear h hx htp
 unfold ptI
 unfold itg
 go_enter Tryz.func51, Tryz.ntmps51
 go_wp2
 go_step3
 go_hide hQ
 go_wp2_with fail
 go_step3
 go_wp2_with fail
 go_loopg [5] t.flat.length (fun g q wr => ∃ (s : AT) (a : Option Addr), q = .pointer a ∧ s.p = .pointer a ∧ Gd w s ∧ SrI s.flat ∧ x ∉ s.flat ∧ s.flat.length ≤ g ∧ Ext (w.alloc (.cells #[.int .i64 x.1.1, .int .i64 x.1.2, .int .i64 x.2] 132)) wr)
 case atStart => exact ⟨t, tp, rfl, HP.out, HT.out.gd, HT.out.st, HX.out, Nat.le_refl _, ex_⟩
 case round =>
  obtain ⟨s, a, hq, ha, hg, hs, hxs, hn, hE⟩ := hrel
  subst hq
  obtain ⟨x1, rfl⟩ := hE.get
  clear hE
  cases s with
  | nil =>
   have ha : Value.pointer none = Value.pointer a := ha
   injection ha with ha
   subst ha
   clear hg hs hxs hn
   go_wp2
   subst hQ
   rw [Exit.noGoto_ret]
   go_ret
   exact ⟨rfl, ex_⟩
  | node b y l r h e =>
   have ha : Value.pointer (some ⟨b, 0, none⟩) = Value.pointer a := ha
   injection ha with ha
   subst ha
   have HG := Lib.hid hg
   have HS := Lib.hid hs
   have HXS := Lib.hid hxs
   have HN := Lib.hid hn
   have HCM := Lib.hid fun W (e : Ext w W) => ncomp_any b y x l.p r.p _ _ W (HG.out.1.ext e)
   obtain ⟨hlt, -, -, -, c3, c4, -, -, -, -, -, -⟩ := hg.1.f
   obtain ⟨pl, hpl⟩ := p_form l
   obtain ⟨pr_, hpr⟩ := p_form r
   have HPL := Lib.hid hpl
   have HPR := Lib.hid hpr
   rw [hpl] at c3
   rw [hpr] at c4
   clear hg hs hxs hn hpl hpr
   unfold ptI itg at HCM
   rcases itL_tri x y with hl | hl | hl
   ·
    have hz := itC_gt.2 hl
    have HL := Lib.hid hl
    generalize itC y x = z at hz HCM
    clear hl
    go_wp2_with fail
    refine (HCM.out _ (ex_)).mono ?_
    rintro en1 w1 ⟨rfl, hb1⟩
    obtain ⟨x2, rfl⟩ := hb1.get
    clear hb1 HCM
    go_wp2
    go_roundg (gk - 1)
    case rel =>
     obtain ⟨s1, s2, s3, s4⟩ := SrI.mid (show SrI (l.flat ++ y :: r.flat) from HS.out)
     have hxs := HXS.out
     have hn := HN.out
     simp only [AT.flat, List.mem_append, List.mem_cons, not_or, List.length_append, List.length_cons] at hxs hn
     exact ⟨l, pl, rfl, HPL.out, HG.out.2.1, s1, hxs.1, by omega, ex_⟩
    case measure =>
     have hn := HN.out
     simp only [AT.flat, List.length_append, List.length_cons] at hn
     omega
   ·
    exfalso
    have hxs := HXS.out
    simp only [AT.flat, List.mem_append, List.mem_cons, not_or] at hxs
    exact hxs.2.1 hl
   ·
    have hz := itC_lt.2 hl
    have hz2 : ¬ 0 < itC y x := by omega
    generalize itC y x = z at hz hz2 HCM
    clear hl
    go_wp2_with fail
    refine (HCM.out _ (ex_)).mono ?_
    rintro en1 w1 ⟨rfl, hb1⟩
    obtain ⟨x2, rfl⟩ := hb1.get
    clear hb1 HCM
    go_wp2
    go_roundg (gk - 1)
    case rel =>
     obtain ⟨s1, s2, s3, s4⟩ := SrI.mid (show SrI (l.flat ++ y :: r.flat) from HS.out)
     have hxs := HXS.out
     have hn := HN.out
     simp only [AT.flat, List.mem_append, List.mem_cons, not_or, List.length_append, List.length_cons] at hxs hn
     exact ⟨r, pr_, rfl, HPR.out, HG.out.2.2, s2, hxs.2.2, by omega, ex_⟩
    case measure =>
     have hn := HN.out
     simp only [AT.flat, List.length_append, List.length_cons] at hn
     omega

theorem Tr.set {w : World} {b : Nat} {C : Array Value} (k : w.heap[b]? = some (.cells C 114 (0, 0))) (i : Nat) (u : Value) : ∃ w', w.setCell ⟨b, i, none⟩ u = w' ∧ w'.heap[b]? = some (.cells (C.setIfInBounds i u) 114 (0, 0)) ∧ Chg [b] w w' := by
 refine ⟨_, rfl, ?_, ?_⟩
 ·
  rw [setCell_eq_setRow w b i _ 114 (0, 0) _ k]
  exact setRow_heap w b _ _ 114 (0, 0) k
 ·
  rw [setCell_eq_setRow w b i _ 114 (0, 0) _ k]
  exact ⟨rfl, rfl, rfl, by simp [World.setRow], fun j _ hj => setRow_other w b j _ (by simpa using hj)⟩
def AddC (w : World) (base tb : Nat) (t : AT) (x : It) (en : Ending) (w' : World) : Prop := en = .returned (.bool true) ∧ ∃ t', ITr w' base tb t' ∧ t'.flat.Perm (x :: t.flat) ∧ Chg (tb :: t.foot) w w'
set_option maxRecDepth 100000 in
set_option maxHeartbeats 8000000 in
theorem addC_any (p : Int × Int) (i : Int) (w : World) (base tb : Nat) (t : AT) (h : ITr w base tb t) (hp : pvB p = true) (hx : (p, i) ∉ t.flat) (sz : t.flat.length ≤ 600000) : Calls Tryz.prog 27 #[ptI tb, .agg #[.int .i64 p.1, .int .i64 p.2], .int .i64 i] w (AddC w base tb t (p, i)) := by
 have HV := Lib.hid fun W => pvalid_any p W
 rw [hp] at HV
 have HH := Lib.hid fun W (e : Ext w W) => has_no (p, i) W base tb t (h.ext e) hx
 have HIN := Lib.hid fun W (e : Ext w W) => insert_any (p, i) t W (h.gd.ext e) h.nd h.ok h.st hx (by omega)
 have HT := Lib.hid h
 obtain ⟨h1, h2, h3, h4, h5⟩ := h.c
 have HNB : Hid (w.heap.size + 1 ∉ t.foot) := Lib.hid fun hk => by have := h.gd.lt _ hk; omega
 obtain ⟨tp, htp⟩ := p_form t
 have HP := Lib.hid htp
 rw [htp] at h2 HIN
 have hw : wrap64 ((t.flat.length : Int) + 1) = (t.flat.length : Int) + 1 := IntWalk.wrap64_in _ ⟨by omega, by omega⟩
 clear h hx htp hp
 unfold ptI at *
 unfold itg at *
 go_enter Tryz.func27, Tryz.ntmps27
 go_wp2_with fail
 refine (HV.out _).mono ?_
 rintro en1 w1 ⟨rfl, hb1⟩
 obtain ⟨x1, rfl⟩ := hb1.get
 clear hb1 HV
 go_wp2_with fail
 refine (HH.out _ (ex_)).mono ?_
 rintro en1 w1 ⟨rfl, hb1⟩
 obtain ⟨x2, rfl⟩ := hb1.get
 clear hb1 HH
 go_wp2_with fail
 refine wp_region_T 9 (S := (fun w' => w'.cell? ⟨tb, 0, none⟩ = some (.pointer tp) ∧ w'.cell? ⟨w.heap.size + 1, 0, none⟩ = some (.int .i64 p.1) ∧ w'.cell? ⟨w.heap.size + 1, 1, none⟩ = some (.int .i64 p.2) ∧ w'.cell? ⟨w.heap.size + 1, 2, none⟩ = some (.int .i64 i))) (by kernel_rfl) (by simp [go_sem, ↓IntWalk.iteOmega, *]) (fun hHeld => ?_)
 refine tkT 0 ?oi101 (?v101) ?hi101 ?hy101 ?_
 case hi101 => (simp only [gA, gS, gZ]; try rfl)
 case hy101 => (refine Or.inl ⟨by rfl, ?_⟩; intro wq hSw; (try dsimp only at hSw); go_simp; (try with_reducible rfl))
 (try simp only [Act.put, pA, pZ, pS])
 refine tkT 1 ?oi102 (?v102) ?hi102 ?hy102 ?_
 case hi102 => (simp only [gA, gS, gZ]; try rfl)
 case hy102 => (refine Or.inl ⟨by rfl, ?_⟩; intro wq hSw; (try dsimp only at hSw); go_simp; (try with_reducible rfl))
 (try simp only [Act.put, pA, pZ, pS])
 refine tkT 2 ?oi103 (?v103) ?hi103 ?hy103 ?_
 case hi103 => (simp only [gA, gS, gZ]; try rfl)
 case hy103 => (refine Or.inl ⟨by rfl, ?_⟩; intro wq hSw; (try dsimp only at hSw); go_simp; (try with_reducible rfl))
 (try simp only [Act.put, pA, pZ, pS])
 refine tkT 3 ?oi104 (?v104) ?hi104 ?hy104 ?_
 case hi104 => (simp only [gA, gS, gZ]; try rfl)
 case hy104 => (refine Or.inl ⟨by rfl, ?_⟩; intro wq hSw; (try dsimp only at hSw); go_simp; (try with_reducible rfl))
 (try simp only [Act.put, pA, pZ, pS])
 refine tkT 4 ?oi105 (?v105) ?hi105 ?hy105 ?_
 case hi105 => (simp only [gA, gS, gZ]; try rfl)
 case hy105 => (refine Or.inl ⟨by rfl, ?_⟩; intro wq hSw; (try dsimp only at hSw); go_simp; (try with_reducible rfl))
 (try simp only [Act.put, pA, pZ, pS])
 refine tkT 5 ?oi106 (?v106) ?hi106 ?hy106 ?_
 case hi106 => (simp only [gA, gS, gZ]; try rfl)
 case hy106 => (refine Or.inl ⟨by rfl, ?_⟩; intro wq hSw; (try dsimp only at hSw); go_simp; (try with_reducible rfl))
 (try simp only [Act.put, pA, pZ, pS])
 refine wpAnyT_ready (rs := [6]) (by kernel_rfl) (by simp) ?_
 refine AllReadyT.cons (o := ?oi107) ?hi107 ?ti107 AllReadyT.nil
 case hi107 => (simp only [gA, gS, gZ]; try rfl)
 case ti107 =>
  intro KQ hKQ
  go_simp
  go_at_call 52
  refine Calls.mono (HIN.out _ (ex_)) ?_
  rintro en2 w2 ⟨s2, rfl, i2, i3, i4, i5, i6, i7, i8⟩
  have hE5 : Ext w (ext (ext ((w.alloc (.cells #[.int .i64 p.1, .int .i64 p.2] 35)).alloc (.cells #[.int .i64 p.1, .int .i64 p.2, .int .i64 i] 132)) x1) x2).drew := ex_
  have kt2 : w2.heap[tb]? = some (.cells #[t.p, .int .i64 (t.flat.length : Nat)] 114 (0, 0)) := (i8.same tb (Nat.lt_of_lt_of_le HT.out.c.1 hE5.size) HT.out.nt).trans ((hE5.block tb HT.out.c.1).trans HT.out.tr)
  have hlt2 : tb < w2.heap.size := (Array.getElem?_eq_some_iff.1 kt2).1
  have d0 : w2.cell? ⟨tb, 0, none⟩ = some (.pointer tp) := by rw [← HP.out]; simp [World.cell?, kt2]
  have e0 : w2.frozen? ⟨tb, 0, none⟩ = false := by simp [World.frozen?, kt2]
  have d1 : w2.cell? ⟨w.heap.size + 1, 0, none⟩ = some (.int .i64 p.1) := (World.cell?_of_block (i8.same _ (by simp [size_ext]; omega) HNB.out)).trans (by simp [go_sem, ↓IntWalk.iteOmega])
  have d2 : w2.cell? ⟨w.heap.size + 1, 1, none⟩ = some (.int .i64 p.2) := (World.cell?_of_block (i8.same _ (by simp [size_ext]; omega) HNB.out)).trans (by simp [go_sem, ↓IntWalk.iteOmega])
  have d3 : w2.cell? ⟨w.heap.size + 1, 2, none⟩ = some (.int .i64 i) := (World.cell?_of_block (i8.same _ (by simp [size_ext]; omega) HNB.out)).trans (by simp [go_sem, ↓IntWalk.iteOmega])
  obtain ⟨w3, s3, k3, g3⟩ := Tr.set kt2 0 s2.p
  have k3 : w3.heap[tb]? = some (.cells #[s2.p, .int .i64 (t.flat.length : Nat)] 114 (0, 0)) := k3
  obtain ⟨w4, s4, k4, g4⟩ := Tr.set k3 1 (.int .i64 ((t.flat.length : Int) + 1))
  have k4 : w4.heap[tb]? = some (.cells #[s2.p, .int .i64 ((t.flat.length : Int) + 1)] 114 (0, 0)) := k4
  have hlt3 : tb < w3.heap.size := (Array.getElem?_eq_some_iff.1 k3).1
  have d4 : w3.cell? ⟨tb, 1, none⟩ = some (.int .i64 (t.flat.length : Nat)) := by simp [World.cell?, k3]
  have e1 : w3.frozen? ⟨tb, 1, none⟩ = false := by simp [World.frozen?, k3]
  have HI := Lib.hid (And.intro i2 (And.intro i3 (And.intro i4 (And.intro i5 (And.intro i6 (And.intro i7 i8))))))
  have HK := Lib.hid (And.intro k4 (g3.tr g4))
  obtain ⟨ps, hps⟩ := p_form s2
  rw [hps] at s3 ⊢
  clear i2 i3 i4 i5 i6 i7 i8 kt2 k3 k4 g3 g4 hps hE5
  refine hKQ.out _ _ (by simp [go_sem, ↓IntWalk.iteOmega, *]) (fun hHeld2 => ?_)
  clear hHeld hKQ KQ; have hHeld := hHeld2; clear hHeld2
  (try simp only [Act.put, pA, pZ, pS])
  refine tkT 7 ?oi108 (?v108) ?hi108 ?hy108 ?_
  case hi108 => (simp only [gA, gS, gZ]; try rfl)
  case hy108 => (refine Or.inl ⟨by rfl, ?_⟩; intro wq hSw; (try dsimp only at hSw); go_simp; (try with_reducible rfl))
  (try simp only [Act.put, pA, pZ, pS])
  refine tkT 8 ?oi109 (?v109) ?hi109 ?hy109 ?_
  case hi109 => (simp only [gA, gS, gZ]; try rfl)
  case hy109 => (refine Or.inl ⟨by rfl, ?_⟩; intro wq hSw; (try dsimp only at hSw); go_simp; (try with_reducible rfl))
  (try simp only [Act.put, pA, pZ, pS])
  refine wpAnyT_ready (rs := [9]) (by kernel_rfl) (by simp) ?_
  refine AllReadyT.last (o := ?oi110) ?hi110 ?ti110
  case hi110 => (simp only [gA, gS, gZ]; try rfl)
  case ti110 =>
   intro KQ hKQ
   go_simp
   (repeat (simp only [go_sem, ↓IntWalk.iteOmega, ↓reduceIte, Bool.false_eq_true]; (try go_simp)))
   refine hKQ.out _ _ ?_
   clear hKQ KQ hHeld
   (try simp only [Act.put, pA, pZ, pS])
   refine wpAnyT_done (by kernel_rfl) ?_ _
   go_wp2
   go_ret
   obtain ⟨i2, i3, i4, i5, i6, i7, i8⟩ := HI.out
   obtain ⟨k4, g34⟩ := HK.out
   have hE5 : Ext w (ext (ext ((w.alloc (.cells #[.int .i64 p.1, .int .i64 p.2] 35)).alloc (.cells #[.int .i64 p.1, .int .i64 p.2, .int .i64 i] 132)) x1) x2).drew := ex_
   have ht := HT.out
   have hlen := i5.length_eq
   simp only [List.length_cons] at hlen
   have hnt : tb ∉ s2.foot := fun hk => by
    rcases i6 tb hk with h | h
    ·
     exact ht.nt h
    ·
     have := ht.c.1; have := hE5.size; omega
   have hbb : base ≤ w.heap.size := Nat.le_trans ht.hb (Nat.le_of_lt ht.c.1)
   refine ⟨rfl, s2, ⟨?_, i2.chg g34 (by intro k hk hq; simp at hq; subst hq; exact hnt hk), i7, i3, i4, hnt, ht.hb, fun k hk => ?_⟩, i5, ?_⟩
   ·
    rw [k4, hlen]; rfl
   ·
    rcases i6 k hk with h | h
    ·
     exact ht.hf k h
    ·
     have := hE5.size; omega
   ·
    exact ((Chg.of_ext hE5).tr (i8.mono fun j hj => List.mem_cons_of_mem _ hj)).tr (g34.mono fun j hj => by simp at hj; subst hj; simp)
end Go.Proofs.YtdiaecgpjgdkdaaGreat
