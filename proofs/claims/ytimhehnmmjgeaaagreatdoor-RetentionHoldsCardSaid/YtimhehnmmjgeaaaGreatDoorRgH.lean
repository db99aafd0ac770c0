/- The contract of the function literal of region.combine: one visit. -/
import Derived.Test.YtimhehnmmjgeaaaGreatDoorRgG
import Derived.Test.YtimhehnmmjgeaaaGreatDoorBox
import Derived.BigRegion
import Derived.Shelf.Abstract
import Derived.Deep.DeepCutAuto
import Derived.Deep.CutBlock
import Derived.Deep.RegionHeld3
set_option linter.unusedSimpArgs false
set_option linter.unusedVariables false
namespace Go.Proofs.YtimhehnmmjgeaaaGreatDoor
open Go.RowKit


def setTo (t : Int) (l : List Rct) : List Rct := l.map fun r => (r.1, (r.2.1, t))
/-- one visit: what is out, the slice at its end, the end of its system period -/
def stepL (outL : List Rct) (last : List (Int × Int)) (tq : Int) (s : List (Int × Int)) (p : Int × Int) : List Rct × List (Int × Int) × Int :=
  if s = [] then (outL, last, tq)
  else if tq = p.1 ∧ s = last then (outL.take (outL.length - last.length) ++ setTo p.2 (outL.drop (outL.length - last.length)), s, p.2)
  else (outL ++ s.map (tag p.1 p.2), s, p.2)
/-- behind a visit -/
def VisP (W : World) (bo bl bt : Nat) (r : List Rct × List (Int × Int) × Int) (e : Ending) (w' : World) : Prop :=
  e = .returned (.tuple #[]) ∧ ∃ vo vl x, w' = ext (bx W bo bl bt vo vl (.int .i64 r.2.2)) x ∧ Own (bx W bo bl bt vo vl (.int .i64 r.2.2)) x 27 4 vo r.1.length (rcl r.1) ∧ Own (bx W bo bl bt vo vl (.int .i64 r.2.2)) x 25 2 vl r.2.1.length (pc r.2.1)

theorem own_box (W : World) (x : Add) (e sz : Nat) (c : Array Value) (hc : c.size = 1 * sz) : ((ext W x).alloc (.cells c e)).ownsRow W.heap.size e sz (.slice (some ⟨W.heap.size + x.n, 0, none⟩) 1 1) 1 c.toList := by
  refine ⟨by simpa using hc, .inr ⟨W.heap.size + x.n, 1, c, rfl, by omega, ?_, by omega, by unfold maxLen; omega, by omega, by rw [List.take_of_length_le (by simp; omega)]⟩⟩
  rw [← size_ext]
  exact heap_alloc_new _ _
theorem vis_cut {Wb wx : World} {x : Add} {p : Int × Int} {v vl : Value} {n m k base : Nat} {xs ys zs : List Value} {e1 e2 : Nat} (A : Option Addr) (c : Nat) (hE : Ext ((ext Wb x).alloc (.cells #[.int .i64 p.1, .int .i64 p.2] e2)) wx) (h1 : Own Wb x e1 4 v n xs) (h2 : Own Wb x e2 2 vl m ys) (h3 : wx.ownsRow base e2 2 (.slice A k c) k zs) (hb : Wb.heap.size ≤ base) {S : Nat} (hS : S = Wb.heap.size + x.n) :
    ∃ As cs y, Value.slice A k c = .slice As k cs ∧ wx = ext Wb y ∧ Own Wb y e1 4 v n xs ∧ Own Wb y e2 2 vl m ys ∧ Own Wb y e2 2 (.slice As k cs) k zs ∧ Own Wb y e2 2 (.slice (some ⟨S, 0, none⟩) 1 1) 1 (pc [p]) := by
  subst hS
  obtain ⟨z, rfl⟩ := hE.get
  obtain ⟨y, hy⟩ := ((Ext.ex Wb x).tr ((Ext.al1 _ _).tr hE)).get
  refine ⟨A, c, y, rfl, hy, ?_, ?_, ?_, ?_⟩
  · unfold Own; rw [← hy]; exact own_ext (World.ownsRow.alloc h1 _) z
  · unfold Own; rw [← hy]; exact own_ext (World.ownsRow.alloc h2 _) z
  · unfold Own; rw [← hy]; exact own_mono h3 hb
  · unfold Own; rw [← hy]; exact own_ext (own_box Wb x e2 2 _ rfl) z
theorem vis_push {Wb wx : World} {y : Add} {e1 e2 : Nat} {v1 v2 v3 v4 : Value} {n1 n2 n3 n4 : Nat} {x1 x2 x3 x4 : List Value} (b : Bool) (hE : Ext (ext Wb y) wx) (h1 : Own Wb y e1 4 v1 n1 x1) (h2 : Own Wb y e2 2 v2 n2 x2) (h3 : Own Wb y e2 2 v3 n3 x3) (h4 : Own Wb y e2 2 v4 n4 x4) :
    ∃ z, Value.bool b = .bool b ∧ wx = ext Wb z ∧ Own Wb z e1 4 v1 n1 x1 ∧ Own Wb z e2 2 v2 n2 x2 ∧ Own Wb z e2 2 v3 n3 x3 ∧ Own Wb z e2 2 v4 n4 x4 := by
  obtain ⟨u, rfl⟩ := hE.get
  obtain ⟨z, hz⟩ := ((Ext.ex Wb y).tr hE).get
  exact ⟨z, rfl, hz, Own.shift h1 hz, Own.shift h2 hz, Own.shift h3 hz, Own.shift h4 hz⟩
theorem box_at {W : World} {y : Add} {e : Nat} {S : Nat} {p : Int × Int} (h : Own W y e 2 (.slice (some ⟨S, 0, none⟩) 1 1) 1 (pc [p])) :
    W.heap.size ≤ S ∧ S < W.heap.size + y.n ∧ (extR W y).cell? ⟨S, 0, none⟩ = some (.int .i64 p.1) ∧ (extR W y).cell? ⟨S, 1, none⟩ = some (.int .i64 p.2) := by
  obtain ⟨g, hg, h1, h2, hc, _⟩ := Own.at h (by omega)
  simp only [Option.some.injEq, Addr.mk.injEq, and_true] at hg
  subst hg
  exact ⟨h1, h2, hc 0 _ rfl, hc 1 _ rfl⟩
theorem box_at2 {W : World} {bo bl bt : Nat} {vo vl vt : Value} {y : Add} {e : Nat} {S : Nat} {p : Int × Int} (h : Own (bx W bo bl bt vo vl vt) y e 2 (.slice (some ⟨S, 0, none⟩) 1 1) 1 (pc [p])) :
    ∀ vo vl vt, (extR (bx W bo bl bt vo vl vt) y).cell? ⟨S, 1, none⟩ = some (.int .i64 p.2) := fun vo' vl' vt' =>
  (box_at (own_base (W' := bx W bo bl bt vo' vl' vt') h (by simp))).2.2.2
theorem rcl_set (L : List Rct) (t : Int) (i : Nat) (h : i < L.length) : (rcl L).set (i * 4 + 3) (.int .i64 t) = rcl (L.set i (L[i].1, (L[i].2.1, t))) := by
  induction L generalizing i with
  | nil => simp at h
  | cons r L ih =>
    have hc : ∀ (r : Rct) (L : List Rct), rcl (r :: L) = .int .i64 r.1.1 :: .int .i64 r.1.2 :: .int .i64 r.2.1 :: .int .i64 r.2.2 :: rcl L := fun _ _ => rfl
    cases i with
    | zero => rw [hc, List.set_cons_zero, hc]; rfl
    | succ i =>
      rw [show (i + 1) * 4 + 3 = (i * 4 + 3) + 1 + 1 + 1 + 1 by omega, hc r L]
      simp only [List.set_cons_succ, List.getElem_cons_succ]
      rw [hc, ih i (by simpa using h)]
/-- the rows behind i turned -/
def turn (t : Int) (L : List Rct) (i : Nat) : List Rct := L.take i ++ setTo t (L.drop i)
theorem turn_length (t : Int) (L : List Rct) (i : Nat) : (turn t L i).length = L.length := by simp [turn, setTo]; omega
theorem turn_all (t : Int) (L : List Rct) {i : Nat} (h : L.length ≤ i) : turn t L i = L := by simp [turn, setTo, List.take_of_length_le h, List.drop_eq_nil_of_le h]
theorem turn_set (t : Int) (L : List Rct) (i : Nat) (h : i < L.length) : (rcl (turn t L (i + 1))).set (i * 4 + 3) (.int .i64 t) = rcl (turn t L i) := by
  rw [rcl_set _ _ _ (by rw [turn_length]; exact h)]
  congr 1
  have hg : (turn t L (i + 1))[i]'(by rw [turn_length]; exact h) = L[i] := by
    simp only [turn]
    rw [List.getElem_append_left (by simp; omega), List.getElem_take]
  rw [hg]
  simp only [turn, setTo]
  rw [List.drop_eq_getElem_cons h, List.map_cons, List.set_append_left _ _ (by simp; omega), List.take_succ_eq_append_getElem h, List.set_append_right _ _ (by simp; omega)]
  simp [show min i L.length = i by omega]

theorem vis_end {W w' : World} {bo bl bt : Nat} {u1 u2 u3 v vs : Value} {x : Add} {R : List Rct × List (Int × Int) × Int} {L : List Rct} {s : List (Int × Int)} {t : Int} {n : Nat} (hR : R = (L, s, t)) (h1 : Own (bx W bo bl bt u1 u2 u3) x 27 4 v n (rcl L)) (hn : n = L.length) (h2 : Own (bx W bo bl bt u1 u2 u3) x 25 2 vs s.length (pc s)) (hE : Ext (ext (bx W bo bl bt v vs (.int .i64 t)) x) w') :
    VisP W bo bl bt R (.returned (.tuple #[])) w' := by
  subst hR hn
  obtain ⟨y, hy⟩ := ((Ext.ex _ _).tr hE).get
  obtain ⟨y2, rfl⟩ := hE.get
  exact ⟨rfl, v, vs, y, hy, Own.shift (own_base h1 (by simp)) hy, Own.shift (own_base h2 (by simp)) hy⟩

set_option maxRecDepth 100000 in
set_option maxHeartbeats 4000000 in
theorem visit_any (fn : Nat) (ent : ∀ args w, (callFunc fn args).run Tryz.prog w = .ok (.enter fn args) w) (K : Bool → Bool → Bool)
    (HOP : ∀ (A B : Option Addr) (ca cb : Nat) (la lb : List (Int × Int)) (w : World), Rd w 2 A la.length (pc la) → Rd w 2 B lb.length (pc lb) → la.length ≤ 50000 → lb.length ≤ 50000 → Calls Tryz.prog fn #[.slice A la.length ca, .slice B lb.length cb] w (OwR 25 2 (combF K la lb).length (pc (combF K la lb)) w))
    (A B : Option Addr) (ca cb : Nat) (a b : List Rct) (ha : a.length ≤ 50000) (hb : b.length ≤ 50000) (W : World) (ba bb bp bo bl bt : Nat) (hbx : BxOk W bo bl bt) (hba : ba < W.heap.size) (hbb : bb < W.heap.size) (hbp : bp < W.heap.size)
    (qa : ∀ vo vl vt, (bx W bo bl bt vo vl vt).cell? ⟨ba, 0, none⟩ = some (.slice A a.length ca)) (qb : ∀ vo vl vt, (bx W bo bl bt vo vl vt).cell? ⟨bb, 0, none⟩ = some (.slice B b.length cb)) (qp : ∀ vo vl vt, (bx W bo bl bt vo vl vt).cell? ⟨bp, 0, none⟩ = some (.func (.func fn) #[] #[]))
    (hA : ∀ vo vl vt, Rd (bx W bo bl bt vo vl vt) 4 A a.length (rcl a)) (hB : ∀ vo vl vt, Rd (bx W bo bl bt vo vl vt) 4 B b.length (rcl b))
    (p : Int × Int) (vo vl : Value) (tq : Int) (x : Add) (outL : List Rct) (last : List (Int × Int)) (hown : Own (bx W bo bl bt vo vl (.int .i64 tq)) x 27 4 vo outL.length (rcl outL)) (hlast : Own (bx W bo bl bt vo vl (.int .i64 tq)) x 25 2 vl last.length (pc last)) (hlo : last.length ≤ outL.length) (hol : outL.length ≤ 2000000000000) :
    Calls Tryz.prog 73 #[pr p, .pointer (some ⟨bp, 0, none⟩), .pointer (some ⟨ba, 0, none⟩), .pointer (some ⟨bb, 0, none⟩), .pointer (some ⟨bt, 0, none⟩), .pointer (some ⟨bl, 0, none⟩), .pointer (some ⟨bo, 0, none⟩)] (ext (bx W bo bl bt vo vl (.int .i64 tq)) x) (VisP W bo bl bt (stepL outL last tq (sK K a b p.1) p)) := by
  have hsl := sK_length K a b p.1
  have HS : Hid (sK K a b p.1 = combF K (sliR a p.1) (sliR b p.1)) := Lib.hid rfl
  generalize sK K a b p.1 = s at hsl HS ⊢
  generalize hR : stepL outL last tq s p = R
  have HR := Lib.hid hR
  clear hR
  have HSA := Lib.hid (fun w h => gslice_any A ca a p.1 w h (by omega))
  have HSB := Lib.hid (fun w h => gslice_any B cb b p.1 w h (by omega))
  have HRA := Lib.hid (fun vo vl vt w' (h : Ext (bx W bo bl bt vo vl vt) w') => (hA vo vl vt).ext h)
  have HRB := Lib.hid (fun vo vl vt w' (h : Ext (bx W bo bl bt vo vl vt) w') => (hB vo vl vt).ext h)
  have hla := sliR_length a p.1
  have hlb := sliR_length b p.1
  have HOP := Lib.hid (fun A B ca cb w h1 h2 => HOP A B ca cb (sliR a p.1) (sliR b p.1) w h1 h2 (by omega) (by omega))
  rw [← HS.out] at HOP
  generalize sliR a p.1 = la at HSA HOP hla
  generalize sliR b p.1 = lb at HSB HOP hlb
  obtain ⟨Ao, co, rfl, hco, hcm⟩ := Own.form hown
  obtain ⟨Al, cl, rfl, hcl, hclm⟩ := Own.form hlast
  have q1 := bx_o hbx
  have q2 := bx_l hbx
  have q3 := bx_t hbx
  have q4 : ∀ vo vl vt, (bx W bo bl bt vo vl vt).frozen? ⟨bo, 0, none⟩ = false := fun _ _ _ => by rw [frozen_bx]; exact hbx.fo
  have q5 : ∀ vo vl vt, (bx W bo bl bt vo vl vt).frozen? ⟨bl, 0, none⟩ = false := fun _ _ _ => by rw [frozen_bx]; exact hbx.fl
  have q6 : ∀ vo vl vt, (bx W bo bl bt vo vl vt).frozen? ⟨bt, 0, none⟩ = false := fun _ _ _ => by rw [frozen_bx]; exact hbx.ft
  have q7 := bx_so hbx
  have q8 := bx_sl hbx
  have q9 : ∀ vo vl vt v, (bx W bo bl bt vo vl vt).setCell ⟨bt, 0, none⟩ v = bx W bo bl bt vo vl v := bx_st
  have hbo := hbx.ho
  have hbl := hbx.hl
  have hbt := hbx.ht
  have hslb : s.length ≤ 200002 := by omega
  clear hA hB hsl HS hbx
  go_enter Tryz.func73, Tryz.ntmps73
  go_upto_region 1 with fail
  go_cut [8] (fun s8 wx => ∃ As cs y, s8 = .slice As s.length cs ∧ wx = ext (bx W bo bl bt (.slice Ao outL.length co) (.slice Al last.length cl) (.int .i64 tq)) y ∧ Own (bx W bo bl bt (.slice Ao outL.length co) (.slice Al last.length cl) (.int .i64 tq)) y 27 4 (.slice Ao outL.length co) outL.length (rcl outL) ∧ Own (bx W bo bl bt (.slice Ao outL.length co) (.slice Al last.length cl) (.int .i64 tq)) y 25 2 (.slice Al last.length cl) last.length (pc last) ∧ Own (bx W bo bl bt (.slice Ao outL.length co) (.slice Al last.length cl) (.int .i64 tq)) y 25 2 (.slice As s.length cs) s.length (pc s) ∧ Own (bx W bo bl bt (.slice Ao outL.length co) (.slice Al last.length cl) (.int .i64 tq)) y 25 2 (.slice (some ⟨W.heap.size + x.n, 0, none⟩) 1 1) 1 (pc [p]))
  case first =>
    go_region_held3 (fun w' => w'.cell? ⟨ba, 0, none⟩ = some (.slice A a.length ca) ∧ w'.cell? ⟨bb, 0, none⟩ = some (.slice B b.length cb) ∧ w'.cell? ⟨bp, 0, none⟩ = some (.func (.func fn) #[] #[]) ∧ w'.cell? ⟨W.heap.size + x.n, 0, none⟩ = some (.int .i64 p.1)) (simp [go_sem, ↓IntWalk.iteOmega, *])
      (first | (go_at_call 74; (with_reducible refine (HSA.out _ (HRA.out _ _ _ _ (by repeat (first | exact Ext.refl' _ | assumption | apply Ext.ex' | apply Ext.al | apply Ext.drN | apply Ext.dr)))).mono ?_); rintro e w1 ⟨A1, c1, rfl, hb1, hr1⟩; obtain ⟨x1, rfl⟩ := hb1.get; clear hb1) | (go_at_call 74; (with_reducible refine (HSB.out _ (HRB.out _ _ _ _ (by repeat (first | exact Ext.refl' _ | assumption | apply Ext.ex' | apply Ext.al | apply Ext.drN | apply Ext.dr)))).mono ?_); rintro e w2 ⟨A2, c2, rfl, hb2, hr2⟩; obtain ⟨x2, rfl⟩ := hb2.get; clear hb2) | (go_at_fn fn; (refine (HOP.out _ _ _ _ _ (hr1.ext (by repeat (first | exact Ext.refl' _ | assumption | apply Ext.ex' | apply Ext.al | apply Ext.drN | apply Ext.dr))) (hr2.ext (by repeat (first | exact Ext.refl' _ | assumption | apply Ext.ex' | apply Ext.al | apply Ext.drN | apply Ext.dr)))).mono ?_); rintro e w3 ⟨v3, rfl, hb3, ho3⟩; obtain ⟨x3, rfl⟩ := hb3.get; obtain ⟨A3, c3, rfl, hm3, hn3⟩ := Own.form ho3; clear hb3 hm3 hn3))
    all_goals go_wp2_with fail
    all_goals go_meet
    all_goals exact vis_cut A3 c3 (by repeat (first | exact Ext.refl' _ | assumption | apply Ext.ex' | apply Ext.al | apply Ext.drN | apply Ext.dr)) hown hlast ho3 (by simp [size_ext]; omega) (by simp)
  case rest =>
    obtain ⟨As, cs, y, rfl, rfl, hown, hlast, hss, hp⟩ := hcut
    clear HRA HRB HSA HSB HOP
    obtain ⟨hpl, hpb, hp0, hp1⟩ := box_at hp
    simp only [size_bx] at hpl hpb
    by_cases hs0 : s = []
    · subst hs0
      go_wp2
      go_end0
      rw [← HR.out]
      exact ⟨rfl, _, _, y, rfl, hown, hlast⟩
    · have hsl0 : 0 < s.length := List.length_pos_iff.2 hs0
      have hsb : ((s.length : Int) == 0) = false := by simp; exact hs0
      have HS0 := Lib.hid hs0
      clear hs0
      go_upto_region 3 with fail
      go_cut [33] (fun s33 wx => ∃ z, s33 = .bool (decide (tq = p.1) && decide (s = last)) ∧ wx = ext (bx W bo bl bt (.slice Ao outL.length co) (.slice Al last.length cl) (.int .i64 tq)) z ∧ Own (bx W bo bl bt (.slice Ao outL.length co) (.slice Al last.length cl) (.int .i64 tq)) z 27 4 (.slice Ao outL.length co) outL.length (rcl outL) ∧ Own (bx W bo bl bt (.slice Ao outL.length co) (.slice Al last.length cl) (.int .i64 tq)) z 25 2 (.slice Al last.length cl) last.length (pc last) ∧ Own (bx W bo bl bt (.slice Ao outL.length co) (.slice Al last.length cl) (.int .i64 tq)) z 25 2 (.slice As s.length cs) s.length (pc s) ∧ Own (bx W bo bl bt (.slice Ao outL.length co) (.slice Al last.length cl) (.int .i64 tq)) z 25 2 (.slice (some ⟨W.heap.size + x.n, 0, none⟩) 1 1) 1 (pc [p]))
      case first =>
        by_cases htq : tq = p.1
        · have htb : (tq == p.1) = true := by simp [htq]
          have HD : Hid ((decide (tq = p.1) && decide (s = last)) = decide (s = last)) := Lib.hid (by simp [htq])
          have HTQ := Lib.hid htq
          have HEQ := Lib.hid (fun w h1 h2 => equal_any As Al cs cl s last w h1 h2 (by omega) (by unfold maxLen at hclm; omega))
          have HRs := Lib.hid (fun w' (h : Ext (ext (bx W bo bl bt (.slice Ao outL.length co) (.slice Al last.length cl) (.int .i64 tq)) y) w') => (Rd.of_own hss).ext h)
          have HRl := Lib.hid (fun w' (h : Ext (ext (bx W bo bl bt (.slice Ao outL.length co) (.slice Al last.length cl) (.int .i64 tq)) y) w') => (Rd.of_own hlast).ext h)
          clear htq
          go_wp2_with (go_at_call 75; refine (HEQ.out _ (HRs.out _ (by repeat (first | exact Ext.refl' _ | assumption | apply Ext.ex' | apply Ext.al | apply Ext.drN | apply Ext.dr))) (HRl.out _ (by repeat (first | exact Ext.refl' _ | assumption | apply Ext.ex' | apply Ext.al | apply Ext.drN | apply Ext.dr)))).mono ?_; rintro e w1 ⟨rfl, hb1⟩; obtain ⟨x1, rfl⟩ := hb1.get; clear hb1)
          go_meet
          rw [HD.out]
          exact vis_push (decide (s = last)) (by repeat (first | exact Ext.refl' _ | assumption | apply Ext.ex' | apply Ext.al | apply Ext.drN | apply Ext.dr)) hown hlast hss hp
        · have htb : (tq == p.1) = false := by simp [htq]
          have HD : Hid ((decide (tq = p.1) && decide (s = last)) = false) := Lib.hid (by simp [htq])
          have HTQ := Lib.hid htq
          clear htq
          go_wp2_with fail
          go_meet
          rw [HD.out]
          exact vis_push false (by repeat (first | exact Ext.refl' _ | assumption | apply Ext.ex' | apply Ext.al | apply Ext.drN | apply Ext.dr)) hown hlast hss hp
      case rest =>
        obtain ⟨z, h33, rfl, hown, hlast, hss, hp⟩ := hcut
        by_cases hc : tq = p.1 ∧ s = last
        · rw [show (decide (tq = p.1) && decide (s = last)) = true by simp [hc]] at h33
          subst h33
          have hsn : s.length = last.length := by rw [hc.2]
          have HST : Hid (R = (turn p.2 outL (outL.length - last.length), s, p.2)) := Lib.hid (by rw [← HR.out, stepL, if_neg HS0.out, if_pos hc]; rfl)
          clear HR hc
          obtain ⟨g, rfl, hg1, hg2, _, hgf⟩ := Own.at hown (by omega)
          simp only [size_bx] at hg1 hg2
          have hl0 : 0 < last.length := by omega
          have HSN := Lib.hid hsn
          clear hsn
          go_wp2
          go_loopw [36] (fun s36 wr => ∃ (k : Nat) (x2 : Add), k ≤ last.length ∧ s36 = .int .i64 k ∧ wr = ext (bx W bo bl bt (.slice (some ⟨g, 0, none⟩) outL.length co) (.slice Al last.length cl) (.int .i64 tq)) x2 ∧ Own (bx W bo bl bt (.slice (some ⟨g, 0, none⟩) outL.length co) (.slice Al last.length cl) (.int .i64 tq)) x2 27 4 (.slice (some ⟨g, 0, none⟩) outL.length co) outL.length (rcl (turn p.2 outL (outL.length - k))) ∧ Own (bx W bo bl bt (.slice (some ⟨g, 0, none⟩) outL.length co) (.slice Al last.length cl) (.int .i64 tq)) x2 25 2 (.slice Al last.length cl) last.length (pc last) ∧ Own (bx W bo bl bt (.slice (some ⟨g, 0, none⟩) outL.length co) (.slice Al last.length cl) (.int .i64 tq)) x2 25 2 (.slice As s.length cs) s.length (pc s) ∧ Own (bx W bo bl bt (.slice (some ⟨g, 0, none⟩) outL.length co) (.slice Al last.length cl) (.int .i64 tq)) x2 25 2 (.slice (some ⟨W.heap.size + x.n, 0, none⟩) 1 1) 1 (pc [p])) (fun s36 _ => last.length - (intOf s36).toNat)
          case atStart => exact ⟨0, z, by omega, rfl, rfl, by rw [turn_all _ _ (by omega)]; exact hown, hlast, hss, hp⟩
          case round =>
            obtain ⟨k, x2, hk, rfl, rfl, hown, hlast, hss, hp⟩ := hrel
            obtain ⟨hpl, hpb, hp0, hp1⟩ := box_at hp
            simp only [size_bx] at hpl hpb
            by_cases hlt : k < last.length
            · obtain ⟨x3, hx3, hn3, hown3, hgr3, hc3, hf3⟩ := hown.set ((outL.length - (k + 1)) * 4 + 2 + 1) (.int .i64 p.2)
              obtain ⟨g', hg', _, hg4, hgc, hgf⟩ := Own.at hown (by omega)
              simp only [Option.some.injEq, Addr.mk.injEq, and_true] at hg'
              subst hg'
              simp only [size_bx] at hg4
              have e1 : ((outL.length : Int) - 1 - (k : Int)).toNat = outL.length - (k + 1) := by omega
              have e2 : (0 : Int) ≤ (outL.length : Int) - 1 - (k : Int) := by omega
              have e3 : (outL.length : Int) - 1 - (k : Int) < outL.length := by omega
              have hcx := hgc ((outL.length - (k + 1)) * 4 + 2 + 1) _ (rcl_get (turn p.2 outL (outL.length - k)) (outL.length - (k + 1)) (by rw [turn_length]; omega)).2.2.2
              have HTS : Hid ((rcl (turn p.2 outL (outL.length - k))).set ((outL.length - (k + 1)) * 4 + 2 + 1) (.int .i64 p.2) = rcl (turn p.2 outL (outL.length - (k + 1)))) := Lib.hid (by rw [show outL.length - k = outL.length - (k + 1) + 1 by omega]; exact turn_set p.2 outL _ (by omega))
              rw [HTS.out] at hown3
              clear hc3 hf3 hn3 hgc HTS
              generalize ((turn p.2 outL (outL.length - k))[outL.length - (k + 1)]'(by rw [turn_length]; omega)).2.2 = uo at hcx
              have HL3 : Hid (Own (bx W bo bl bt (.slice (some ⟨g, 0, none⟩) outL.length co) (.slice Al last.length cl) (.int .i64 tq)) x3 25 2 (.slice Al last.length cl) last.length (pc last)) := Lib.hid (World.ownsRow.kept (by exact hlast) hgr3 (by exact own_apart hlast hown (by decide)))
              have HS3 : Hid (Own (bx W bo bl bt (.slice (some ⟨g, 0, none⟩) outL.length co) (.slice Al last.length cl) (.int .i64 tq)) x3 25 2 (.slice As s.length cs) s.length (pc s)) := Lib.hid (World.ownsRow.kept (by exact hss) hgr3 (by exact own_apart hss hown (by decide)))
              have HP3 : Hid (Own (bx W bo bl bt (.slice (some ⟨g, 0, none⟩) outL.length co) (.slice Al last.length cl) (.int .i64 tq)) x3 25 2 (.slice (some ⟨W.heap.size + x.n, 0, none⟩) 1 1) 1 (pc [p])) := Lib.hid (World.ownsRow.kept (by exact hp) hgr3 (by exact own_apart hp hown (by decide)))
              have HO3 := Lib.hid hown3
              clear hgr3 hown3
              go_wp2
              go_roundw
              case rel => exact ⟨k + 1, x3, by omega, by go_num, rfl, HO3.out, HL3.out, HS3.out, HP3.out⟩
              case measure => simp [intOf]; omega
            · obtain rfl : k = last.length := by omega
              have hpA := box_at2 hp
              go_wp2
              go_upto_region 14 with fail
              go_region_held3 (fun w' => w'.cell? ⟨W.heap.size + x.n, 1, none⟩ = some (.int .i64 p.2)) (simp [go_sem, ↓IntWalk.iteOmega, *]) (fail)
              all_goals go_wp2
              all_goals go_end0
              all_goals exact vis_end HST.out (by exact hown) (turn_length _ _ _).symm (by exact hss) (by repeat (first | exact Ext.refl' _ | assumption | apply Ext.ex' | apply Ext.al | apply Ext.drN | apply Ext.dr))
        · rw [show (decide (tq = p.1) && decide (s = last)) = false by simpa using hc] at h33
          subst h33
          have HST : Hid (R = (outL ++ s.map (tag p.1 p.2), s, p.2)) := Lib.hid (by rw [← HR.out, stepL, if_neg HS0.out, if_neg hc])
          clear HR hc
          go_wp2
          go_loopw [53] (fun s53 wr => ∃ (k : Nat) (v2 : Value) (x2 : Add), k ≤ s.length ∧ s53 = .int .i64 k ∧ wr = ext (bx W bo bl bt v2 (.slice Al last.length cl) (.int .i64 tq)) x2 ∧ Own (bx W bo bl bt v2 (.slice Al last.length cl) (.int .i64 tq)) x2 27 4 v2 (outL.length + k) (rcl (outL ++ (s.take k).map (tag p.1 p.2))) ∧ Own (bx W bo bl bt v2 (.slice Al last.length cl) (.int .i64 tq)) x2 25 2 (.slice As s.length cs) s.length (pc s) ∧ Own (bx W bo bl bt v2 (.slice Al last.length cl) (.int .i64 tq)) x2 25 2 (.slice (some ⟨W.heap.size + x.n, 0, none⟩) 1 1) 1 (pc [p])) (fun s53 _ => s.length - (intOf s53).toNat)
          case atStart => exact ⟨0, _, z, by omega, rfl, rfl, by simpa using hown, hss, hp⟩
          case round =>
            obtain ⟨k, v2, x2, hk, rfl, rfl, hown, hss, hp⟩ := hrel
            obtain ⟨hpl, hpb, hp0, hp1⟩ := box_at hp
            simp only [size_bx] at hpl hpb
            by_cases hlt : k < s.length
            · obtain ⟨gs, rfl, hg1, hg2, hq1, hq2⟩ := hss.pairAt hlt
              simp only [size_bx] at hg1 hg2
              have HTK : Hid (rcl (outL ++ (s.take (k + 1)).map (tag p.1 p.2)) = rcl (outL ++ (s.take k).map (tag p.1 p.2)) ++ [.int .i64 s[k].1, .int .i64 s[k].2, .int .i64 p.1, .int .i64 p.2]) := Lib.hid (by rw [List.take_succ_eq_append_getElem hlt, List.map_append, ← List.append_assoc, rcl_append]; rfl)
              generalize s[k] = v at hq1 hq2 HTK
              obtain ⟨A2, c2, rfl, _, _⟩ := Own.form hown
              go_wp2_with (at_builtin; refine wpList_app _ rfl (.tmp 57) (.tmp 61) rfl elRect (bx W bo bl bt (.slice A2 (outL.length + k) c2) (.slice Al last.length cl) (.int .i64 tq)) (by repeat (first | exact Ext.refl' _ | assumption | apply Ext.ex' | apply Ext.al | apply Ext.drN | apply Ext.dr)) (.slice A2 (outL.length + k) c2) (outL.length + k) (rcl (outL ++ (s.take k).map (tag p.1 p.2))) rfl (World.ownsRow.alloc (World.ownsRow.alloc (by exact hown) _) _) _ 1 1 [.int .i64 v.1, .int .i64 v.2, .int .i64 p.1, .int .i64 p.2] rfl (Rd.lit _ _ _ 1 4 rfl (by simp [size_ext])) (oneCell_rcl [tag p.1 p.2 v]) (by unfold maxLen; omega) (by omega) ?_; intro v' x' hown' hgr; obtain ⟨A3, c3, rfl, _, _⟩ := Own.form hown'; have HO3 := Lib.hid hown'; have HS3 := Lib.hid (World.ownsRow.kept (by exact World.ownsRow.alloc (World.ownsRow.alloc hss _) _) hgr (by exact own_apart hss hown (by decide))); have HP3 := Lib.hid (World.ownsRow.kept (by exact World.ownsRow.alloc (World.ownsRow.alloc hp _) _) hgr (by exact own_apart hp hown (by decide))); clear hgr hown')
              go_roundw
              case rel => exact ⟨k + 1, _, x', by omega, by go_num, rfl, by rw [HTK.out]; exact own_base HO3.out (by simp), own_base HS3.out (by simp), own_base HP3.out (by simp)⟩
              case measure => simp [intOf]; omega
            · obtain rfl : k = s.length := by omega
              have hpA := box_at2 hp
              rw [List.take_length] at hown
              obtain ⟨A2, c2, rfl, _, _⟩ := Own.form hown
              go_wp2
              go_upto_region 14 with fail
              go_region_held3 (fun w' => w'.cell? ⟨W.heap.size + x.n, 1, none⟩ = some (.int .i64 p.2)) (simp [go_sem, ↓IntWalk.iteOmega, *]) (fail)
              all_goals go_wp2
              all_goals go_end0
              all_goals exact vis_end HST.out (by exact hown) (by simp) (by exact hss) (by repeat (first | exact Ext.refl' _ | assumption | apply Ext.ex' | apply Ext.al | apply Ext.drN | apply Ext.dr))

end Go.Proofs.YtimhehnmmjgeaaaGreatDoor
