/- The contracts of compare and awake. -/
import Derived.Test.YtflhikpihbenaaaGreatCst
set_option linter.unusedSimpArgs false
set_option linter.unusedVariables false
namespace Go.Proofs.YtflhikpihbenaaaGreat
open Go.RowKit

def v0 : Va := ⟨0, 0, ⟨#[]⟩⟩
def colE (i : Int) : Ex := .mk 2 i v0 ⟨#[]⟩ []
def conE (n : Int) : Ex := .mk 1 0 ⟨1, n, ⟨#[]⟩⟩ ⟨#[]⟩ []
def cmpE (op i n : Int) : Ex := .mk op 0 v0 ⟨#[]⟩ [colE i, conE n]
def CmpPost (op i n : Int) (w : World) (e : Ending) (w' : World) : Prop := ∃ A css, e = .returned (exag op 0 v0 ⟨#[]⟩ A 2 2) ∧ Ext w w' ∧ Rd w' 7 A 2 (List.flatten css) ∧ REs w' [colE i, conE n] css
theorem RE.leaf (w : World) (o i : Int) (v : Va) (hv : v.t.size ≤ 9223372036854775807) : RE w (.mk o i v ⟨#[]⟩ []) (exc o i v ⟨#[]⟩ none 0 0) := by
  rw [RE]
  exact ⟨none, 0, [], rfl, hv, by decide, by decide, by decide, Rd.nil, by rw [REs]⟩
theorem RE.cmp {w : World} {op i n : Int} {A : Option Addr} {css : List (List Value)} (h1 : Rd w 7 A 2 css.flatten) (h2 : REs w [colE i, conE n] css) : RE w (cmpE op i n) (exc op 0 v0 ⟨#[]⟩ A 2 2) := by
  rw [cmpE, RE]
  exact ⟨A, 2, css, rfl, by decide, by decide, by simp, by simp, h1, h2⟩
theorem REs.two {w : World} {a b : Ex} {xa xb : List Value} (ha : RE w a xa) (hb : RE w b xb) : REs w [a, b] [xa, xb] := by
  rw [REs]
  refine ⟨_, _, rfl, ha, ?_⟩
  rw [REs]
  exact ⟨_, _, rfl, hb, by rw [REs]⟩

set_option maxHeartbeats 800000 in
theorem compare_any (op i n : Int) (w : World) : Calls Tryz.prog 17 #[.int .i64 op, .int .i64 i, .int .i64 n] w (CmpPost op i n w) := by
  go_enter Tryz.func17, Tryz.ntmps17
  go_wp2
  refine bodyPost_ret (v := exag op 0 v0 ⟨#[]⟩ (some ⟨w.heap.size + 1, 0, none⟩) 2 2) ?_ rfl ⟨_, [exc 2 i v0 ⟨#[]⟩ none 0 0, exc 1 0 ⟨1, n, ⟨#[]⟩⟩ ⟨#[]⟩ none 0 0], rfl, by repeat (first | exact Ext.refl' _ | assumption | apply Ext.ex' | apply Ext.al | apply Ext.drN | apply Ext.dr), Rd.lit _ _ _ 2 7 rfl (by simp), REs.two (RE.leaf _ _ _ _ (by decide)) (RE.leaf _ _ _ _ (Nat.zero_le _))⟩
  simp [results, Tryz.results17, go_sem, ↓IntWalk.iteOmega, v0]

theorem conds_cmp (op i n : Int) (h : isCmp op = true) (hn : vvB ⟨1, n, ⟨#[]⟩⟩ = true) : conds (cmpE op i n) = [⟨op, i, ⟨1, n, ⟨#[]⟩⟩⟩] := by
  have h5 : (op == 5) = false := by
    simp only [isCmp, Bool.or_eq_true, beq_iff_eq] at h
    simp
    omega
  rw [cmpE, conds, isAnd, h5]
  simp [condF, Ex.op, Ex.args, Ex.i, Ex.v, h, colE, conE, condG, hn]
theorem conds_one : conds (.mk 5 0 v0 ⟨#[]⟩ [cmpE 7 0 1, cmpE 11 1 2]) = [⟨7, 0, ⟨1, 1, ⟨#[]⟩⟩⟩, ⟨11, 1, ⟨1, 2, ⟨#[]⟩⟩⟩] := by
  rw [conds, if_pos (by simp [isAnd, emB, v0]), condss, condss, condss, conds_cmp _ _ _ rfl (by simp [vvB, emB]), conds_cmp _ _ _ rfl (by simp [vvB, emB])]
  rfl
theorem choose_one : chF (prefF (conds (.mk 5 0 v0 ⟨#[]⟩ [cmpE 7 0 1, cmpE 11 1 2])) [0]) (sysF 0 0 0) (0, 1099511627776) = ⟨1, [⟨1, 1, ⟨#[]⟩⟩], (0, 0), (0, 0)⟩ := by
  rw [conds_one]; rfl
theorem choose_two : chF (prefF (conds (.mk 11 0 v0 ⟨#[]⟩ [colE 1, conE 2])) [0]) (sysF 1 40 0) (3, 7) = ⟨3, [], (3, 7), (40, 41)⟩ := by
  rw [show Ex.mk 11 0 v0 ⟨#[]⟩ [colE 1, conE 2] = cmpE 11 1 2 from rfl, conds_cmp _ _ _ rfl (by simp [vvB, emB])]; rfl

theorem held_rect : Tryz.prog.stoodInHeld 48 = false := by kernel_rfl
@[go_sem] theorem guard_rect : Tryz.prog.eqGuardType Tryz.prog.depth 48 = false := by kernel_rfl
@[go_sem high] theorem eql_rect (a b c d a' b' c' d' : Int) (w : World) : (binOp .eql 48 (.agg #[.int .i64 a, .int .i64 b, .int .i64 c, .int .i64 d]) (.agg #[.int .i64 a', .int .i64 b', .int .i64 c', .int .i64 d'])).run Tryz.prog w = .ok (.bool (a == a' && b == b' && c == c' && d == d')) w := by
  simp [go_sem, held_rect, Tryz.underlying48, Bool.and_assoc]
  by_cases h1 : a = a' <;> by_cases h2 : b = b' <;> by_cases h3 : c = c' <;> by_cases h4 : d = d' <;> simp_all

set_option maxRecDepth 100000 in
set_option maxHeartbeats 4000000 in
theorem awake_any (w : World) : Calls Tryz.prog 6 #[] w fun e w' => e = .returned (.bool true) ∧ Ext w w' := by
  go_enter Tryz.func6, Tryz.ntmps6
  go_upto_region 3 with fail
  go_cut [3] (fun s3 wx => ∃ b1 Ab1 cb1, s3 = .pointer (some ⟨b1, 0, none⟩) ∧ Ext w wx ∧ w.heap.size + 4 ≤ wx.heap.size ∧ wx.cell? ⟨w.heap.size + 2, 0, none⟩ = some (.string ⟨#[116]⟩) ∧ wx.cell? ⟨w.heap.size + 2, 1, none⟩ = some (.slice (some ⟨w.heap.size, 0, none⟩) 2 2) ∧ wx.cell? ⟨w.heap.size + 2, 2, none⟩ = some (.slice (some ⟨w.heap.size + 1, 0, none⟩) 1 1) ∧ wx.cell? ⟨w.heap.size + 2, 3, none⟩ = some (.slice none 0 0) ∧ wx.cell? ⟨w.heap.size + 2, 4, none⟩ = some (.slice none 0 0) ∧ Rd wx 1 (some ⟨w.heap.size + 1, 0, none⟩) 1 (ic [0]) ∧ b1 < wx.heap.size ∧ wx.cell? ⟨b1, 0, none⟩ = some (.int .i64 1) ∧ wx.cell? ⟨b1, 1, none⟩ = some (.slice Ab1 1 cb1) ∧ wx.cell? ⟨b1, 2, none⟩ = some (.int .i64 0) ∧ wx.cell? ⟨b1, 3, none⟩ = some (.int .i64 0) ∧ wx.cell? ⟨b1, 4, none⟩ = some (.int .i64 0) ∧ wx.cell? ⟨b1, 5, none⟩ = some (.int .i64 0) ∧ Rd wx 3 Ab1 1 (vcs [⟨1, 1, ⟨#[]⟩⟩]))
  case first =>
    have HK : Hid (∀ W : World, Ext ((w.alloc (.cells #[.string ⟨#[97]⟩, .int .i64 1, .bool false, .string ⟨#[98]⟩, .int .i64 1, .bool false] 60)).alloc (.cells #[.int .i64 0] 3)) W → Rd W 1 (some ⟨w.heap.size + 1, 0, none⟩) 1 (ic [0])) := Lib.hid (fun W h => Rd.ext (Rd.lit _ #[.int .i64 0] _ 1 1 rfl (by simp)) h)
    go_region_held3 (fun w' => w'.cell? ⟨w.heap.size + 2, 0, none⟩ = some (.string ⟨#[116]⟩) ∧ w'.cell? ⟨w.heap.size + 2, 1, none⟩ = some (.slice (some ⟨w.heap.size, 0, none⟩) 2 2) ∧ w'.cell? ⟨w.heap.size + 2, 2, none⟩ = some (.slice (some ⟨w.heap.size + 1, 0, none⟩) 1 1) ∧ w'.cell? ⟨w.heap.size + 2, 3, none⟩ = some (.slice none 0 0) ∧ w'.cell? ⟨w.heap.size + 2, 4, none⟩ = some (.slice none 0 0) ∧ w'.cell? ⟨w.heap.size + 3, 0, none⟩ = some (.int .i64 0) ∧ w'.cell? ⟨w.heap.size + 3, 1, none⟩ = some (.int .i64 1099511627776)) (simp [go_sem, ↓IntWalk.iteOmega, *])
      (first
      | (go_at_call 17; refine (compare_any _ _ _ _).mono ?_; first | (have h9 := hr1; rintro e w1 ⟨A2, css2, rfl, hb1, hr2, hs2⟩; obtain ⟨x2, rfl⟩ := hb1.get; clear hb1 h9) | (rintro e w1 ⟨A1, css1, rfl, hb1, hr1, hs1⟩; obtain ⟨x1, rfl⟩ := hb1.get; clear hb1))
      | (go_at_call 11; (refine (choose_any ⟨#[116]⟩ (some ⟨w.heap.size, 0, none⟩) none none 2 2 0 0 0 0 (some ⟨w.heap.size + 1, 0, none⟩) [0] 1 5 0 v0 ⟨#[]⟩ _ [cmpE 7 0 1, cmpE 11 1 2] 2 [exc 7 0 v0 ⟨#[]⟩ A1 2 2, exc 11 0 v0 ⟨#[]⟩ A2 2 2] 0 0 0 (0, 1099511627776) _ (HK.out _ (by repeat (first | exact Ext.refl' _ | assumption | apply Ext.ex' | apply Ext.al | apply Ext.drN | apply Ext.dr))) (by decide) (by first | exact Rd.lit _ _ _ 2 7 rfl (by simp) | exact Rd.ext (Rd.lit _ _ _ 2 7 rfl (by simp)) (Ext.al1 _ _)) (REs.two (RE.cmp (hr1.ext (by repeat (first | exact Ext.refl' _ | assumption | apply Ext.ex' | apply Ext.al | apply Ext.drN | apply Ext.dr))) (REs.ext (by repeat (first | exact Ext.refl' _ | assumption | apply Ext.ex' | apply Ext.al | apply Ext.drN | apply Ext.dr)) hs1)) (RE.cmp (hr2.ext (by repeat (first | exact Ext.refl' _ | assumption | apply Ext.ex' | apply Ext.al | apply Ext.drN | apply Ext.dr))) (REs.ext (by repeat (first | exact Ext.refl' _ | assumption | apply Ext.ex' | apply Ext.al | apply Ext.drN | apply Ext.dr)) hs2))) (by simp) (by rw [conds_one]; decide) (by decide) (by decide) (by decide) (by decide)).mono ?_; rw [choose_one]; rintro e w1 ⟨A3, c3, rfl, hb1, ho3⟩; obtain ⟨x3, rfl⟩ := hb1.get; clear hb1)))
    all_goals go_wp2_with fail
    all_goals go_meet
    all_goals exact ⟨_, A3, c3, rfl, by repeat (first | exact Ext.refl' _ | assumption | apply Ext.ex' | apply Ext.al | apply Ext.drN | apply Ext.dr), by (try simp); (try omega), by simp [go_sem, ↓IntWalk.iteOmega], by simp [go_sem, ↓IntWalk.iteOmega], by simp [go_sem, ↓IntWalk.iteOmega], by simp [go_sem, ↓IntWalk.iteOmega], by simp [go_sem, ↓IntWalk.iteOmega], HK.out _ (by repeat (first | exact Ext.refl' _ | assumption | apply Ext.ex' | apply Ext.al | apply Ext.drN | apply Ext.dr)), by (try simp); (try omega), by simp [go_sem, ↓IntWalk.iteOmega], by simp [go_sem, ↓IntWalk.iteOmega], by simp [go_sem, ↓IntWalk.iteOmega], by simp [go_sem, ↓IntWalk.iteOmega], by simp [go_sem, ↓IntWalk.iteOmega], by simp [go_sem, ↓IntWalk.iteOmega], by first | exact Rd.of_own (own_base ho3 (by simp)) | exact Rd.ext (Rd.of_own ho3) (by repeat (first | exact Ext.refl' _ | assumption | apply Ext.ex' | apply Ext.al | apply Ext.drN | apply Ext.dr))⟩
  case rest =>
    obtain ⟨b1, Ab1, cb1, rfl, hE, hsz, t0, t1, t2, t3, t4, hK, hb1, p0, p1, p2, p3, p4, p5, hr⟩ := hcut
    go_upto_region 4 with fail
    go_cut [4] (fun s4 wx => ∃ b2 Ab2 cb2, s4 = .pointer (some ⟨b2, 0, none⟩) ∧ Ext w wx ∧ b1 < wx.heap.size ∧ wx.cell? ⟨b1, 0, none⟩ = some (.int .i64 1) ∧ wx.cell? ⟨b1, 1, none⟩ = some (.slice Ab1 1 cb1) ∧ wx.cell? ⟨b1, 2, none⟩ = some (.int .i64 0) ∧ wx.cell? ⟨b1, 3, none⟩ = some (.int .i64 0) ∧ wx.cell? ⟨b1, 4, none⟩ = some (.int .i64 0) ∧ wx.cell? ⟨b1, 5, none⟩ = some (.int .i64 0) ∧ Rd wx 3 Ab1 1 (vcs [⟨1, 1, ⟨#[]⟩⟩]) ∧ b2 < wx.heap.size ∧ wx.cell? ⟨b2, 0, none⟩ = some (.int .i64 3) ∧ wx.cell? ⟨b2, 1, none⟩ = some (.slice Ab2 0 cb2) ∧ wx.cell? ⟨b2, 2, none⟩ = some (.int .i64 3) ∧ wx.cell? ⟨b2, 3, none⟩ = some (.int .i64 7) ∧ wx.cell? ⟨b2, 4, none⟩ = some (.int .i64 40) ∧ wx.cell? ⟨b2, 5, none⟩ = some (.int .i64 41))
    case first =>
      go_region_held3 (fun w' => w'.cell? ⟨w.heap.size + 2, 0, none⟩ = some (.string ⟨#[116]⟩) ∧ w'.cell? ⟨w.heap.size + 2, 1, none⟩ = some (.slice (some ⟨w.heap.size, 0, none⟩) 2 2) ∧ w'.cell? ⟨w.heap.size + 2, 2, none⟩ = some (.slice (some ⟨w.heap.size + 1, 0, none⟩) 1 1) ∧ w'.cell? ⟨w.heap.size + 2, 3, none⟩ = some (.slice none 0 0) ∧ w'.cell? ⟨w.heap.size + 2, 4, none⟩ = some (.slice none 0 0)) (simp [go_sem, ↓IntWalk.iteOmega, *])
        (first
        | (go_at_call 17; refine (compare_any _ _ _ _).mono ?_; rintro e w1 ⟨A1, css1, rfl, hb1', hr1, hs1⟩; obtain ⟨x1, rfl⟩ := hb1'.get; clear hb1')
        | (go_at_call 11; (refine (choose_any ⟨#[116]⟩ (some ⟨w.heap.size, 0, none⟩) none none 2 2 0 0 0 0 (some ⟨w.heap.size + 1, 0, none⟩) [0] 1 11 0 v0 ⟨#[]⟩ A1 [colE 1, conE 2] 2 css1 1 40 0 (3, 7) _ (hK.ext (by repeat (first | exact Ext.refl' _ | assumption | apply Ext.ex' | apply Ext.al | apply Ext.drN | apply Ext.dr))) (by decide) (hr1.ext (by repeat (first | exact Ext.refl' _ | assumption | apply Ext.ex' | apply Ext.al | apply Ext.drN | apply Ext.dr))) (REs.ext (by repeat (first | exact Ext.refl' _ | assumption | apply Ext.ex' | apply Ext.al | apply Ext.drN | apply Ext.dr)) hs1) (by simp) (by rw [show Ex.mk 11 0 v0 ⟨#[]⟩ [colE 1, conE 2] = cmpE 11 1 2 from rfl, conds_cmp _ _ _ rfl (by simp [vvB, emB])]; decide) (by decide) (by decide) (by decide) (by decide)).mono ?_; rw [choose_two]; rintro e w1 ⟨A3, c3, rfl, hb1', ho3⟩; obtain ⟨x3, rfl⟩ := hb1'.get; clear hb1')))
      all_goals go_wp2_with fail
      all_goals go_meet
      all_goals exact ⟨_, A3, c3, rfl, hE.tr (by repeat (first | exact Ext.refl' _ | assumption | apply Ext.ex' | apply Ext.al | apply Ext.drN | apply Ext.dr)), by (try simp); (try omega), by simp [go_sem, ↓IntWalk.iteOmega, *], by simp [go_sem, ↓IntWalk.iteOmega, *], by simp [go_sem, ↓IntWalk.iteOmega, *], by simp [go_sem, ↓IntWalk.iteOmega, *], by simp [go_sem, ↓IntWalk.iteOmega, *], by simp [go_sem, ↓IntWalk.iteOmega, *], hr.ext (by repeat (first | exact Ext.refl' _ | assumption | apply Ext.ex' | apply Ext.al | apply Ext.drN | apply Ext.dr)), by (try simp); (try omega), by simp [go_sem, ↓IntWalk.iteOmega, *], by simp [go_sem, ↓IntWalk.iteOmega, *], by simp [go_sem, ↓IntWalk.iteOmega, *], by simp [go_sem, ↓IntWalk.iteOmega, *], by simp [go_sem, ↓IntWalk.iteOmega, *], by simp [go_sem, ↓IntWalk.iteOmega, *]⟩
    case rest =>
      obtain ⟨b2, Ab2, cb2, rfl, hE2, hb1', q0, q1, q2, q3, q4, q5, hr2, hb2, r0, r1, r2, r3, r4, r5⟩ := hcut
      obtain ⟨bb, oo, rfl, hbb, hcc⟩ := hr2.2 (by decide)
      have d1 := hcc 1 (.int .i64 1) rfl
      clear hr2 hcc
      go_wp2_with (first
        | (go_at_call 18; (refine (cost_any 1 _ 1 cb1 0 0 0 0 100 _ (by decide) (by decide) (by decide)).mono ?_; rintro e w1 ⟨rfl, hb1'⟩; obtain ⟨x1, rfl⟩ := hb1'.get; clear hb1')))
      all_goals go_ret
      all_goals exact ⟨rfl, hE2.tr (by repeat (first | exact Ext.refl' _ | assumption | apply Ext.ex' | apply Ext.al | apply Ext.drN | apply Ext.dr))⟩
end Go.Proofs.YtflhikpihbenaaaGreat
