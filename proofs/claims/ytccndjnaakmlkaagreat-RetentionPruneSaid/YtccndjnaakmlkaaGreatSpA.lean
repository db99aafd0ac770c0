/- The contracts of the small functions of periods and spans, of the program and of the reference. -/
import Derived.Test.YtccndjnaakmlkaaGreatBase
import Derived.Test.YtccndjnaakmlkaaGreatOwn
import Derived.Test.YtccndjnaakmlkaaGreatSpQ
import Derived.StillTailTactics
set_option linter.unusedSimpArgs false
set_option linter.unusedVariables false
namespace Go.Proofs.YtccndjnaakmlkaaGreat
open Go.RowKit


/-- a struct of two ints -/
abbrev pr (p : Int × Int) : Value := .agg #[.int .i64 p.1, .int .i64 p.2]
theorem ne_i {a b : Int} (h : (a != b) = true) : a ≠ b := by simpa using h
theorem eq_i {a b : Int} (h : (a != b) = false) : a = b := by simpa using h
theorem ne_p {a b : Int × Int} (h : (!a.1 == b.1) = true ∨ (!a.2 == b.2) = true) : a ≠ b := by
  rintro rfl; simp at h
theorem eq_p {a b : Int × Int} (h : (!a.1 == b.1) = false ∧ (!a.2 == b.2) = false) : a = b := by
  simp at h; exact Prod.ext h.1 h.2
theorem held_period : Tryz.prog.stoodInHeld 25 = false := by kernel_rfl
@[go_sem] theorem guard_period : Tryz.prog.eqGuardType Tryz.prog.depth 25 = false := by kernel_rfl
@[go_sem high] theorem neq_period (a b c d : Int) (w : World) : (binOp .neq 25 (.agg #[.int .i64 a, .int .i64 b]) (.agg #[.int .i64 c, .int .i64 d])).run Tryz.prog w = .ok (.bool (!(a == c && b == d))) w := by
  simp [go_sem, held_period, Tryz.underlying25]
  by_cases h1 : a = c <;> by_cases h2 : b = d <;> simp [h1, h2]
@[go_sem high] theorem eql_period (a b c d : Int) (w : World) : (binOp .eql 25 (.agg #[.int .i64 a, .int .i64 b]) (.agg #[.int .i64 c, .int .i64 d])).run Tryz.prog w = .ok (.bool (a == c && b == d)) w := by
  simp [go_sem, held_period, Tryz.underlying25]
  by_cases h1 : a = c <;> by_cases h2 : b = d <;> simp [h1, h2]
theorem elInt : El Tryz.prog 60 3 (.int .i64 0) 1 8 := ⟨Tryz.underlying60, info_parts (by kernel_rfl), rfl, by decide⟩
theorem elPeriod : El Tryz.prog 71 25 (.agg #[.int .i64 0, .int .i64 0]) 2 16 := ⟨Tryz.underlying71, info_parts (by kernel_rfl), rfl, by decide⟩

/-- a row that can be read -/
def RdP (sz n : Nat) (xs : List Value) (w : World) (e : Ending) (w' : World) : Prop := ∃ A c, e = .returned (.slice A n c) ∧ Ext w w' ∧ Rd w' sz A n xs
def povB (p q : Int × Int) : Bool := pvB p && pvB q && decide (p.1 < q.2) && decide (q.1 < p.2)
def pcoB (p q : Int × Int) : Bool := pvB p && pvB q && decide (p.1 ≤ q.1) && decide (q.2 ≤ p.2)


set_option maxHeartbeats 400000 in
theorem pvalid_any (p : Int × Int) (w : World) :
    Calls Tryz.prog 45 #[pr p] w fun e w' => e = .returned (.bool (pvB p)) ∧ Ext w w' := by
  go_enter Tryz.func45, Tryz.ntmps45
  go_wp2
  all_goals go_ret
  all_goals refine ⟨?_, Ext.al1 _ _⟩
  all_goals simp_all [pvB]
  all_goals omega


set_option maxHeartbeats 400000 in
theorem rvalid_any (p : Int × Int) (w : World) :
    Calls Tryz.prog 48 #[pr p] w fun e w' => e = .returned (.bool (pvB p)) ∧ Ext w w' := by
  go_enter Tryz.func48, Tryz.ntmps48
  go_wp2
  all_goals go_ret
  all_goals refine ⟨?_, Ext.al1 _ _⟩
  all_goals simp_all [pvB]
  all_goals omega

set_option maxHeartbeats 400000 in
theorem rcontains_any (p : Int × Int) (t : Int) (w : World) : Calls Tryz.prog 38 #[pr p, .int .i64 t] w fun e w' => e = .returned (.bool (inP p t)) ∧ Ext w w' := by
  go_enter Tryz.func38, Tryz.ntmps38
  go_wp2_with (go_at_call 48; refine (rvalid_any _ _).mono ?_; rintro e w1 ⟨rfl, hb1⟩; obtain ⟨x1, rfl⟩ := hb1.get; clear hb1)
  all_goals go_ret
  all_goals refine ⟨?_, by repeat (first | exact Ext.refl' _ | assumption | apply Ext.ex' | apply Ext.al | apply Ext.drN | apply Ext.dr)⟩
  all_goals simp_all [inP]
  all_goals omega

set_option maxHeartbeats 800000 in
theorem same_any (A B : Option Addr) (c d : Nat) (l m : List (Int × Int)) (w : World) (hA : Rd w 2 A l.length (pc l)) (hB : Rd w 2 B m.length (pc m)) (hl : l.length ≤ 9223372036854775807) (hm : m.length ≤ 9223372036854775807) :
    Calls Tryz.prog 62 #[.slice A l.length c, .slice B m.length d] w fun e w' => e = .returned (.bool (decide (l = m))) ∧ Ext w w' := by
  go_enter Tryz.func62, Tryz.ntmps62
  by_cases hn : l.length = m.length
  · have hb : ((l.length : Int) != (m.length : Int)) = false := by simp [hn]
    have HN := Lib.hid hn
    clear hn
    go_wp2
    go_loopw [5] (fun i wr => ∃ k : Nat, k ≤ l.length ∧ i = .int .i64 k ∧ Hid (l.take k = m.take k) ∧ Ext w wr) (fun i _ => l.length - (intOf i).toNat)
    case atStart => exact ⟨0, Nat.zero_le _, rfl, Lib.hid (by simp), Ext.refl' _⟩
    case round =>
      obtain ⟨k, hk, rfl, HT, hext⟩ := hrel
      obtain ⟨x, rfl⟩ := hext.get
      clear hext
      by_cases hlt : k < l.length
      · obtain ⟨b, o, rfl, hb, hc, hc2⟩ := hA.pair rfl hlt
        have hlt' : k < m.length := by have := HN.out; omega
        obtain ⟨b', o', rfl, hb', hd, hd2⟩ := hB.pair rfl hlt'
        go_wp2
        go_quiet (fail)
        go_wp2
        all_goals first
          | (go_ret
             refine ⟨?_, by repeat (first | exact Ext.refl' _ | assumption | apply Ext.ex' | apply Ext.al | apply Ext.drN | apply Ext.dr)⟩
             have hne : l ≠ m := take_ne hlt hlt' (ne_p (by assumption))
             simp [hne])
          | (go_roundw
             case rel => exact ⟨k + 1, by omega, by go_num, Lib.hid (take_succ_eq hlt hlt' HT.out (eq_p (by assumption))), by repeat (first | exact Ext.refl' _ | assumption | apply Ext.ex' | apply Ext.al | apply Ext.drN | apply Ext.dr)⟩
             case measure => simp [intOf]; omega)
      · go_wp2
        go_ret
        exact ⟨by rw [eq_of_takes HN.out hlt HT.out]; simp, Ext.ex _ _⟩
  · have hb : ((l.length : Int) != (m.length : Int)) = true := by simp; omega
    have hlm : decide (l = m) = false := by simp; rintro rfl; exact hn rfl
    rw [hlm]
    clear hn hlm
    go_wp2
    go_ret
    exact ⟨rfl, Ext.refl' _⟩


theorem inL_drop {l : List (Int × Int)} {k : Nat} (h : k < l.length) (t : Int) : inL (l.drop k) t = (inP l[k] t || inL (l.drop (k + 1)) t) := by
  rw [List.drop_eq_getElem_cons h, inL_cons]


set_option maxHeartbeats 800000 in
theorem rcont_any (A : Option Addr) (c : Nat) (l : List (Int × Int)) (t : Int) (w : World) (hA : Rd w 2 A l.length (pc l)) (hl : l.length ≤ 9223372036854775807) :
    Calls Tryz.prog 90 #[.slice A l.length c, .int .i64 t] w fun e w' => e = .returned (.bool (inL l t)) ∧ Ext w w' := by
  go_enter Tryz.func90, Tryz.ntmps90
  go_wp2
  go_loopw [5] (fun i wr => ∃ k : Nat, k ≤ l.length ∧ i = .int .i64 k ∧ Hid (inL l t = inL (l.drop k) t) ∧ Ext w wr) (fun i _ => l.length - (intOf i).toNat)
  case atStart => exact ⟨0, Nat.zero_le _, rfl, Lib.hid (by simp), Ext.refl' _⟩
  case round =>
    obtain ⟨k, hk, rfl, HT, hext⟩ := hrel
    obtain ⟨x, rfl⟩ := hext.get
    clear hext
    by_cases hlt : k < l.length
    · obtain ⟨b, o, rfl, hb, hc, hc2⟩ := hA.pair rfl hlt
      have HD := Lib.hid (inL_drop hlt t)
      generalize l[k] = p at hc hc2 HD
      go_wp2_with (go_at_call 38; refine (rcontains_any p _ _).mono ?_; rintro e w1 ⟨rfl, hb1⟩; obtain ⟨x1, rfl⟩ := hb1.get; clear hb1)
      all_goals first
        | (go_ret
           exact ⟨by rw [HT.out, HD.out, (by assumption : inP p t = true)]; rfl, by repeat (first | exact Ext.refl' _ | assumption | apply Ext.ex' | apply Ext.al | apply Ext.drN | apply Ext.dr)⟩)
        | (go_roundw
           case rel => exact ⟨k + 1, by omega, by go_num, Lib.hid (by rw [HT.out, HD.out, (by assumption : inP p t = false)]; rfl), by repeat (first | exact Ext.refl' _ | assumption | apply Ext.ex' | apply Ext.al | apply Ext.drN | apply Ext.dr)⟩
           case measure => simp [intOf]; omega)
    · have H0 : Hid (inL l t = false) := Lib.hid (by rw [HT.out, List.drop_eq_nil_of_le (Nat.le_of_not_lt hlt)]; rfl)
      go_wp2
      go_ret
      exact ⟨by rw [H0.out]; rfl, Ext.ex _ _⟩


theorem inP_t {p : Int × Int} {t : Int} (h : pvB p = true) (h1 : p.1 ≤ t) (h2 : t < p.2) : inP p t = true := by simp [inP, h, h1, h2]
theorem inP_f1 {p : Int × Int} {t : Int} (h : pvB p = false) : inP p t = false := by simp [inP, h]
theorem inP_f2 {p : Int × Int} {t : Int} (h : t < p.1) : inP p t = false := by simp [inP]; omega
theorem inP_f3 {p : Int × Int} {t : Int} (h : p.2 ≤ t) : inP p t = false := by simp [inP]; omega
end Go.Proofs.YtccndjnaakmlkaaGreat
