/- The contract of predicate.condition. -/
import Derived.Test.YtflhikpihbenaaaGreatExp
import Derived.BigRegion
import Derived.Deep.DeepCutAuto
import Derived.Deep.CutBlock
set_option linter.unusedSimpArgs false
set_option linter.unusedVariables false
namespace Go.Proofs.YtflhikpihbenaaaGreat
open Go.RowKit

abbrev cdag (c : Cd) : Value := .agg #[.int .i64 c.op, .int .i64 c.col, .int .i64 c.v.k, .int .i64 c.v.i, .string c.v.t]
def cdz : Cd := ⟨0, 0, ⟨0, 0, ⟨#[]⟩⟩⟩
theorem cd_of {a b : Ex} {op : Int} (h1 : a.op = 2) (h2 : b.op = 1) (h3 : b.v.k ≠ 0) (h4 : vvB b.v = true) : condG a b op = some ⟨op, a.i, b.v⟩ := by simp [condG, h1, h2, h3, h4]
theorem cd_no {a b : Ex} {op : Int} (h : ¬ (a.op = 2 ∧ b.op = 1 ∧ b.v.k ≠ 0 ∧ vvB b.v = true)) : condG a b op = none := by simp [condG, h]

theorem condF_two {o i : Int} {v : Va} {nm : ByteArray} {a b : Ex} (h : isCmp o = true) : condF (.mk o i v nm [a, b]) = if a.op = 1 then condG b a (mirF o) else condG a b o := by
  have e : condF (.mk o i v nm [a, b]) = if isCmp o = false then none else if a.op = 1 then condG b a (mirF o) else condG a b o := rfl
  rw [e, if_neg (by simp [h])]
/-- what condition returns -/
def CPost (w : World) (r : Option Cd) (e : Ending) (w' : World) : Prop := e = .returned (.tuple #[cdag (r.getD cdz), .bool r.isSome]) ∧ Ext w w'

set_option maxHeartbeats 4000000 in
theorem condition_two (o i : Int) (v : Va) (nm : ByteArray) (A : Option Addr) (a b : Ex) (c : Nat) (css : List (List Value)) (w : World) (hR : Rd w 7 A 2 css.flatten) (hs : REs w [a, b] css) (hcmp : isCmp o = true) :
    Calls Tryz.prog 70 #[exag o i v nm A 2 c] w (CPost w (condF (.mk o i v nm [a, b]))) := by
  obtain ⟨b0, o0, rfl, hb0, A1, c1, css1, p0, p1, p2, p3, p4, p5, p6, p7, p8, p9, p10, p11, p12⟩ := RE.arg (args := [a, b]) hR hs (k := 0) (by simp)
  obtain ⟨b1, o1, he, hb1, A2, c2, css2, q0, q1, q2, q3, q4, q5, q6, q7, q8, q9, q10, q11, q12⟩ := RE.arg (args := [a, b]) hR hs (k := 1) (by simp)
  simp only [Option.some.injEq, Addr.mk.injEq, and_true] at he
  obtain ⟨rfl, rfl⟩ := he
  simp only [List.getElem_cons_zero, List.getElem_cons_succ, Nat.zero_mul, Nat.add_zero, Nat.one_mul] at p0 p1 p2 p3 p4 p5 p6 p7 p8 p9 p10 p11 p12 q0 q1 q2 q3 q4 q5 q6 q7 q8 q9 q10 q11 q12
  have HP7 := Lib.hid p7
  have HQ7 := Lib.hid q7
  clear p8 p9 p10 p11 p12 q8 q9 q10 q11 q12 hR hs p7 q7
  have HF : Hid (condF (.mk o i v nm [a, b]) = if a.op = 1 then condG b a (mirF o) else condG a b o) := Lib.hid (condF_two hcmp)
  generalize condF (.mk o i v nm [a, b]) = r at HF ⊢
  go_enter Tryz.func70, Tryz.ntmps70
  go_upto_block 0 with fail
  go_cut [10] (fun s10 wx => s10 = .bool true ∧ wx = (w.alloc (.cells #[.int .i64 o, .int .i64 i, .int .i64 v.k, .int .i64 v.i, .string v.t, .string nm, .slice (some ⟨b0, o0, none⟩) 2 c] 31)).alloc (.cells #[.int .i64 0, .int .i64 0, .int .i64 0, .int .i64 0, .string ⟨#[]⟩] 96))
  case first =>
    have hsw : (o == 7) = true ∨ ((o == 7) = false ∧ (o == 9) = true) ∨ ((o == 7) = false ∧ (o == 9) = false ∧ (o == 10) = true) ∨ ((o == 7) = false ∧ (o == 9) = false ∧ (o == 10) = false ∧ (o == 11) = true) ∨ ((o == 7) = false ∧ (o == 9) = false ∧ (o == 10) = false ∧ (o == 11) = false ∧ (o == 12) = true) := by
      simp only [isCmp, Bool.or_eq_true] at hcmp; revert hcmp
      cases o == 7 <;> cases o == 9 <;> cases o == 10 <;> cases o == 11 <;> cases o == 12 <;> simp
    rcases hsw with h7 | ⟨h7, h9⟩ | ⟨h7, h9, h10⟩ | ⟨h7, h9, h10, h11⟩ | ⟨h7, h9, h10, h11, h12⟩
    all_goals (go_wp2; go_meet; exact ⟨rfl, rfl⟩)
  case rest =>
    obtain ⟨rfl, rfl⟩ := hcut
    go_wp2_with fail
    go_region_held3 (fun w' => w'.cell? ⟨w.heap.size, 0, none⟩ = some (.int .i64 o) ∧ w'.cell? ⟨w.heap.size, 6, none⟩ = some (.slice (some ⟨b0, o0, none⟩) 2 c) ∧ w'.cell? ⟨b0, o0, none⟩ = some (.int .i64 a.op) ∧ w'.cell? ⟨b0, o0 + 1, none⟩ = some (.int .i64 a.i) ∧ w'.cell? ⟨b0, o0 + 2, none⟩ = some (.int .i64 a.v.k) ∧ w'.cell? ⟨b0, o0 + 3, none⟩ = some (.int .i64 a.v.i) ∧ w'.cell? ⟨b0, o0 + 4, none⟩ = some (.string a.v.t) ∧ w'.cell? ⟨b0, o0 + 5, none⟩ = some (.string a.nm) ∧ w'.cell? ⟨b0, o0 + 6, none⟩ = some (.slice A1 a.args.length c1) ∧ w'.cell? ⟨b0, o0 + 7, none⟩ = some (.int .i64 b.op) ∧ w'.cell? ⟨b0, o0 + 7 + 1, none⟩ = some (.int .i64 b.i) ∧ w'.cell? ⟨b0, o0 + 7 + 2, none⟩ = some (.int .i64 b.v.k) ∧ w'.cell? ⟨b0, o0 + 7 + 3, none⟩ = some (.int .i64 b.v.i) ∧ w'.cell? ⟨b0, o0 + 7 + 4, none⟩ = some (.string b.v.t) ∧ w'.cell? ⟨b0, o0 + 7 + 5, none⟩ = some (.string b.nm) ∧ w'.cell? ⟨b0, o0 + 7 + 6, none⟩ = some (.slice A2 b.args.length c2)) (simp [go_sem, ↓IntWalk.iteOmega, *])
      (fail)
    · go_upto_if 33 with fail
      go_cut [6] (fun s6 wx => (a.op = 1 ∧ s6 = .int .i64 (mirF o) ∧ ∃ m, wx = World.drewN ((((w.alloc (.cells #[.int .i64 o, .int .i64 i, .int .i64 v.k, .int .i64 v.i, .string v.t, .string nm, .slice (some ⟨b0, o0, none⟩) 2 c] 31)).alloc (.cells #[.int .i64 0, .int .i64 0, .int .i64 0, .int .i64 0, .string ⟨#[]⟩] 96)).alloc (.cells #[.int .i64 b.op, .int .i64 b.i, .int .i64 b.v.k, .int .i64 b.v.i, .string b.v.t, .string b.nm, .slice A2 b.args.length c2] 31)).alloc (.cells #[.int .i64 a.op, .int .i64 a.i, .int .i64 a.v.k, .int .i64 a.v.i, .string a.v.t, .string a.nm, .slice A1 a.args.length c1] 31)) m) ∨ (¬ a.op = 1 ∧ s6 = .int .i64 o ∧ ∃ m, wx = World.drewN ((((w.alloc (.cells #[.int .i64 o, .int .i64 i, .int .i64 v.k, .int .i64 v.i, .string v.t, .string nm, .slice (some ⟨b0, o0, none⟩) 2 c] 31)).alloc (.cells #[.int .i64 0, .int .i64 0, .int .i64 0, .int .i64 0, .string ⟨#[]⟩] 96)).alloc (.cells #[.int .i64 a.op, .int .i64 a.i, .int .i64 a.v.k, .int .i64 a.v.i, .string a.v.t, .string a.nm, .slice A1 a.args.length c1] 31)).alloc (.cells #[.int .i64 b.op, .int .i64 b.i, .int .i64 b.v.k, .int .i64 b.v.i, .string b.v.t, .string b.nm, .slice A2 b.args.length c2] 31)) m))
      case first =>
        by_cases hc1 : a.op = 1
        · have hc1b : (a.op == 1) = true := by simp [hc1]
          have HC1 := Lib.hid hc1
          clear hc1
          go_wp2_with fail
          go_region_with ((go_at_call 77; refine (mirrored_any _ _).mono ?_; rintro e w1 ⟨rfl, rfl⟩))
          all_goals (go_wp2; go_meet; exact .inl ⟨HC1.out, rfl, 2, rfl⟩)
        · have hc1b : (a.op == 1) = false := by simp [hc1]
          go_wp2
          go_meet
          exact .inr ⟨hc1, rfl, 1, rfl⟩
      case rest =>
        rcases hcut with ⟨hc1, rfl, m, rfl⟩ | ⟨hc1, rfl, m, rfl⟩
        · have HF2 : Hid (r = condG b a (mirF o)) := Lib.hid (by rw [HF.out, if_pos hc1])
          clear HF
          rcases (show (¬ b.op = 2) ∨ (b.op = 2 ∧ a.op = 1 ∧ a.v.k = 0) ∨ (b.op = 2 ∧ a.op = 1 ∧ ¬ a.v.k = 0 ∧ vvB a.v = false) ∨ (b.op = 2 ∧ a.op = 1 ∧ ¬ a.v.k = 0 ∧ vvB a.v = true) from by
              rcases hv : vvB a.v with _ | _ <;> simp <;> omega) with h1 | ⟨h1, h2, h3⟩ | ⟨h1, h2, h3, h4⟩ | ⟨h1, h2, h3, h4⟩
          all_goals have HC1 := Lib.hid hc1
          all_goals clear hc1
          · have HR : Hid (r = none) := Lib.hid (by rw [HF2.out, cd_no (fun hh => h1 hh.1)])
            clear HF2
            have hf0 : (b.op != 2) = true := by simp [h1]
            have Hh1 := Lib.hid h1; clear h1
            go_wp2_with (go_at_call 78; (refine (vvalid_any a.v _ HP7.out).mono ?_; rintro e w1 ⟨rfl, hx1⟩; obtain ⟨x1, rfl⟩ := hx1.get; clear hx1))
            refine bodyPost_ret (v := .tuple #[cdag (r.getD cdz), .bool r.isSome]) ?_ rfl ⟨rfl, by repeat (first | exact Ext.refl' _ | assumption | apply Ext.ex' | apply Ext.al | apply Ext.drN | apply Ext.dr)⟩
            rw [HR.out]
            simp [results, Tryz.results70, go_sem, ↓IntWalk.iteOmega, cdz]
          · have HR : Hid (r = none) := Lib.hid (by rw [HF2.out, cd_no (fun hh => hh.2.2.1 h3)])
            clear HF2
            have hf0 : (b.op != 2) = false := by simp [h1]
            have hf1 : (a.op != 1) = false := by simp [h1, h2]
            have hf2 : (a.v.k == 0) = true := by simp [h1, h2, h3]
            have Hh1 := Lib.hid h1; clear h1
            have Hh2 := Lib.hid h2; clear h2
            have Hh3 := Lib.hid h3; clear h3
            go_wp2_with (go_at_call 78; (refine (vvalid_any a.v _ HP7.out).mono ?_; rintro e w1 ⟨rfl, hx1⟩; obtain ⟨x1, rfl⟩ := hx1.get; clear hx1))
            refine bodyPost_ret (v := .tuple #[cdag (r.getD cdz), .bool r.isSome]) ?_ rfl ⟨rfl, by repeat (first | exact Ext.refl' _ | assumption | apply Ext.ex' | apply Ext.al | apply Ext.drN | apply Ext.dr)⟩
            rw [HR.out]
            simp [results, Tryz.results70, go_sem, ↓IntWalk.iteOmega, cdz]
          · have HR : Hid (r = none) := Lib.hid (by rw [HF2.out, cd_no (fun hh => by rw [h4] at hh; exact absurd hh.2.2.2 (by decide))])
            clear HF2
            have hf0 : (b.op != 2) = false := by simp [h1]
            have hf1 : (a.op != 1) = false := by simp [h1, h2]
            have hf2 : (a.v.k == 0) = false := by simp [h1, h2, h3]
            have Hh1 := Lib.hid h1; clear h1
            have Hh2 := Lib.hid h2; clear h2
            have Hh3 := Lib.hid h3; clear h3
            go_wp2_with (go_at_call 78; (refine (vvalid_any a.v _ HP7.out).mono ?_; rintro e w1 ⟨rfl, hx1⟩; obtain ⟨x1, rfl⟩ := hx1.get; clear hx1))
            refine bodyPost_ret (v := .tuple #[cdag (r.getD cdz), .bool r.isSome]) ?_ rfl ⟨rfl, by repeat (first | exact Ext.refl' _ | assumption | apply Ext.ex' | apply Ext.al | apply Ext.drN | apply Ext.dr)⟩
            rw [HR.out]
            simp [results, Tryz.results70, go_sem, ↓IntWalk.iteOmega, cdz]
          · have HR : Hid (r = some ⟨mirF o, b.i, a.v⟩) := Lib.hid (by rw [HF2.out, cd_of h1 h2 h3 h4])
            clear HF2
            have hf0 : (b.op != 2) = false := by simp [h1]
            have hf1 : (a.op != 1) = false := by simp [h1, h2]
            have hf2 : (a.v.k == 0) = false := by simp [h1, h2, h3]
            have Hh1 := Lib.hid h1; clear h1
            have Hh2 := Lib.hid h2; clear h2
            have Hh3 := Lib.hid h3; clear h3
            go_wp2_with (go_at_call 78; (refine (vvalid_any a.v _ HP7.out).mono ?_; rintro e w1 ⟨rfl, hx1⟩; obtain ⟨x1, rfl⟩ := hx1.get; clear hx1))
            refine bodyPost_ret (v := .tuple #[cdag (r.getD cdz), .bool r.isSome]) ?_ rfl ⟨rfl, by repeat (first | exact Ext.refl' _ | assumption | apply Ext.ex' | apply Ext.al | apply Ext.drN | apply Ext.dr)⟩
            rw [HR.out]
            simp [results, Tryz.results70, go_sem, ↓IntWalk.iteOmega, cdz]
        · have HF2 : Hid (r = condG a b o) := Lib.hid (by rw [HF.out, if_neg hc1])
          clear HF hc1
          rcases (show (¬ a.op = 2) ∨ (a.op = 2 ∧ ¬ b.op = 1) ∨ (a.op = 2 ∧ b.op = 1 ∧ b.v.k = 0) ∨ (a.op = 2 ∧ b.op = 1 ∧ ¬ b.v.k = 0 ∧ vvB b.v = false) ∨ (a.op = 2 ∧ b.op = 1 ∧ ¬ b.v.k = 0 ∧ vvB b.v = true) from by
              rcases hv : vvB b.v with _ | _ <;> simp <;> omega) with h1 | ⟨h1, h2⟩ | ⟨h1, h2, h3⟩ | ⟨h1, h2, h3, h4⟩ | ⟨h1, h2, h3, h4⟩
          · have HR : Hid (r = none) := Lib.hid (by rw [HF2.out, cd_no (fun hh => h1 hh.1)])
            clear HF2
            have hf0 : (a.op != 2) = true := by simp [h1]
            have Hh1 := Lib.hid h1; clear h1
            go_wp2_with (go_at_call 78; (refine (vvalid_any b.v _ HQ7.out).mono ?_; rintro e w1 ⟨rfl, hx1⟩; obtain ⟨x1, rfl⟩ := hx1.get; clear hx1))
            refine bodyPost_ret (v := .tuple #[cdag (r.getD cdz), .bool r.isSome]) ?_ rfl ⟨rfl, by repeat (first | exact Ext.refl' _ | assumption | apply Ext.ex' | apply Ext.al | apply Ext.drN | apply Ext.dr)⟩
            rw [HR.out]
            simp [results, Tryz.results70, go_sem, ↓IntWalk.iteOmega, cdz]
          · have HR : Hid (r = none) := Lib.hid (by rw [HF2.out, cd_no (fun hh => h2 hh.2.1)])
            clear HF2
            have hf0 : (a.op != 2) = false := by simp [h1]
            have hf1 : (b.op != 1) = true := by simp [h1, h2]
            have Hh1 := Lib.hid h1; clear h1
            have Hh2 := Lib.hid h2; clear h2
            go_wp2_with (go_at_call 78; (refine (vvalid_any b.v _ HQ7.out).mono ?_; rintro e w1 ⟨rfl, hx1⟩; obtain ⟨x1, rfl⟩ := hx1.get; clear hx1))
            refine bodyPost_ret (v := .tuple #[cdag (r.getD cdz), .bool r.isSome]) ?_ rfl ⟨rfl, by repeat (first | exact Ext.refl' _ | assumption | apply Ext.ex' | apply Ext.al | apply Ext.drN | apply Ext.dr)⟩
            rw [HR.out]
            simp [results, Tryz.results70, go_sem, ↓IntWalk.iteOmega, cdz]
          · have HR : Hid (r = none) := Lib.hid (by rw [HF2.out, cd_no (fun hh => hh.2.2.1 h3)])
            clear HF2
            have hf0 : (a.op != 2) = false := by simp [h1]
            have hf1 : (b.op != 1) = false := by simp [h1, h2]
            have hf2 : (b.v.k == 0) = true := by simp [h1, h2, h3]
            have Hh1 := Lib.hid h1; clear h1
            have Hh2 := Lib.hid h2; clear h2
            have Hh3 := Lib.hid h3; clear h3
            go_wp2_with (go_at_call 78; (refine (vvalid_any b.v _ HQ7.out).mono ?_; rintro e w1 ⟨rfl, hx1⟩; obtain ⟨x1, rfl⟩ := hx1.get; clear hx1))
            refine bodyPost_ret (v := .tuple #[cdag (r.getD cdz), .bool r.isSome]) ?_ rfl ⟨rfl, by repeat (first | exact Ext.refl' _ | assumption | apply Ext.ex' | apply Ext.al | apply Ext.drN | apply Ext.dr)⟩
            rw [HR.out]
            simp [results, Tryz.results70, go_sem, ↓IntWalk.iteOmega, cdz]
          · have HR : Hid (r = none) := Lib.hid (by rw [HF2.out, cd_no (fun hh => by rw [h4] at hh; exact absurd hh.2.2.2 (by decide))])
            clear HF2
            have hf0 : (a.op != 2) = false := by simp [h1]
            have hf1 : (b.op != 1) = false := by simp [h1, h2]
            have hf2 : (b.v.k == 0) = false := by simp [h1, h2, h3]
            have Hh1 := Lib.hid h1; clear h1
            have Hh2 := Lib.hid h2; clear h2
            have Hh3 := Lib.hid h3; clear h3
            go_wp2_with (go_at_call 78; (refine (vvalid_any b.v _ HQ7.out).mono ?_; rintro e w1 ⟨rfl, hx1⟩; obtain ⟨x1, rfl⟩ := hx1.get; clear hx1))
            refine bodyPost_ret (v := .tuple #[cdag (r.getD cdz), .bool r.isSome]) ?_ rfl ⟨rfl, by repeat (first | exact Ext.refl' _ | assumption | apply Ext.ex' | apply Ext.al | apply Ext.drN | apply Ext.dr)⟩
            rw [HR.out]
            simp [results, Tryz.results70, go_sem, ↓IntWalk.iteOmega, cdz]
          · have HR : Hid (r = some ⟨o, a.i, b.v⟩) := Lib.hid (by rw [HF2.out, cd_of h1 h2 h3 h4])
            clear HF2
            have hf0 : (a.op != 2) = false := by simp [h1]
            have hf1 : (b.op != 1) = false := by simp [h1, h2]
            have hf2 : (b.v.k == 0) = false := by simp [h1, h2, h3]
            have Hh1 := Lib.hid h1; clear h1
            have Hh2 := Lib.hid h2; clear h2
            have Hh3 := Lib.hid h3; clear h3
            go_wp2_with (go_at_call 78; (refine (vvalid_any b.v _ HQ7.out).mono ?_; rintro e w1 ⟨rfl, hx1⟩; obtain ⟨x1, rfl⟩ := hx1.get; clear hx1))
            refine bodyPost_ret (v := .tuple #[cdag (r.getD cdz), .bool r.isSome]) ?_ rfl ⟨rfl, by repeat (first | exact Ext.refl' _ | assumption | apply Ext.ex' | apply Ext.al | apply Ext.drN | apply Ext.dr)⟩
            rw [HR.out]
            simp [results, Tryz.results70, go_sem, ↓IntWalk.iteOmega, cdz]
    · go_upto_if 33 with fail
      go_cut [6] (fun s6 wx => (a.op = 1 ∧ s6 = .int .i64 (mirF o) ∧ ∃ m, wx = World.drewN ((((w.alloc (.cells #[.int .i64 o, .int .i64 i, .int .i64 v.k, .int .i64 v.i, .string v.t, .string nm, .slice (some ⟨b0, o0, none⟩) 2 c] 31)).alloc (.cells #[.int .i64 0, .int .i64 0, .int .i64 0, .int .i64 0, .string ⟨#[]⟩] 96)).alloc (.cells #[.int .i64 a.op, .int .i64 a.i, .int .i64 a.v.k, .int .i64 a.v.i, .string a.v.t, .string a.nm, .slice A1 a.args.length c1] 31)).alloc (.cells #[.int .i64 b.op, .int .i64 b.i, .int .i64 b.v.k, .int .i64 b.v.i, .string b.v.t, .string b.nm, .slice A2 b.args.length c2] 31)) m) ∨ (¬ a.op = 1 ∧ s6 = .int .i64 o ∧ ∃ m, wx = World.drewN ((((w.alloc (.cells #[.int .i64 o, .int .i64 i, .int .i64 v.k, .int .i64 v.i, .string v.t, .string nm, .slice (some ⟨b0, o0, none⟩) 2 c] 31)).alloc (.cells #[.int .i64 0, .int .i64 0, .int .i64 0, .int .i64 0, .string ⟨#[]⟩] 96)).alloc (.cells #[.int .i64 b.op, .int .i64 b.i, .int .i64 b.v.k, .int .i64 b.v.i, .string b.v.t, .string b.nm, .slice A2 b.args.length c2] 31)).alloc (.cells #[.int .i64 a.op, .int .i64 a.i, .int .i64 a.v.k, .int .i64 a.v.i, .string a.v.t, .string a.nm, .slice A1 a.args.length c1] 31)) m))
      case first =>
        by_cases hc1 : a.op = 1
        · have hc1b : (a.op == 1) = true := by simp [hc1]
          have HC1 := Lib.hid hc1
          clear hc1
          go_wp2_with fail
          go_region_with ((go_at_call 77; refine (mirrored_any _ _).mono ?_; rintro e w1 ⟨rfl, rfl⟩))
          all_goals (go_wp2; go_meet; exact .inl ⟨HC1.out, rfl, 2, rfl⟩)
        · have hc1b : (a.op == 1) = false := by simp [hc1]
          go_wp2
          go_meet
          exact .inr ⟨hc1, rfl, 1, rfl⟩
      case rest =>
        rcases hcut with ⟨hc1, rfl, m, rfl⟩ | ⟨hc1, rfl, m, rfl⟩
        · have HF2 : Hid (r = condG b a (mirF o)) := Lib.hid (by rw [HF.out, if_pos hc1])
          clear HF
          rcases (show (¬ b.op = 2) ∨ (b.op = 2 ∧ a.op = 1 ∧ a.v.k = 0) ∨ (b.op = 2 ∧ a.op = 1 ∧ ¬ a.v.k = 0 ∧ vvB a.v = false) ∨ (b.op = 2 ∧ a.op = 1 ∧ ¬ a.v.k = 0 ∧ vvB a.v = true) from by
              rcases hv : vvB a.v with _ | _ <;> simp <;> omega) with h1 | ⟨h1, h2, h3⟩ | ⟨h1, h2, h3, h4⟩ | ⟨h1, h2, h3, h4⟩
          all_goals have HC1 := Lib.hid hc1
          all_goals clear hc1
          · have HR : Hid (r = none) := Lib.hid (by rw [HF2.out, cd_no (fun hh => h1 hh.1)])
            clear HF2
            have hf0 : (b.op != 2) = true := by simp [h1]
            have Hh1 := Lib.hid h1; clear h1
            go_wp2_with (go_at_call 78; (refine (vvalid_any a.v _ HP7.out).mono ?_; rintro e w1 ⟨rfl, hx1⟩; obtain ⟨x1, rfl⟩ := hx1.get; clear hx1))
            refine bodyPost_ret (v := .tuple #[cdag (r.getD cdz), .bool r.isSome]) ?_ rfl ⟨rfl, by repeat (first | exact Ext.refl' _ | assumption | apply Ext.ex' | apply Ext.al | apply Ext.drN | apply Ext.dr)⟩
            rw [HR.out]
            simp [results, Tryz.results70, go_sem, ↓IntWalk.iteOmega, cdz]
          · have HR : Hid (r = none) := Lib.hid (by rw [HF2.out, cd_no (fun hh => hh.2.2.1 h3)])
            clear HF2
            have hf0 : (b.op != 2) = false := by simp [h1]
            have hf1 : (a.op != 1) = false := by simp [h1, h2]
            have hf2 : (a.v.k == 0) = true := by simp [h1, h2, h3]
            have Hh1 := Lib.hid h1; clear h1
            have Hh2 := Lib.hid h2; clear h2
            have Hh3 := Lib.hid h3; clear h3
            go_wp2_with (go_at_call 78; (refine (vvalid_any a.v _ HP7.out).mono ?_; rintro e w1 ⟨rfl, hx1⟩; obtain ⟨x1, rfl⟩ := hx1.get; clear hx1))
            refine bodyPost_ret (v := .tuple #[cdag (r.getD cdz), .bool r.isSome]) ?_ rfl ⟨rfl, by repeat (first | exact Ext.refl' _ | assumption | apply Ext.ex' | apply Ext.al | apply Ext.drN | apply Ext.dr)⟩
            rw [HR.out]
            simp [results, Tryz.results70, go_sem, ↓IntWalk.iteOmega, cdz]
          · have HR : Hid (r = none) := Lib.hid (by rw [HF2.out, cd_no (fun hh => by rw [h4] at hh; exact absurd hh.2.2.2 (by decide))])
            clear HF2
            have hf0 : (b.op != 2) = false := by simp [h1]
            have hf1 : (a.op != 1) = false := by simp [h1, h2]
            have hf2 : (a.v.k == 0) = false := by simp [h1, h2, h3]
            have Hh1 := Lib.hid h1; clear h1
            have Hh2 := Lib.hid h2; clear h2
            have Hh3 := Lib.hid h3; clear h3
            go_wp2_with (go_at_call 78; (refine (vvalid_any a.v _ HP7.out).mono ?_; rintro e w1 ⟨rfl, hx1⟩; obtain ⟨x1, rfl⟩ := hx1.get; clear hx1))
            refine bodyPost_ret (v := .tuple #[cdag (r.getD cdz), .bool r.isSome]) ?_ rfl ⟨rfl, by repeat (first | exact Ext.refl' _ | assumption | apply Ext.ex' | apply Ext.al | apply Ext.drN | apply Ext.dr)⟩
            rw [HR.out]
            simp [results, Tryz.results70, go_sem, ↓IntWalk.iteOmega, cdz]
          · have HR : Hid (r = some ⟨mirF o, b.i, a.v⟩) := Lib.hid (by rw [HF2.out, cd_of h1 h2 h3 h4])
            clear HF2
            have hf0 : (b.op != 2) = false := by simp [h1]
            have hf1 : (a.op != 1) = false := by simp [h1, h2]
            have hf2 : (a.v.k == 0) = false := by simp [h1, h2, h3]
            have Hh1 := Lib.hid h1; clear h1
            have Hh2 := Lib.hid h2; clear h2
            have Hh3 := Lib.hid h3; clear h3
            go_wp2_with (go_at_call 78; (refine (vvalid_any a.v _ HP7.out).mono ?_; rintro e w1 ⟨rfl, hx1⟩; obtain ⟨x1, rfl⟩ := hx1.get; clear hx1))
            refine bodyPost_ret (v := .tuple #[cdag (r.getD cdz), .bool r.isSome]) ?_ rfl ⟨rfl, by repeat (first | exact Ext.refl' _ | assumption | apply Ext.ex' | apply Ext.al | apply Ext.drN | apply Ext.dr)⟩
            rw [HR.out]
            simp [results, Tryz.results70, go_sem, ↓IntWalk.iteOmega, cdz]
        · have HF2 : Hid (r = condG a b o) := Lib.hid (by rw [HF.out, if_neg hc1])
          clear HF hc1
          rcases (show (¬ a.op = 2) ∨ (a.op = 2 ∧ ¬ b.op = 1) ∨ (a.op = 2 ∧ b.op = 1 ∧ b.v.k = 0) ∨ (a.op = 2 ∧ b.op = 1 ∧ ¬ b.v.k = 0 ∧ vvB b.v = false) ∨ (a.op = 2 ∧ b.op = 1 ∧ ¬ b.v.k = 0 ∧ vvB b.v = true) from by
              rcases hv : vvB b.v with _ | _ <;> simp <;> omega) with h1 | ⟨h1, h2⟩ | ⟨h1, h2, h3⟩ | ⟨h1, h2, h3, h4⟩ | ⟨h1, h2, h3, h4⟩
          · have HR : Hid (r = none) := Lib.hid (by rw [HF2.out, cd_no (fun hh => h1 hh.1)])
            clear HF2
            have hf0 : (a.op != 2) = true := by simp [h1]
            have Hh1 := Lib.hid h1; clear h1
            go_wp2_with (go_at_call 78; (refine (vvalid_any b.v _ HQ7.out).mono ?_; rintro e w1 ⟨rfl, hx1⟩; obtain ⟨x1, rfl⟩ := hx1.get; clear hx1))
            refine bodyPost_ret (v := .tuple #[cdag (r.getD cdz), .bool r.isSome]) ?_ rfl ⟨rfl, by repeat (first | exact Ext.refl' _ | assumption | apply Ext.ex' | apply Ext.al | apply Ext.drN | apply Ext.dr)⟩
            rw [HR.out]
            simp [results, Tryz.results70, go_sem, ↓IntWalk.iteOmega, cdz]
          · have HR : Hid (r = none) := Lib.hid (by rw [HF2.out, cd_no (fun hh => h2 hh.2.1)])
            clear HF2
            have hf0 : (a.op != 2) = false := by simp [h1]
            have hf1 : (b.op != 1) = true := by simp [h1, h2]
            have Hh1 := Lib.hid h1; clear h1
            have Hh2 := Lib.hid h2; clear h2
            go_wp2_with (go_at_call 78; (refine (vvalid_any b.v _ HQ7.out).mono ?_; rintro e w1 ⟨rfl, hx1⟩; obtain ⟨x1, rfl⟩ := hx1.get; clear hx1))
            refine bodyPost_ret (v := .tuple #[cdag (r.getD cdz), .bool r.isSome]) ?_ rfl ⟨rfl, by repeat (first | exact Ext.refl' _ | assumption | apply Ext.ex' | apply Ext.al | apply Ext.drN | apply Ext.dr)⟩
            rw [HR.out]
            simp [results, Tryz.results70, go_sem, ↓IntWalk.iteOmega, cdz]
          · have HR : Hid (r = none) := Lib.hid (by rw [HF2.out, cd_no (fun hh => hh.2.2.1 h3)])
            clear HF2
            have hf0 : (a.op != 2) = false := by simp [h1]
            have hf1 : (b.op != 1) = false := by simp [h1, h2]
            have hf2 : (b.v.k == 0) = true := by simp [h1, h2, h3]
            have Hh1 := Lib.hid h1; clear h1
            have Hh2 := Lib.hid h2; clear h2
            have Hh3 := Lib.hid h3; clear h3
            go_wp2_with (go_at_call 78; (refine (vvalid_any b.v _ HQ7.out).mono ?_; rintro e w1 ⟨rfl, hx1⟩; obtain ⟨x1, rfl⟩ := hx1.get; clear hx1))
            refine bodyPost_ret (v := .tuple #[cdag (r.getD cdz), .bool r.isSome]) ?_ rfl ⟨rfl, by repeat (first | exact Ext.refl' _ | assumption | apply Ext.ex' | apply Ext.al | apply Ext.drN | apply Ext.dr)⟩
            rw [HR.out]
            simp [results, Tryz.results70, go_sem, ↓IntWalk.iteOmega, cdz]
          · have HR : Hid (r = none) := Lib.hid (by rw [HF2.out, cd_no (fun hh => by rw [h4] at hh; exact absurd hh.2.2.2 (by decide))])
            clear HF2
            have hf0 : (a.op != 2) = false := by simp [h1]
            have hf1 : (b.op != 1) = false := by simp [h1, h2]
            have hf2 : (b.v.k == 0) = false := by simp [h1, h2, h3]
            have Hh1 := Lib.hid h1; clear h1
            have Hh2 := Lib.hid h2; clear h2
            have Hh3 := Lib.hid h3; clear h3
            go_wp2_with (go_at_call 78; (refine (vvalid_any b.v _ HQ7.out).mono ?_; rintro e w1 ⟨rfl, hx1⟩; obtain ⟨x1, rfl⟩ := hx1.get; clear hx1))
            refine bodyPost_ret (v := .tuple #[cdag (r.getD cdz), .bool r.isSome]) ?_ rfl ⟨rfl, by repeat (first | exact Ext.refl' _ | assumption | apply Ext.ex' | apply Ext.al | apply Ext.drN | apply Ext.dr)⟩
            rw [HR.out]
            simp [results, Tryz.results70, go_sem, ↓IntWalk.iteOmega, cdz]
          · have HR : Hid (r = some ⟨o, a.i, b.v⟩) := Lib.hid (by rw [HF2.out, cd_of h1 h2 h3 h4])
            clear HF2
            have hf0 : (a.op != 2) = false := by simp [h1]
            have hf1 : (b.op != 1) = false := by simp [h1, h2]
            have hf2 : (b.v.k == 0) = false := by simp [h1, h2, h3]
            have Hh1 := Lib.hid h1; clear h1
            have Hh2 := Lib.hid h2; clear h2
            have Hh3 := Lib.hid h3; clear h3
            go_wp2_with (go_at_call 78; (refine (vvalid_any b.v _ HQ7.out).mono ?_; rintro e w1 ⟨rfl, hx1⟩; obtain ⟨x1, rfl⟩ := hx1.get; clear hx1))
            refine bodyPost_ret (v := .tuple #[cdag (r.getD cdz), .bool r.isSome]) ?_ rfl ⟨rfl, by repeat (first | exact Ext.refl' _ | assumption | apply Ext.ex' | apply Ext.al | apply Ext.drN | apply Ext.dr)⟩
            rw [HR.out]
            simp [results, Tryz.results70, go_sem, ↓IntWalk.iteOmega, cdz]
end Go.Proofs.YtflhikpihbenaaaGreat
