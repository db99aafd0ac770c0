/- Lemmas for the rows: Cnd Cds Ech Pre Fro. -/
import Derived.Test.YtdiaecgpjgdkdaaGreatThS09
import Derived.BigRegion
import Derived.Deep.DeepCutAuto
import Derived.Deep.CutBlock
set_option linter.unusedSimpArgs false
set_option linter.unusedVariables false
namespace Go.Proofs.YtdiaecgpjgdkdaaGreat
open Go.RowKit

abbrev cdag (c : Cd) : Value := .agg #[.int .i64 c.op, .int .i64 c.col, .int .i64 c.v.k, .int .i64 c.v.i, .string c.v.t]
def cdz : Cd := ⟨0, 0, ⟨0, 0, ⟨#[]⟩⟩⟩
theorem cd_of {a b : Ex} {op : Int} (h1 : a.op = 2) (h2 : b.op = 1) (h3 : b.v.k ≠ 0) (h4 : vvB b.v = true) : condG a b op = some ⟨op, a.i, b.v⟩ := by simp [condG, h1, h2, h3, h4]
theorem cd_no {a b : Ex} {op : Int} (h : ¬ (a.op = 2 ∧ b.op = 1 ∧ b.v.k ≠ 0 ∧ vvB b.v = true)) : condG a b op = none := by simp [condG, h]

theorem condF_two {o i : Int} {v : Va} {nm : ByteArray} {a b : Ex} (h : isCmp o = true) : condF (.mk o i v nm [a, b]) = if a.op = 1 then condG b a (mirF o) else condG a b o := by
 have e : condF (.mk o i v nm [a, b]) = if isCmp o = false then none else if a.op = 1 then condG b a (mirF o) else condG a b o := rfl
 rw [e, if_neg (by simp [h])]
def CPost (w : World) (r : Option Cd) (e : Ending) (w' : World) : Prop := e = .returned (.tuple #[cdag (r.getD cdz), .bool r.isSome]) ∧ Ext w w'

set_option maxHeartbeats 4000000 in
theorem condition_two (o i : Int) (v : Va) (nm : ByteArray) (A : Option Addr) (a b : Ex) (c : Nat) (css : List (List Value)) (w : World) (hR : Rd w 7 A 2 css.flatten) (hs : REs w [a, b] css) (hcmp : isCmp o = true) :
  Calls Tryz.prog 115 #[exag o i v nm A 2 c] w (CPost w (condF (.mk o i v nm [a, b]))) := by
 obtain ⟨b0, o0, rfl, hb0, A1, c1, css1, p0, p1, p2, p3, p4, p5, p6, p7, p8, p9, p10, p11, p12⟩ := RE.arg (args := [a, b]) hR hs (k := 0) (by simp)
 obtain ⟨b1, o1, he, hb1, A2, c2, css2, q0, q1, q2, q3, q4, q5, q6, q7, q8, q9, q10, q11, q12⟩ := RE.arg (args := [a, b]) hR hs (k := 1) (by simp)
 simp only [Option.some.injEq, Addr.mk.injEq, and_true] at he
 obtain ⟨rfl, rfl⟩ := he
 simp only [List.getElem_cons_zero, List.getElem_cons_succ, Nat.zero_mul, Nat.add_zero, Nat.one_mul] at p0 p1 p2 p3 p4 p5 p6 p7 p8 p9 p10 p11 p12 q0 q1 q2 q3 q4 q5 q6 q7 q8 q9 q10 q11 q12
 have HP7 := Lib.hid p7
 have HQ7 := Lib.hid q7
 clear p8 p9 p10 p11 p12 q8 q9 q10 q11 q12 hR hs p7 q7
 have HF : Hid (condF (.mk o i v nm [a, b]) = if a.op = 1 then condG b a (mirF o) else condG a b o) := Lib.hid (condF_two hcmp)
 generalize condF (.mk o i v nm [a, b]) = r at HF ⊢
 go_enter Tryz.func115, Tryz.ntmps115
 go_upto_block 0 with fail
 go_cut [10] (fun s10 wx => s10 = .bool true ∧ wx = (w.alloc (.cells #[.int .i64 o, .int .i64 i, .int .i64 v.k, .int .i64 v.i, .string v.t, .string nm, .slice (some ⟨b0, o0, none⟩) 2 c] 68)).alloc (.cells #[.int .i64 0, .int .i64 0, .int .i64 0, .int .i64 0, .string ⟨#[]⟩] 167))
 case first =>
  have hsw : (o == 7) = true ∨ ((o == 7) = false ∧ (o == 9) = true) ∨ ((o == 7) = false ∧ (o == 9) = false ∧ (o == 10) = true) ∨ ((o == 7) = false ∧ (o == 9) = false ∧ (o == 10) = false ∧ (o == 11) = true) ∨ ((o == 7) = false ∧ (o == 9) = false ∧ (o == 10) = false ∧ (o == 11) = false ∧ (o == 12) = true) := by
   simp only [isCmp, Bool.or_eq_true] at hcmp; revert hcmp
   cases o == 7 <;> cases o == 9 <;> cases o == 10 <;> cases o == 11 <;> cases o == 12 <;> simp
  rcases hsw with h7 | ⟨h7, h9⟩ | ⟨h7, h9, h10⟩ | ⟨h7, h9, h10, h11⟩ | ⟨h7, h9, h10, h11, h12⟩
  all_goals (go_wp2; go_meet; exact ⟨rfl, rfl⟩)
 case rest =>
  obtain ⟨rfl, rfl⟩ := hcut
  go_wp2_with fail
  go_region_held3 (fun w' => w'.cell? ⟨w.heap.size, 0, none⟩ = some (.int .i64 o) ∧ w'.cell? ⟨w.heap.size, 6, none⟩ = some (.slice (some ⟨b0, o0, none⟩) 2 c) ∧ w'.cell? ⟨b0, o0, none⟩ = some (.int .i64 a.op) ∧ w'.cell? ⟨b0, o0 + 1, none⟩ = some (.int .i64 a.i) ∧ w'.cell? ⟨b0, o0 + 2, none⟩ = some (.int .i64 a.v.k) ∧ w'.cell? ⟨b0, o0 + 3, none⟩ = some (.int .i64 a.v.i) ∧ w'.cell? ⟨b0, o0 + 4, none⟩ = some (.string a.v.t) ∧ w'.cell? ⟨b0, o0 + 5, none⟩ = some (.string a.nm) ∧ w'.cell? ⟨b0, o0 + 6, none⟩ = some (.slice A1 a.args.length c1) ∧ w'.cell? ⟨b0, o0 + 7, none⟩ = some (.int .i64 b.op) ∧ w'.cell? ⟨b0, o0 + 7 + 1, none⟩ = some (.int .i64 b.i) ∧ w'.cell? ⟨b0, o0 + 7 + 2, none⟩ = some (.int .i64 b.v.k) ∧ w'.cell? ⟨b0, o0 + 7 + 3, none⟩ = some (.int .i64 b.v.i) ∧ w'.cell? ⟨b0, o0 + 7 + 4, none⟩ = some (.string b.v.t) ∧ w'.cell? ⟨b0, o0 + 7 + 5, none⟩ = some (.string b.nm) ∧ w'.cell? ⟨b0, o0 + 7 + 6, none⟩ = some (.slice A2 b.args.length c2)) (simp [go_sem, ↓IntWalk.iteOmega, *])
   (fail)
  ·
   go_upto_if 33 with fail
   go_cut [6] (fun s6 wx => (a.op = 1 ∧ s6 = .int .i64 (mirF o) ∧ ∃ m, wx = World.drewN ((((w.alloc (.cells #[.int .i64 o, .int .i64 i, .int .i64 v.k, .int .i64 v.i, .string v.t, .string nm, .slice (some ⟨b0, o0, none⟩) 2 c] 68)).alloc (.cells #[.int .i64 0, .int .i64 0, .int .i64 0, .int .i64 0, .string ⟨#[]⟩] 167)).alloc (.cells #[.int .i64 b.op, .int .i64 b.i, .int .i64 b.v.k, .int .i64 b.v.i, .string b.v.t, .string b.nm, .slice A2 b.args.length c2] 68)).alloc (.cells #[.int .i64 a.op, .int .i64 a.i, .int .i64 a.v.k, .int .i64 a.v.i, .string a.v.t, .string a.nm, .slice A1 a.args.length c1] 68)) m) ∨ (¬ a.op = 1 ∧ s6 = .int .i64 o ∧ ∃ m, wx = World.drewN ((((w.alloc (.cells #[.int .i64 o, .int .i64 i, .int .i64 v.k, .int .i64 v.i, .string v.t, .string nm, .slice (some ⟨b0, o0, none⟩) 2 c] 68)).alloc (.cells #[.int .i64 0, .int .i64 0, .int .i64 0, .int .i64 0, .string ⟨#[]⟩] 167)).alloc (.cells #[.int .i64 a.op, .int .i64 a.i, .int .i64 a.v.k, .int .i64 a.v.i, .string a.v.t, .string a.nm, .slice A1 a.args.length c1] 68)).alloc (.cells #[.int .i64 b.op, .int .i64 b.i, .int .i64 b.v.k, .int .i64 b.v.i, .string b.v.t, .string b.nm, .slice A2 b.args.length c2] 68)) m))
   case first =>
    by_cases hc1 : a.op = 1
    ·
     have hc1b : (a.op == 1) = true := by simp [hc1]
     have HC1 := Lib.hid hc1
     clear hc1
     go_wp2_with fail
     go_region_with ((go_at_call 143; refine (mirrored_any _ _).mono ?_; rintro e w1 ⟨rfl, rfl⟩))
     all_goals (go_wp2; go_meet; exact .inl ⟨HC1.out, rfl, 2, rfl⟩)
    ·
     have hc1b : (a.op == 1) = false := by simp [hc1]
     go_wp2
     go_meet
     exact .inr ⟨hc1, rfl, 1, rfl⟩
   case rest =>
    rcases hcut with ⟨hc1, rfl, m, rfl⟩ | ⟨hc1, rfl, m, rfl⟩
    ·
     have HF2 : Hid (r = condG b a (mirF o)) := Lib.hid (by rw [HF.out, if_pos hc1])
     clear HF
     rcases (show (¬ b.op = 2) ∨ (b.op = 2 ∧ a.op = 1 ∧ a.v.k = 0) ∨ (b.op = 2 ∧ a.op = 1 ∧ ¬ a.v.k = 0 ∧ vvB a.v = false) ∨ (b.op = 2 ∧ a.op = 1 ∧ ¬ a.v.k = 0 ∧ vvB a.v = true) from by
       rcases hv : vvB a.v with _ | _ <;> simp <;> omega) with h1 | ⟨h1, h2, h3⟩ | ⟨h1, h2, h3, h4⟩ | ⟨h1, h2, h3, h4⟩
     all_goals have HC1 := Lib.hid hc1
     all_goals clear hc1
     ·
      have HR : Hid (r = none) := Lib.hid (by rw [HF2.out, cd_no (fun hh => h1 hh.1)])
      clear HF2
      have hf0 : (b.op != 2) = true := by simp [h1]
      have Hh1 := Lib.hid h1; clear h1
      go_wp2_with (go_at_call 144; (refine (vvalid_any a.v _ HP7.out).mono ?_; rintro e w1 ⟨rfl, hx1⟩; obtain ⟨x1, rfl⟩ := hx1.get; clear hx1))
      refine bodyPost_ret (v := .tuple #[cdag (r.getD cdz), .bool r.isSome]) ?_ rfl ⟨rfl, ex_⟩
      rw [HR.out]
      simp [results, Tryz.results115, go_sem, ↓IntWalk.iteOmega, cdz]
     ·
      have HR : Hid (r = none) := Lib.hid (by rw [HF2.out, cd_no (fun hh => hh.2.2.1 h3)])
      clear HF2
      have hf0 : (b.op != 2) = false := by simp [h1]
      have hf1 : (a.op != 1) = false := by simp [h1, h2]
      have hf2 : (a.v.k == 0) = true := by simp [h1, h2, h3]
      have Hh1 := Lib.hid h1; clear h1
      have Hh2 := Lib.hid h2; clear h2
      have Hh3 := Lib.hid h3; clear h3
      go_wp2_with (go_at_call 144; (refine (vvalid_any a.v _ HP7.out).mono ?_; rintro e w1 ⟨rfl, hx1⟩; obtain ⟨x1, rfl⟩ := hx1.get; clear hx1))
      refine bodyPost_ret (v := .tuple #[cdag (r.getD cdz), .bool r.isSome]) ?_ rfl ⟨rfl, ex_⟩
      rw [HR.out]
      simp [results, Tryz.results115, go_sem, ↓IntWalk.iteOmega, cdz]
     ·
      have HR : Hid (r = none) := Lib.hid (by rw [HF2.out, cd_no (fun hh => by rw [h4] at hh; exact absurd hh.2.2.2 (by decide))])
      clear HF2
      have hf0 : (b.op != 2) = false := by simp [h1]
      have hf1 : (a.op != 1) = false := by simp [h1, h2]
      have hf2 : (a.v.k == 0) = false := by simp [h1, h2, h3]
      have Hh1 := Lib.hid h1; clear h1
      have Hh2 := Lib.hid h2; clear h2
      have Hh3 := Lib.hid h3; clear h3
      go_wp2_with (go_at_call 144; (refine (vvalid_any a.v _ HP7.out).mono ?_; rintro e w1 ⟨rfl, hx1⟩; obtain ⟨x1, rfl⟩ := hx1.get; clear hx1))
      refine bodyPost_ret (v := .tuple #[cdag (r.getD cdz), .bool r.isSome]) ?_ rfl ⟨rfl, ex_⟩
      rw [HR.out]
      simp [results, Tryz.results115, go_sem, ↓IntWalk.iteOmega, cdz]
     ·
      have HR : Hid (r = some ⟨mirF o, b.i, a.v⟩) := Lib.hid (by rw [HF2.out, cd_of h1 h2 h3 h4])
      clear HF2
      have hf0 : (b.op != 2) = false := by simp [h1]
      have hf1 : (a.op != 1) = false := by simp [h1, h2]
      have hf2 : (a.v.k == 0) = false := by simp [h1, h2, h3]
      have Hh1 := Lib.hid h1; clear h1
      have Hh2 := Lib.hid h2; clear h2
      have Hh3 := Lib.hid h3; clear h3
      go_wp2_with (go_at_call 144; (refine (vvalid_any a.v _ HP7.out).mono ?_; rintro e w1 ⟨rfl, hx1⟩; obtain ⟨x1, rfl⟩ := hx1.get; clear hx1))
      refine bodyPost_ret (v := .tuple #[cdag (r.getD cdz), .bool r.isSome]) ?_ rfl ⟨rfl, ex_⟩
      rw [HR.out]
      simp [results, Tryz.results115, go_sem, ↓IntWalk.iteOmega, cdz]
    ·
     have HF2 : Hid (r = condG a b o) := Lib.hid (by rw [HF.out, if_neg hc1])
     clear HF hc1
     rcases (show (¬ a.op = 2) ∨ (a.op = 2 ∧ ¬ b.op = 1) ∨ (a.op = 2 ∧ b.op = 1 ∧ b.v.k = 0) ∨ (a.op = 2 ∧ b.op = 1 ∧ ¬ b.v.k = 0 ∧ vvB b.v = false) ∨ (a.op = 2 ∧ b.op = 1 ∧ ¬ b.v.k = 0 ∧ vvB b.v = true) from by
       rcases hv : vvB b.v with _ | _ <;> simp <;> omega) with h1 | ⟨h1, h2⟩ | ⟨h1, h2, h3⟩ | ⟨h1, h2, h3, h4⟩ | ⟨h1, h2, h3, h4⟩
     ·
      have HR : Hid (r = none) := Lib.hid (by rw [HF2.out, cd_no (fun hh => h1 hh.1)])
      clear HF2
      have hf0 : (a.op != 2) = true := by simp [h1]
      have Hh1 := Lib.hid h1; clear h1
      go_wp2_with (go_at_call 144; (refine (vvalid_any b.v _ HQ7.out).mono ?_; rintro e w1 ⟨rfl, hx1⟩; obtain ⟨x1, rfl⟩ := hx1.get; clear hx1))
      refine bodyPost_ret (v := .tuple #[cdag (r.getD cdz), .bool r.isSome]) ?_ rfl ⟨rfl, ex_⟩
      rw [HR.out]
      simp [results, Tryz.results115, go_sem, ↓IntWalk.iteOmega, cdz]
     ·
      have HR : Hid (r = none) := Lib.hid (by rw [HF2.out, cd_no (fun hh => h2 hh.2.1)])
      clear HF2
      have hf0 : (a.op != 2) = false := by simp [h1]
      have hf1 : (b.op != 1) = true := by simp [h1, h2]
      have Hh1 := Lib.hid h1; clear h1
      have Hh2 := Lib.hid h2; clear h2
      go_wp2_with (go_at_call 144; (refine (vvalid_any b.v _ HQ7.out).mono ?_; rintro e w1 ⟨rfl, hx1⟩; obtain ⟨x1, rfl⟩ := hx1.get; clear hx1))
      refine bodyPost_ret (v := .tuple #[cdag (r.getD cdz), .bool r.isSome]) ?_ rfl ⟨rfl, ex_⟩
      rw [HR.out]
      simp [results, Tryz.results115, go_sem, ↓IntWalk.iteOmega, cdz]
     ·
      have HR : Hid (r = none) := Lib.hid (by rw [HF2.out, cd_no (fun hh => hh.2.2.1 h3)])
      clear HF2
      have hf0 : (a.op != 2) = false := by simp [h1]
      have hf1 : (b.op != 1) = false := by simp [h1, h2]
      have hf2 : (b.v.k == 0) = true := by simp [h1, h2, h3]
      have Hh1 := Lib.hid h1; clear h1
      have Hh2 := Lib.hid h2; clear h2
      have Hh3 := Lib.hid h3; clear h3
      go_wp2_with (go_at_call 144; (refine (vvalid_any b.v _ HQ7.out).mono ?_; rintro e w1 ⟨rfl, hx1⟩; obtain ⟨x1, rfl⟩ := hx1.get; clear hx1))
      refine bodyPost_ret (v := .tuple #[cdag (r.getD cdz), .bool r.isSome]) ?_ rfl ⟨rfl, ex_⟩
      rw [HR.out]
      simp [results, Tryz.results115, go_sem, ↓IntWalk.iteOmega, cdz]
     ·
      have HR : Hid (r = none) := Lib.hid (by rw [HF2.out, cd_no (fun hh => by rw [h4] at hh; exact absurd hh.2.2.2 (by decide))])
      clear HF2
      have hf0 : (a.op != 2) = false := by simp [h1]
      have hf1 : (b.op != 1) = false := by simp [h1, h2]
      have hf2 : (b.v.k == 0) = false := by simp [h1, h2, h3]
      have Hh1 := Lib.hid h1; clear h1
      have Hh2 := Lib.hid h2; clear h2
      have Hh3 := Lib.hid h3; clear h3
      go_wp2_with (go_at_call 144; (refine (vvalid_any b.v _ HQ7.out).mono ?_; rintro e w1 ⟨rfl, hx1⟩; obtain ⟨x1, rfl⟩ := hx1.get; clear hx1))
      refine bodyPost_ret (v := .tuple #[cdag (r.getD cdz), .bool r.isSome]) ?_ rfl ⟨rfl, ex_⟩
      rw [HR.out]
      simp [results, Tryz.results115, go_sem, ↓IntWalk.iteOmega, cdz]
     ·
      have HR : Hid (r = some ⟨o, a.i, b.v⟩) := Lib.hid (by rw [HF2.out, cd_of h1 h2 h3 h4])
      clear HF2
      have hf0 : (a.op != 2) = false := by simp [h1]
      have hf1 : (b.op != 1) = false := by simp [h1, h2]
      have hf2 : (b.v.k == 0) = false := by simp [h1, h2, h3]
      have Hh1 := Lib.hid h1; clear h1
      have Hh2 := Lib.hid h2; clear h2
      have Hh3 := Lib.hid h3; clear h3
      go_wp2_with (go_at_call 144; (refine (vvalid_any b.v _ HQ7.out).mono ?_; rintro e w1 ⟨rfl, hx1⟩; obtain ⟨x1, rfl⟩ := hx1.get; clear hx1))
      refine bodyPost_ret (v := .tuple #[cdag (r.getD cdz), .bool r.isSome]) ?_ rfl ⟨rfl, ex_⟩
      rw [HR.out]
      simp [results, Tryz.results115, go_sem, ↓IntWalk.iteOmega, cdz]
  ·
   go_upto_if 33 with fail
   go_cut [6] (fun s6 wx => (a.op = 1 ∧ s6 = .int .i64 (mirF o) ∧ ∃ m, wx = World.drewN ((((w.alloc (.cells #[.int .i64 o, .int .i64 i, .int .i64 v.k, .int .i64 v.i, .string v.t, .string nm, .slice (some ⟨b0, o0, none⟩) 2 c] 68)).alloc (.cells #[.int .i64 0, .int .i64 0, .int .i64 0, .int .i64 0, .string ⟨#[]⟩] 167)).alloc (.cells #[.int .i64 a.op, .int .i64 a.i, .int .i64 a.v.k, .int .i64 a.v.i, .string a.v.t, .string a.nm, .slice A1 a.args.length c1] 68)).alloc (.cells #[.int .i64 b.op, .int .i64 b.i, .int .i64 b.v.k, .int .i64 b.v.i, .string b.v.t, .string b.nm, .slice A2 b.args.length c2] 68)) m) ∨ (¬ a.op = 1 ∧ s6 = .int .i64 o ∧ ∃ m, wx = World.drewN ((((w.alloc (.cells #[.int .i64 o, .int .i64 i, .int .i64 v.k, .int .i64 v.i, .string v.t, .string nm, .slice (some ⟨b0, o0, none⟩) 2 c] 68)).alloc (.cells #[.int .i64 0, .int .i64 0, .int .i64 0, .int .i64 0, .string ⟨#[]⟩] 167)).alloc (.cells #[.int .i64 b.op, .int .i64 b.i, .int .i64 b.v.k, .int .i64 b.v.i, .string b.v.t, .string b.nm, .slice A2 b.args.length c2] 68)).alloc (.cells #[.int .i64 a.op, .int .i64 a.i, .int .i64 a.v.k, .int .i64 a.v.i, .string a.v.t, .string a.nm, .slice A1 a.args.length c1] 68)) m))
   case first =>
    by_cases hc1 : a.op = 1
    ·
     have hc1b : (a.op == 1) = true := by simp [hc1]
     have HC1 := Lib.hid hc1
     clear hc1
     go_wp2_with fail
     go_region_with ((go_at_call 143; refine (mirrored_any _ _).mono ?_; rintro e w1 ⟨rfl, rfl⟩))
     all_goals (go_wp2; go_meet; exact .inl ⟨HC1.out, rfl, 2, rfl⟩)
    ·
     have hc1b : (a.op == 1) = false := by simp [hc1]
     go_wp2
     go_meet
     exact .inr ⟨hc1, rfl, 1, rfl⟩
   case rest =>
    rcases hcut with ⟨hc1, rfl, m, rfl⟩ | ⟨hc1, rfl, m, rfl⟩
    ·
     have HF2 : Hid (r = condG b a (mirF o)) := Lib.hid (by rw [HF.out, if_pos hc1])
     clear HF
     rcases (show (¬ b.op = 2) ∨ (b.op = 2 ∧ a.op = 1 ∧ a.v.k = 0) ∨ (b.op = 2 ∧ a.op = 1 ∧ ¬ a.v.k = 0 ∧ vvB a.v = false) ∨ (b.op = 2 ∧ a.op = 1 ∧ ¬ a.v.k = 0 ∧ vvB a.v = true) from by
       rcases hv : vvB a.v with _ | _ <;> simp <;> omega) with h1 | ⟨h1, h2, h3⟩ | ⟨h1, h2, h3, h4⟩ | ⟨h1, h2, h3, h4⟩
     all_goals have HC1 := Lib.hid hc1
     all_goals clear hc1
     ·
      have HR : Hid (r = none) := Lib.hid (by rw [HF2.out, cd_no (fun hh => h1 hh.1)])
      clear HF2
      have hf0 : (b.op != 2) = true := by simp [h1]
      have Hh1 := Lib.hid h1; clear h1
      go_wp2_with (go_at_call 144; (refine (vvalid_any a.v _ HP7.out).mono ?_; rintro e w1 ⟨rfl, hx1⟩; obtain ⟨x1, rfl⟩ := hx1.get; clear hx1))
      refine bodyPost_ret (v := .tuple #[cdag (r.getD cdz), .bool r.isSome]) ?_ rfl ⟨rfl, ex_⟩
      rw [HR.out]
      simp [results, Tryz.results115, go_sem, ↓IntWalk.iteOmega, cdz]
     ·
      have HR : Hid (r = none) := Lib.hid (by rw [HF2.out, cd_no (fun hh => hh.2.2.1 h3)])
      clear HF2
      have hf0 : (b.op != 2) = false := by simp [h1]
      have hf1 : (a.op != 1) = false := by simp [h1, h2]
      have hf2 : (a.v.k == 0) = true := by simp [h1, h2, h3]
      have Hh1 := Lib.hid h1; clear h1
      have Hh2 := Lib.hid h2; clear h2
      have Hh3 := Lib.hid h3; clear h3
      go_wp2_with (go_at_call 144; (refine (vvalid_any a.v _ HP7.out).mono ?_; rintro e w1 ⟨rfl, hx1⟩; obtain ⟨x1, rfl⟩ := hx1.get; clear hx1))
      refine bodyPost_ret (v := .tuple #[cdag (r.getD cdz), .bool r.isSome]) ?_ rfl ⟨rfl, ex_⟩
      rw [HR.out]
      simp [results, Tryz.results115, go_sem, ↓IntWalk.iteOmega, cdz]
     ·
      have HR : Hid (r = none) := Lib.hid (by rw [HF2.out, cd_no (fun hh => by rw [h4] at hh; exact absurd hh.2.2.2 (by decide))])
      clear HF2
      have hf0 : (b.op != 2) = false := by simp [h1]
      have hf1 : (a.op != 1) = false := by simp [h1, h2]
      have hf2 : (a.v.k == 0) = false := by simp [h1, h2, h3]
      have Hh1 := Lib.hid h1; clear h1
      have Hh2 := Lib.hid h2; clear h2
      have Hh3 := Lib.hid h3; clear h3
      go_wp2_with (go_at_call 144; (refine (vvalid_any a.v _ HP7.out).mono ?_; rintro e w1 ⟨rfl, hx1⟩; obtain ⟨x1, rfl⟩ := hx1.get; clear hx1))
      refine bodyPost_ret (v := .tuple #[cdag (r.getD cdz), .bool r.isSome]) ?_ rfl ⟨rfl, ex_⟩
      rw [HR.out]
      simp [results, Tryz.results115, go_sem, ↓IntWalk.iteOmega, cdz]
     ·
      have HR : Hid (r = some ⟨mirF o, b.i, a.v⟩) := Lib.hid (by rw [HF2.out, cd_of h1 h2 h3 h4])
      clear HF2
      have hf0 : (b.op != 2) = false := by simp [h1]
      have hf1 : (a.op != 1) = false := by simp [h1, h2]
      have hf2 : (a.v.k == 0) = false := by simp [h1, h2, h3]
      have Hh1 := Lib.hid h1; clear h1
      have Hh2 := Lib.hid h2; clear h2
      have Hh3 := Lib.hid h3; clear h3
      go_wp2_with (go_at_call 144; (refine (vvalid_any a.v _ HP7.out).mono ?_; rintro e w1 ⟨rfl, hx1⟩; obtain ⟨x1, rfl⟩ := hx1.get; clear hx1))
      refine bodyPost_ret (v := .tuple #[cdag (r.getD cdz), .bool r.isSome]) ?_ rfl ⟨rfl, ex_⟩
      rw [HR.out]
      simp [results, Tryz.results115, go_sem, ↓IntWalk.iteOmega, cdz]
    ·
     have HF2 : Hid (r = condG a b o) := Lib.hid (by rw [HF.out, if_neg hc1])
     clear HF hc1
     rcases (show (¬ a.op = 2) ∨ (a.op = 2 ∧ ¬ b.op = 1) ∨ (a.op = 2 ∧ b.op = 1 ∧ b.v.k = 0) ∨ (a.op = 2 ∧ b.op = 1 ∧ ¬ b.v.k = 0 ∧ vvB b.v = false) ∨ (a.op = 2 ∧ b.op = 1 ∧ ¬ b.v.k = 0 ∧ vvB b.v = true) from by
       rcases hv : vvB b.v with _ | _ <;> simp <;> omega) with h1 | ⟨h1, h2⟩ | ⟨h1, h2, h3⟩ | ⟨h1, h2, h3, h4⟩ | ⟨h1, h2, h3, h4⟩
     ·
      have HR : Hid (r = none) := Lib.hid (by rw [HF2.out, cd_no (fun hh => h1 hh.1)])
      clear HF2
      have hf0 : (a.op != 2) = true := by simp [h1]
      have Hh1 := Lib.hid h1; clear h1
      go_wp2_with (go_at_call 144; (refine (vvalid_any b.v _ HQ7.out).mono ?_; rintro e w1 ⟨rfl, hx1⟩; obtain ⟨x1, rfl⟩ := hx1.get; clear hx1))
      refine bodyPost_ret (v := .tuple #[cdag (r.getD cdz), .bool r.isSome]) ?_ rfl ⟨rfl, ex_⟩
      rw [HR.out]
      simp [results, Tryz.results115, go_sem, ↓IntWalk.iteOmega, cdz]
     ·
      have HR : Hid (r = none) := Lib.hid (by rw [HF2.out, cd_no (fun hh => h2 hh.2.1)])
      clear HF2
      have hf0 : (a.op != 2) = false := by simp [h1]
      have hf1 : (b.op != 1) = true := by simp [h1, h2]
      have Hh1 := Lib.hid h1; clear h1
      have Hh2 := Lib.hid h2; clear h2
      go_wp2_with (go_at_call 144; (refine (vvalid_any b.v _ HQ7.out).mono ?_; rintro e w1 ⟨rfl, hx1⟩; obtain ⟨x1, rfl⟩ := hx1.get; clear hx1))
      refine bodyPost_ret (v := .tuple #[cdag (r.getD cdz), .bool r.isSome]) ?_ rfl ⟨rfl, ex_⟩
      rw [HR.out]
      simp [results, Tryz.results115, go_sem, ↓IntWalk.iteOmega, cdz]
     ·
      have HR : Hid (r = none) := Lib.hid (by rw [HF2.out, cd_no (fun hh => hh.2.2.1 h3)])
      clear HF2
      have hf0 : (a.op != 2) = false := by simp [h1]
      have hf1 : (b.op != 1) = false := by simp [h1, h2]
      have hf2 : (b.v.k == 0) = true := by simp [h1, h2, h3]
      have Hh1 := Lib.hid h1; clear h1
      have Hh2 := Lib.hid h2; clear h2
      have Hh3 := Lib.hid h3; clear h3
      go_wp2_with (go_at_call 144; (refine (vvalid_any b.v _ HQ7.out).mono ?_; rintro e w1 ⟨rfl, hx1⟩; obtain ⟨x1, rfl⟩ := hx1.get; clear hx1))
      refine bodyPost_ret (v := .tuple #[cdag (r.getD cdz), .bool r.isSome]) ?_ rfl ⟨rfl, ex_⟩
      rw [HR.out]
      simp [results, Tryz.results115, go_sem, ↓IntWalk.iteOmega, cdz]
     ·
      have HR : Hid (r = none) := Lib.hid (by rw [HF2.out, cd_no (fun hh => by rw [h4] at hh; exact absurd hh.2.2.2 (by decide))])
      clear HF2
      have hf0 : (a.op != 2) = false := by simp [h1]
      have hf1 : (b.op != 1) = false := by simp [h1, h2]
      have hf2 : (b.v.k == 0) = false := by simp [h1, h2, h3]
      have Hh1 := Lib.hid h1; clear h1
      have Hh2 := Lib.hid h2; clear h2
      have Hh3 := Lib.hid h3; clear h3
      go_wp2_with (go_at_call 144; (refine (vvalid_any b.v _ HQ7.out).mono ?_; rintro e w1 ⟨rfl, hx1⟩; obtain ⟨x1, rfl⟩ := hx1.get; clear hx1))
      refine bodyPost_ret (v := .tuple #[cdag (r.getD cdz), .bool r.isSome]) ?_ rfl ⟨rfl, ex_⟩
      rw [HR.out]
      simp [results, Tryz.results115, go_sem, ↓IntWalk.iteOmega, cdz]
     ·
      have HR : Hid (r = some ⟨o, a.i, b.v⟩) := Lib.hid (by rw [HF2.out, cd_of h1 h2 h3 h4])
      clear HF2
      have hf0 : (a.op != 2) = false := by simp [h1]
      have hf1 : (b.op != 1) = false := by simp [h1, h2]
      have hf2 : (b.v.k == 0) = false := by simp [h1, h2, h3]
      have Hh1 := Lib.hid h1; clear h1
      have Hh2 := Lib.hid h2; clear h2
      have Hh3 := Lib.hid h3; clear h3
      go_wp2_with (go_at_call 144; (refine (vvalid_any b.v _ HQ7.out).mono ?_; rintro e w1 ⟨rfl, hx1⟩; obtain ⟨x1, rfl⟩ := hx1.get; clear hx1))
      refine bodyPost_ret (v := .tuple #[cdag (r.getD cdz), .bool r.isSome]) ?_ rfl ⟨rfl, ex_⟩
      rw [HR.out]
      simp [results, Tryz.results115, go_sem, ↓IntWalk.iteOmega, cdz]
end Go.Proofs.YtdiaecgpjgdkdaaGreat

namespace Go.Proofs.YtdiaecgpjgdkdaaGreat
open Go.RowKit

theorem condF_no {o i : Int} {v : Va} {nm : ByteArray} {args : List Ex} (h : isCmp o = false) : condF (.mk o i v nm args) = none := by
 have e : condF (.mk o i v nm args) = if isCmp o = false then none else _ := rfl
 rw [e, if_pos h]
theorem condF_len {o i : Int} {v : Va} {nm : ByteArray} {args : List Ex} (h : args.length ≠ 2) : condF (.mk o i v nm args) = none := by
 unfold condF
 split
 ·
  rfl
 ·
  match args, h with
  | [], _ => rfl
  | [_], _ => rfl
  | [_, _], h => exact absurd rfl h
  | _ :: _ :: _ :: _, _ => rfl

set_option maxHeartbeats 1600000 in
theorem condition_any (o i : Int) (v : Va) (nm : ByteArray) (A : Option Addr) (args : List Ex) (c : Nat) (css : List (List Value)) (w : World) (hR : Rd w 7 A args.length css.flatten) (hs : REs w args css) (hl : args.length ≤ 9223372036854775807) :
  Calls Tryz.prog 115 #[exag o i v nm A args.length c] w (CPost w (condF (.mk o i v nm args))) := by
 rcases hcmp : isCmp o with _ | _
 ·
  rw [condF_no hcmp]
  simp only [isCmp, Bool.or_eq_false_iff] at hcmp
  obtain ⟨⟨⟨⟨h7, h9⟩, h10⟩, h11⟩, h12⟩ := hcmp
  go_enter Tryz.func115, Tryz.ntmps115
  go_wp2
  refine bodyPost_ret (v := .tuple #[cdag cdz, .bool false]) ?_ rfl ⟨rfl, ex_⟩
  simp [results, Tryz.results115, go_sem, ↓IntWalk.iteOmega, cdz]
 ·
  by_cases hl2 : args.length = 2
  ·
   match args, hl2 with
   | [a, b], _ => exact condition_two o i v nm A a b c css w hR hs hcmp
  ·
   rw [condF_len hl2]
   have hlb : ((args.length : Int) != 2) = true := by simp; omega
   clear hl2
   have hsw : (o == 7) = true ∨ ((o == 7) = false ∧ (o == 9) = true) ∨ ((o == 7) = false ∧ (o == 9) = false ∧ (o == 10) = true) ∨ ((o == 7) = false ∧ (o == 9) = false ∧ (o == 10) = false ∧ (o == 11) = true) ∨ ((o == 7) = false ∧ (o == 9) = false ∧ (o == 10) = false ∧ (o == 11) = false ∧ (o == 12) = true) := by
    simp only [isCmp, Bool.or_eq_true] at hcmp; revert hcmp
    cases o == 7 <;> cases o == 9 <;> cases o == 10 <;> cases o == 11 <;> cases o == 12 <;> simp
   clear hcmp
   rcases hsw with h7 | ⟨h7, h9⟩ | ⟨h7, h9, h10⟩ | ⟨h7, h9, h10, h11⟩ | ⟨h7, h9, h10, h11, h12⟩
   all_goals
    go_enter Tryz.func115, Tryz.ntmps115
    go_wp2
    refine bodyPost_ret (v := .tuple #[cdag cdz, .bool false]) ?_ rfl ⟨rfl, ex_⟩
    simp [results, Tryz.results115, go_sem, ↓IntWalk.iteOmega, cdz]

def cdc (l : List Cd) : List Value := l.flatMap fun c => [.int .i64 c.op, .int .i64 c.col, .int .i64 c.v.k, .int .i64 c.v.i, .string c.v.t]
theorem oneCell_cdc (l : List Cd) : ∀ u ∈ cdc l, u.oneCell' = true := by
 intro u hu
 simp only [cdc, List.mem_flatMap] at hu
 obtain ⟨c, _, hc⟩ := hu
 simp at hc
 rcases hc with rfl | rfl | rfl | rfl | rfl <;> rfl
theorem elCond : El Tryz.prog 163 167 (.agg #[.int .i64 0, .int .i64 0, .int .i64 0, .int .i64 0, .string ⟨#[]⟩]) 5 48 := ⟨Tryz.underlying163, info_parts (by kernel_rfl), rfl, by decide⟩

def CdPost (w0 : World) (res : List Cd) (e : Ending) (w' : World) : Prop :=
 e = .returned (.tuple #[]) ∧ ∃ v' x', w' = ext (w0.alloc (.cells #[v'] 163)) x' ∧ Own (w0.alloc (.cells #[v'] 163)) x' 167 5 v' res.length (cdc res)

theorem CdPost.mk {w0 : World} {u : Value} {res : List Cd} {w' : World} (hE : Ext (w0.alloc (.cells #[u] 163)) w') (ho : w'.ownsRow (w0.alloc (.cells #[u] 163)).heap.size 167 5 u res.length (cdc res)) : CdPost w0 res (.returned (.tuple #[])) w' := by
 obtain ⟨x, rfl⟩ := hE.get
 exact ⟨rfl, u, x, rfl, ho⟩

set_option maxHeartbeats 1600000 in
theorem clos_any (B : Nat) (w0 : World) (hB : w0.heap.size = B) (x : Add) (u : Value) (acc : List Cd) (o i : Int) (v : Va) (nm : ByteArray) (A : Option Addr) (args : List Ex) (c : Nat) (css : List (List Value)) (hR : Rd w0 7 A args.length css.flatten) (hs : REs w0 args css) (hl : args.length ≤ 9223372036854775807)
  (hown : Own (w0.alloc (.cells #[u] 163)) x 167 5 u acc.length (cdc acc)) (hacc : acc.length ≤ 1048576) :
  Calls Tryz.prog 114 #[exag o i v nm A args.length c, .pointer (some ⟨B, 0, none⟩)] (ext (w0.alloc (.cells #[u] 163)) x) (CdPost w0 (acc ++ (condF (.mk o i v nm args)).toList)) := by
 subst hB
 have HC := Lib.hid (fun w h1 h2 => condition_any o i v nm A args c css w h1 h2 hl)
 have HMX : Hid (acc.length + 1 ≤ maxLen) := Lib.hid (by unfold maxLen; omega)
 have HBY : Hid ((acc.length + 1) * 48 ≤ 140737488355328) := Lib.hid (by omega)
 generalize condF (.mk o i v nm args) = r at HC ⊢
 obtain ⟨A1, c1, rfl, hd1, hd2⟩ := Own.form hown
 rcases r with _ | cd
 ·
  go_enter Tryz.func114, Tryz.ntmps114
  go_wp2_with (go_at_call 115; (refine (HC.out _ (hR.ext (ex_)) (REs.ext (ex_) hs)).mono ?_; rintro e w1 ⟨rfl, hb1⟩; obtain ⟨x1, rfl⟩ := hb1.get; clear hb1))
  go_end0
  refine CdPost.mk (u := .slice A1 acc.length c1) ?_ ?_
  ·
   repeat (first | exact Ext.refl' _ | assumption | apply Ext.ex' | apply Ext.al | apply Ext.drN | apply Ext.dr)
  ·
   rw [Option.toList_none, List.append_nil]
   repeat (first | exact hown | apply own_ext | apply World.ownsRow.alloc | apply World.ownsRow.drew)
 ·
  go_enter Tryz.func114, Tryz.ntmps114
  go_wp2_with (first
   | (go_at_call 115; (refine (HC.out _ (hR.ext (ex_)) (REs.ext (ex_) hs)).mono ?_; rintro e w1 ⟨rfl, hb1⟩; obtain ⟨x1, rfl⟩ := hb1.get; clear hb1))
   | (at_builtin; (refine wpList_app _ rfl (.tmp 11) (.tmp 13) rfl elCond (w0.alloc (.cells #[.slice A1 acc.length c1] 163)) (ex_) (.slice A1 acc.length c1) acc.length (cdc acc) rfl (by repeat (first | exact hown | apply own_ext | apply World.ownsRow.alloc | apply World.ownsRow.drew)) _ 1 1 (cdc [cd]) rfl (Rd.lit _ #[.int .i64 cd.op, .int .i64 cd.col, .int .i64 cd.v.k, .int .i64 cd.v.i, .string cd.v.t] _ 1 5 rfl (by simp [size_ext])) (oneCell_cdc [cd]) HMX.out HBY.out ?_; intro v' x' hown' hg; obtain ⟨A', c', rfl, he1, he2⟩ := Own.form hown'; have HO := Lib.hid hown'; clear hg hown')))
  go_end0
  refine ⟨rfl, _, x', rfl, ?_⟩
  have h := own_base (W' := w0.alloc (.cells #[.slice A' (acc.length + 1) c'] 163)) HO.out (by simp)
  simpa [cdc] using h

def isAnd (o i : Int) (v : Va) (nm : ByteArray) (n : Nat) : Bool := o == 5 && decide (2 ≤ n) && i == 0 && emB nm && (v.k == 0 && v.i == 0 && emB v.t)
mutual
def szE : Ex → Nat
 | .mk _ _ _ _ args => szs args + 1
def szs : List Ex → Nat
 | [] => 0
 | e :: es => szE e + szs es
end
theorem szs_get : ∀ (es : List Ex) (k : Nat) (h : k < es.length), szs es[k].args + 1 ≤ szs es
 | [], k, h => by simp at h
 | .mk o i v nm ar :: es, 0, _ => by simp [szs, szE, Ex.args]
 | e :: es, k + 1, h => by
  have := szs_get es k (by simpa using h)
  simp only [List.getElem_cons_succ, szs]
  omega
mutual
def conds : Ex → List Cd
 | .mk o i v nm args => if isAnd o i v nm args.length then condss args else (condF (.mk o i v nm args)).toList
def condss : List Ex → List Cd
 | [] => []
 | e :: es => conds e ++ condss es
end

theorem held_value : Tryz.prog.stoodInHeld 66 = false := by kernel_rfl
@[go_sem] theorem guard_value : Tryz.prog.eqGuardType Tryz.prog.depth 66 = false := by kernel_rfl
@[go_sem high] theorem neq_value (a b c d : Int) (s t : ByteArray) (w : World) : (binOp .neq 66 (.agg #[.int .i64 a, .int .i64 b, .string s]) (.agg #[.int .i64 c, .int .i64 d, .string t])).run Tryz.prog w = .ok (.bool (!(a == c && b == d && s.toList == t.toList))) w := by
 simp [go_sem, held_value, Tryz.underlying66]
 by_cases h1 : a = c <;> by_cases h2 : b = d <;> by_cases h3 : s.toList = t.toList <;> simp [h1, h2, h3]

end Go.Proofs.YtdiaecgpjgdkdaaGreat

namespace Go.Proofs.YtdiaecgpjgdkdaaGreat
open Go.RowKit

theorem Ex.eta (e : Ex) : Ex.mk e.op e.i e.v e.nm e.args = e := by cases e; rfl
theorem szs_len : ∀ es : List Ex, es.length ≤ szs es
 | [] => by simp [szs]
 | .mk _ _ _ _ ar :: es => by have := szs_len es; simp [szs, szE]; omega
theorem condss_drop (args : List Ex) (k : Nat) (h : k < args.length) : condss (args.drop k) = conds args[k] ++ condss (args.drop (k + 1)) := by
 rw [List.drop_eq_getElem_cons h, condss]
theorem own_at {W W' : World} {x : Add} {e size n : Nat} {v : Value} {xs : List Value} {o : Obj} (h : Own W x e size v n xs) : ∃ x2, (ext W x).alloc o = ext W x2 ∧ Own W x2 e size v n xs := by
 obtain ⟨x2, hx2⟩ := (show Ext W ((ext W x).alloc o) from (Ext.ex W x).al o).get
 exact ⟨x2, hx2, Own.of_eq (World.ownsRow.alloc h o) hx2⟩

def EB (o i : Int) (v : Va) (nm : ByteArray) (A : Option Addr) (n c : Nat) : Obj := .cells #[.int .i64 o, .int .i64 i, .int .i64 v.k, .int .i64 v.i, .string v.t, .string nm, .slice A n c] 68

set_option maxHeartbeats 4000000 in
theorem each_no (B : Nat) (w0 : World) (hB : w0.heap.size = B) (o i : Int) (v : Va) (nm : ByteArray) (A : Option Addr) (args : List Ex) (c : Nat) (css : List (List Value)) (x : Add) (u : Value) (acc : List Cd) (hR : Rd w0 7 A args.length css.flatten) (hs : REs w0 args css) (hl : args.length ≤ 9223372036854775807)
  (hown : Own (w0.alloc (.cells #[u] 163)) x 167 5 u acc.length (cdc acc)) (hb : acc.length + (conds (.mk o i v nm args)).length ≤ 1048576) (han : isAnd o i v nm args.length = false) :
  Calls Tryz.prog 113 #[exag o i v nm A args.length c, .func (.func 114) #[] #[.pointer (some ⟨B, 0, none⟩)]] (ext (w0.alloc (.cells #[u] 163)) x) (CdPost w0 (acc ++ conds (.mk o i v nm args))) := by
 have hcd : conds (.mk o i v nm args) = (condF (.mk o i v nm args)).toList := by rw [conds, han]; rfl
 rw [hcd] at hb ⊢
 obtain ⟨x2, hx2, ho2⟩ := own_at (W' := w0) (o := EB o i v nm A args.length c) hown
 have HCL := Lib.hid (clos_any B w0 hB x2 u acc o i v nm A args c css hR hs hl ho2 (by omega))
 have HX2 : Hid ((ext (w0.alloc (.cells #[u] 163)) x).alloc (.cells #[.int .i64 o, .int .i64 i, .int .i64 v.k, .int .i64 v.i, .string v.t, .string nm, .slice A args.length c] 68) = ext (w0.alloc (.cells #[u] 163)) x2) := Lib.hid hx2
 have hcs : (¬ o = 5) ∨ (o = 5 ∧ ¬ 2 ≤ args.length) ∨ (o = 5 ∧ 2 ≤ args.length ∧ ¬ i = 0) ∨ (o = 5 ∧ 2 ≤ args.length ∧ i = 0 ∧ emB nm = false) ∨ (o = 5 ∧ 2 ≤ args.length ∧ i = 0 ∧ emB nm = true ∧ (v.k == 0 && v.i == 0 && emB v.t) = false) := by
  revert han
  unfold isAnd
  generalize emB nm = p
  generalize (v.k == 0 && v.i == 0 && emB v.t) = q
  by_cases h1 : o = 5 <;> by_cases h2 : 2 ≤ args.length <;> by_cases h3 : i = 0 <;> cases p <;> cases q <;> simp [h1, h2, h3]
 clear hcd hb hx2 ho2 han hown hR hs
 generalize (condF (.mk o i v nm args)).toList = rs at HCL ⊢
 rcases hcs with h1 | ⟨h1, h2⟩ | ⟨h1, h2, h3⟩ | ⟨h1, h2, h3, h4⟩ | ⟨h1, h2, h3, h4, h5⟩
 ·
  have f1 : (o != 5) = true := by simp [h1]
  clear h1
  go_enter Tryz.func113, Tryz.ntmps113
  go_wp2_with (go_at_call 114; (rw [HX2.out]; refine HCL.out.mono ?_; rintro e w1 ⟨rfl, v', x', rfl, hown'⟩))
  refine bodyPost_ret (results_none rfl _ _ _) rfl ⟨rfl, v', x', rfl, hown'⟩
 ·
  have f1 : (o != 5) = false := by simp [h1]
  have f2 : decide ((args.length : Int) < 2) = true := by simp; omega
  clear h1 h2
  go_enter Tryz.func113, Tryz.ntmps113
  go_wp2_with (go_at_call 114; (rw [HX2.out]; refine HCL.out.mono ?_; rintro e w1 ⟨rfl, v', x', rfl, hown'⟩))
  refine bodyPost_ret (results_none rfl _ _ _) rfl ⟨rfl, v', x', rfl, hown'⟩
 ·
  have f1 : (o != 5) = false := by simp [h1]
  have f2 : decide ((args.length : Int) < 2) = false := by simp; omega
  have f3 : (i != 0) = true := by simp [h3]
  clear h1 h3
  go_enter Tryz.func113, Tryz.ntmps113
  go_wp2_with (go_at_call 114; (rw [HX2.out]; refine HCL.out.mono ?_; rintro e w1 ⟨rfl, v', x', rfl, hown'⟩))
  refine bodyPost_ret (results_none rfl _ _ _) rfl ⟨rfl, v', x', rfl, hown'⟩
 ·
  have f1 : (o != 5) = false := by simp [h1]
  have f2 : decide ((args.length : Int) < 2) = false := by simp; omega
  have f3 : (i != 0) = false := by simp [h3]
  have f4 : ¬ nm.toList = [] := by simpa [emB] using h4
  have f5 : nm.toList.isEmpty = false := h4
  clear h1 h3 h4
  go_enter Tryz.func113, Tryz.ntmps113
  go_wp2_with (go_at_call 114; (rw [HX2.out]; refine HCL.out.mono ?_; rintro e w1 ⟨rfl, v', x', rfl, hown'⟩))
  refine bodyPost_ret (results_none rfl _ _ _) rfl ⟨rfl, v', x', rfl, hown'⟩
 ·
  have f1 : (o != 5) = false := by simp [h1]
  have f2 : decide ((args.length : Int) < 2) = false := by simp; omega
  have f3 : (i != 0) = false := by simp [h3]
  have f4 : nm.toList = [] := by simpa [emB] using h4
  have f5 : (!v.k == 0 || !v.i == 0 || !v.t.toList.isEmpty) = true := by
   have e : emB v.t = v.t.toList.isEmpty := rfl
   rw [e] at h5
   revert h5
   cases v.k == 0 <;> cases v.i == 0 <;> cases v.t.toList.isEmpty <;> simp
  clear h1 h3 h4 h5
  go_enter Tryz.func113, Tryz.ntmps113
  go_wp2_with (go_at_call 114; (rw [HX2.out]; refine HCL.out.mono ?_; rintro e w1 ⟨rfl, v', x', rfl, hown'⟩))
  refine bodyPost_ret (results_none rfl _ _ _) rfl ⟨rfl, v', x', rfl, hown'⟩

set_option maxHeartbeats 4000000 in
theorem each_any (B : Nat) (w0 : World) (hB : w0.heap.size = B) (N : Nat) : ∀ (m : Nat) (o i : Int) (v : Va) (nm : ByteArray) (A : Option Addr) (args : List Ex) (c : Nat) (css : List (List Value)) (x : Add) (u : Value) (acc : List Cd), szs args ≤ m → Rd w0 7 A args.length css.flatten → REs w0 args css → args.length ≤ 9223372036854775807 →
  Own (w0.alloc (.cells #[u] 163)) x 167 5 u acc.length (cdc acc) → acc.length + (conds (.mk o i v nm args)).length ≤ 1048576 →
  Calls Tryz.prog 113 #[exag o i v nm A args.length c, .func (.func 114) #[] #[.pointer (some ⟨B, 0, none⟩)]] (ext (w0.alloc (.cells #[u] 163)) x) (CdPost w0 (acc ++ conds (.mk o i v nm args))) := by
 intro m
 induction m with
 | zero =>
  intro o i v nm A args c css x u acc hm hR hs hl hown hb
  rcases han : isAnd o i v nm args.length with _ | _
  ·
   exact each_no B w0 hB o i v nm A args c css x u acc hR hs hl hown hb han
  ·
   exfalso
   simp [isAnd] at han
   have := szs_len args
   omega
 | succ m ih =>
  intro o i v nm A args c css x u acc hm hR hs hl hown hb
  rcases han : isAnd o i v nm args.length with _ | _
  ·
   exact each_no B w0 hB o i v nm A args c css x u acc hR hs hl hown hb han
  ·
   have hcd : conds (.mk o i v nm args) = condss args := by rw [conds, han]; rfl
   rw [hcd] at hb ⊢
   simp only [isAnd, Bool.and_eq_true, beq_iff_eq, decide_eq_true_eq] at han
   obtain ⟨⟨⟨⟨h1, h2⟩, h3⟩, h4⟩, ⟨h5, h6⟩, h7⟩ := han
   have f1 : (o != 5) = false := by simp [h1]
   have f2 : decide ((args.length : Int) < 2) = false := by simp; omega
   have f3 : (i != 0) = false := by simp [h3]
   have f4 : nm.toList = [] := by simpa [emB] using h4
   have f5 : (v.k == 0) = true := by simp [h5]
   have f6 : (v.i == 0) = true := by simp [h6]
   have f7 : v.t.toList = [] := by simpa [emB] using h7
   clear h1 h3 h4 h5 h6 h7 hcd
   have IH := Lib.hid ih
   have HM := Lib.hid hm
   have HB := Lib.hid hb
   clear ih hm hb
   go_enter Tryz.func113, Tryz.ntmps113
   go_wp2_with fail
   go_loopw [37] (fun ix wr => ∃ (k : Nat) (v' : Value) (x' : Add) (ac : List Cd), k ≤ args.length ∧ ix = .int .i64 k ∧ Hid (acc ++ condss args = ac ++ condss (args.drop k)) ∧ wr = ext (w0.alloc (.cells #[v'] 163)) x' ∧ Own (w0.alloc (.cells #[v'] 163)) x' 167 5 v' ac.length (cdc ac)) (fun ix _ => args.length - (intOf ix).toNat)
   case atStart =>
    obtain ⟨x2, hx2, ho2⟩ := own_at (W' := w0) (o := EB o i v nm A args.length c) hown
    exact ⟨0, u, x2, acc, Nat.zero_le _, rfl, Lib.hid rfl, hx2, ho2⟩
   case round =>
    obtain ⟨k, v', x', ac, hk, rfl, HC, rfl, hown'⟩ := hrel
    by_cases hlt : k < args.length
    ·
     obtain ⟨b0, o0, rfl, hb0, A1, c1, css1, p0, p1, p2, p3, p4, p5, p6, p7, p8, p9, p10, p11, p12⟩ := RE.arg hR hs hlt
     obtain ⟨x2, hx2, ho2⟩ := own_at (W' := w0) (o := EB args[k].op args[k].i args[k].v args[k].nm A1 args[k].args.length c1) hown'
     have hct : condss (args.drop k) = conds args[k] ++ condss (args.drop (k + 1)) := condss_drop args k hlt
     have HE := HC.out
     rw [hct, ← List.append_assoc] at HE
     have hle : ac.length + (conds args[k]).length ≤ 1048576 := by
      have h8 := congrArg List.length HE
      have h9 := HB.out
      simp only [List.length_append] at h8
      omega
     have hsz := szs_get args k hlt
     have HR := IH.out args[k].op args[k].i args[k].v args[k].nm A1 args[k].args c1 css1 x2 v' ac (by have := HM.out; omega) p11 p12 p9 ho2 (by rw [Ex.eta]; exact hle)
     rw [Ex.eta] at HR
     have HR2 := Lib.hid HR
     have HX2 : Hid ((ext (w0.alloc (.cells #[v'] 163)) x').alloc (.cells #[.int .i64 args[k].op, .int .i64 args[k].i, .int .i64 args[k].v.k, .int .i64 args[k].v.i, .string args[k].v.t, .string args[k].nm, .slice A1 args[k].args.length c1] 68) = ext (w0.alloc (.cells #[v'] 163)) x2) := Lib.hid hx2
     have HE2 := Lib.hid HE
     clear HC HE HR hx2 ho2 hct hle hsz p7 p8 p9 p10 p11 p12 hown'
     generalize args[k] = ek at p0 p1 p2 p3 p4 p5 p6 HR2 HX2 HE2
     go_wp2_with (go_at_call 113; (rw [HX2.out]; refine HR2.out.mono ?_; rintro e w1 ⟨rfl, v3, x3, rfl, hown3⟩))
     go_roundw
     case rel =>
      go_light
      exact ⟨k + 1, v3, x3, _, by omega, by go_num, HE2, rfl, hown3⟩
     case measure => go_light; simp [intOf]; omega
    ·
     have H0 : Hid (acc ++ condss args = ac) := Lib.hid (by rw [HC.out, List.drop_eq_nil_of_le (Nat.le_of_not_lt hlt), condss, List.append_nil])
     clear HC
     go_wp2_with fail
     go_end0
     rw [H0.out]
     exact ⟨rfl, v', x', rfl, hown'⟩
end Go.Proofs.YtdiaecgpjgdkdaaGreat

namespace Go.Proofs.YtdiaecgpjgdkdaaGreat
open Go.RowKit

set_option maxHeartbeats 1600000 in
theorem conditions_any (o i : Int) (v : Va) (nm : ByteArray) (A : Option Addr) (args : List Ex) (c : Nat) (css : List (List Value)) (w : World) (hR : Rd w 7 A args.length css.flatten) (hs : REs w args css) (hl : args.length ≤ 9223372036854775807) (hb : (conds (.mk o i v nm args)).length ≤ 1048576) :
  Calls Tryz.prog 80 #[exag o i v nm A args.length c] w fun e w' => ∃ v', e = .returned v' ∧ Ext w w' ∧ w'.ownsRow w.heap.size 167 5 v' (conds (.mk o i v nm args)).length (cdc (conds (.mk o i v nm args))) := by
 obtain ⟨w0, hw0⟩ : ∃ w0, w0 = w.alloc (.cells #[.int .i64 o, .int .i64 i, .int .i64 v.k, .int .i64 v.i, .string v.t, .string nm, .slice A args.length c] 68) := ⟨_, rfl⟩
 have hE : Ext w w0 := by rw [hw0]; exact Ext.al1 _ _
 have hsz : w0.heap.size = w.heap.size + 1 := by rw [hw0]; simp
 obtain ⟨x0, hx0⟩ := (Ext.refl' (w0.alloc (.cells #[.slice none 0 0] 163))).get
 have HE := Lib.hid (each_any (w.heap.size + 1) w0 hsz 0 (szs args) o i v nm A args c css x0 (.slice none 0 0) [] (Nat.le_refl _) (hR.ext hE) (REs.ext hE hs) hl (own_nil _ _ _ _) (by simpa using hb))
 rw [← hx0, List.nil_append] at HE
 have HSZ := Lib.hid hsz
 subst hw0
 clear hx0 hsz hb
 generalize conds (.mk o i v nm args) = cs at HE ⊢
 go_enter Tryz.func80, Tryz.ntmps80
 go_wp2_with (go_at_call 113; (refine HE.out.mono ?_; rintro e w1 ⟨rfl, v', x', rfl, hown'⟩; obtain ⟨A', c', rfl, he1, he2⟩ := Own.form hown'))
 go_ret
 exact ⟨_, rfl, ex_, own_mono hown' (by (try simp); (try omega))⟩

theorem flatMap_getP {α : Type} (g : α → List Value) (sz : Nat) (hg : ∀ a, (g a).length = sz) : ∀ (l : List α) (k : Nat) (hk : k < l.length) (j : Nat), j < sz → (l.flatMap g)[k * sz + j]? = (g l[k])[j]?
 | [], k, hk, j, _ => by simp at hk
 | a :: l, 0, hk, j, hj => by
  rw [List.flatMap_cons, Nat.zero_mul, Nat.zero_add, List.getElem?_append_left (by rw [hg]; exact hj)]; rfl
 | a :: l, k + 1, hk, j, hj => by
  have := flatMap_getP g sz hg l k (by simpa using hk) j hj
  rw [List.flatMap_cons, List.getElem?_append_right (by rw [hg, Nat.add_mul]; omega), List.getElem_cons_succ, ← this, hg, Nat.add_mul]
  congr 1
  omega
theorem Rd.elem {α : Type} {g : α → List Value} {w : World} {A : Option Addr} {l : List α} {sz n : Nat} (h : Rd w sz A n (l.flatMap g)) (hg : ∀ a, (g a).length = sz) (hsz : 0 < sz) (hn : n = l.length) {k : Nat} (hk : k < l.length) :
  ∃ b o, A = some ⟨b, o, none⟩ ∧ b < w.heap.size ∧ ∀ j u, (g l[k])[j]? = some u → w.cell? ⟨b, o + (k * sz + j), none⟩ = some u := by
 obtain ⟨b, o, hA, hb, hc⟩ := h.2 (Nat.mul_pos (by omega) hsz)
 refine ⟨b, o, hA, hb, fun j u hu => hc _ _ ?_⟩
 rw [flatMap_getP g sz hg l k hk j (by have := (List.getElem?_eq_some_iff.1 hu).1; rw [hg] at this; exact this)]
 exact hu
theorem Rd.cond {w : World} {A : Option Addr} {l : List Cd} {n : Nat} (h : Rd w 5 A n (cdc l)) (hn : n = l.length) {k : Nat} (hk : k < l.length) :
  ∃ b o, A = some ⟨b, o, none⟩ ∧ b < w.heap.size ∧ w.cell? ⟨b, o + k * 5, none⟩ = some (.int .i64 l[k].op) ∧ w.cell? ⟨b, o + k * 5 + 1, none⟩ = some (.int .i64 l[k].col) ∧ w.cell? ⟨b, o + k * 5 + 2, none⟩ = some (.int .i64 l[k].v.k) ∧ w.cell? ⟨b, o + k * 5 + 3, none⟩ = some (.int .i64 l[k].v.i) ∧ w.cell? ⟨b, o + k * 5 + 4, none⟩ = some (.string l[k].v.t) := by
 obtain ⟨b, o, hA, hb, hc⟩ := Rd.elem h (fun _ => rfl) (by decide) hn hk
 exact ⟨b, o, hA, hb, hc 0 _ rfl, hc 1 _ rfl, hc 2 _ rfl, hc 3 _ rfl, hc 4 _ rfl⟩

def isEq (k : Int) (c : Cd) : Bool := c.op == 7 && c.col == k

set_option maxHeartbeats 800000 in
theorem preclos_any (cd : Cd) (kb : Nat) (k : Int) (w : World) (hk : w.cell? ⟨kb, 0, none⟩ = some (.int .i64 k)) (hkb : kb < w.heap.size) :
  Calls Tryz.prog 82 #[cdag cd, .pointer (some ⟨kb, 0, none⟩)] w fun e w' => e = .returned (.bool (isEq k cd)) ∧ Ext w w' := by
 go_enter Tryz.func82, Tryz.ntmps82
 go_wp2
 all_goals go_ret
 all_goals refine ⟨?_, ex_⟩
 all_goals simp_all [isEq]

def idxF (k : Int) : Nat → List Cd → Int
 | _, [] => -1
 | j, c :: l => if isEq k c then (j : Int) else idxF k (j + 1) l

set_option maxHeartbeats 800000 in
theorem index_any (A : Option Addr) (c : Nat) (l : List Cd) (kb : Nat) (k : Int) (w : World) (hR : Rd w 5 A l.length (cdc l)) (hl : l.length ≤ 9223372036854775807) (hk : w.cell? ⟨kb, 0, none⟩ = some (.int .i64 k)) (hkb : kb < w.heap.size) :
  Calls Tryz.prog 81 #[.slice A l.length c, .func (.func 82) #[] #[.pointer (some ⟨kb, 0, none⟩)]] w fun e w' => e = .returned (.int .i64 (idxF k 0 l)) ∧ Ext w w' := by
 go_enter Tryz.func81, Tryz.ntmps81
 go_wp2
 go_loopw [8] (fun i wr => ∃ j : Nat, j ≤ l.length ∧ i = .int .i64 j ∧ Hid (idxF k 0 l = idxF k j (l.drop j)) ∧ Ext w wr) (fun i _ => l.length - (intOf i).toNat)
 case atStart => exact ⟨0, Nat.zero_le _, rfl, Lib.hid rfl, Ext.refl' _⟩
 case round =>
  obtain ⟨j, hj, rfl, HC, hext⟩ := hrel
  obtain ⟨x, rfl⟩ := hext.get
  clear hext
  by_cases hlt : j < l.length
  ·
   obtain ⟨b, o, rfl, hb, c0, c1, c2, c3, c4⟩ := hR.cond rfl hlt
   have HD : Hid (idxF k 0 l = idxF k j (l[j] :: l.drop (j + 1))) := Lib.hid (by rw [HC.out, List.drop_eq_getElem_cons hlt])
   clear HC
   generalize l[j] = cd at c0 c1 c2 c3 c4 HD
   have HK : Hid ((ext w x).cell? ⟨kb, 0, none⟩ = some (.int .i64 k)) := Lib.hid (cell_ex hk)
   have HKB : Hid (kb < (ext w x).heap.size) := Lib.hid (by simp; omega)
   rcases hq : isEq k cd with _ | _
   ·
    have H0 : Hid (idxF k 0 l = idxF k (j + 1) (l.drop (j + 1))) := Lib.hid (by rw [HD.out, idxF, hq]; rfl)
    clear HD
    go_wp2_with (go_at_call 82; (refine (preclos_any cd kb k _ HK.out HKB.out).mono ?_; rintro e w1 ⟨rfl, hb1⟩; obtain ⟨x1, rfl⟩ := hb1.get; clear hb1))
    go_roundw
    case rel => go_light; exact ⟨j + 1, by omega, by go_num, H0, ex_⟩
    case measure => go_light; simp [intOf]; omega
   ·
    have H0 : Hid (idxF k 0 l = (j : Int)) := Lib.hid (by rw [HD.out, idxF, hq]; rfl)
    clear HD
    go_wp2_with (go_at_call 82; (refine (preclos_any cd kb k _ HK.out HKB.out).mono ?_; rintro e w1 ⟨rfl, hb1⟩; obtain ⟨x1, rfl⟩ := hb1.get; clear hb1))
    go_ret
    exact ⟨by rw [H0.out]; rfl, ex_⟩
  ·
   have H0 : Hid (idxF k 0 l = -1) := Lib.hid (by rw [HC.out, List.drop_eq_nil_of_le (Nat.le_of_not_lt hlt)]; rfl)
   clear HC
   go_wp2
   go_ret
   exact ⟨by rw [H0.out]; rfl, ex_⟩

def prefF (cs : List Cd) : List Int → List Va
 | [] => []
 | k :: ks => match cs.find? (isEq k) with
  | none => []
  | some c => c.v :: prefF cs ks
theorem idx_none {k : Int} : ∀ {l : List Cd} {j : Nat}, l.find? (isEq k) = none → idxF k j l = -1
 | [], j, _ => rfl
 | c :: l, j, h => by
  rw [List.find?_cons] at h
  split at h
  ·
   cases h
  ·
   rename_i hq
   rw [idxF, hq]
   exact idx_none h
theorem idx_some {k : Int} {cd : Cd} : ∀ {l : List Cd} {j : Nat}, l.find? (isEq k) = some cd → ∃ m, ∃ h : m < l.length, idxF k j l = ((j + m : Nat) : Int) ∧ l[m] = cd
 | [], j, h => by cases h
 | c :: l, j, h => by
  rw [List.find?_cons] at h
  split at h
  ·
   rename_i hq
   cases h
   exact ⟨0, by simp, by rw [idxF, hq]; rfl, rfl⟩
  ·
   rename_i hq
   obtain ⟨m, hm, h1, h2⟩ := idx_some (j := j + 1) h
   refine ⟨m + 1, by simpa using hm, ?_, by simpa using h2⟩
   rw [idxF, hq]
   simp only [Bool.false_eq_true, if_false, h1]
   congr 1
   omega
theorem prefF_length (cs : List Cd) : ∀ ks : List Int, (prefF cs ks).length ≤ ks.length
 | [] => by simp [prefF]
 | k :: ks => by
  have := prefF_length cs ks
  rw [prefF]
  split <;> simp; omega

def vcs (l : List Va) : List Value := l.flatMap vc
theorem oneCell_vcs (l : List Va) : ∀ u ∈ vcs l, u.oneCell' = true := by
 intro u hu
 simp only [vcs, List.mem_flatMap, vc] at hu
 obtain ⟨c, _, hc⟩ := hu
 simp at hc
 rcases hc with rfl | rfl | rfl <;> rfl
theorem elVal : El Tryz.prog 33 66 (.agg #[.int .i64 0, .int .i64 0, .string ⟨#[]⟩]) 3 32 := ⟨Tryz.underlying33, info_parts (by kernel_rfl), rfl, by decide⟩

set_option maxHeartbeats 4000000 in
theorem prefix_any (t0 t1 t3 t4 : Value) (K : Option Addr) (ks : List Int) (kc : Nat) (o i : Int) (v : Va) (nm : ByteArray) (A : Option Addr) (args : List Ex) (c : Nat) (css : List (List Value)) (w : World) (ht0 : ∃ s, t0 = .string s) (ht1 : ∃ a n c, t1 = .slice a n c) (ht3 : ∃ a n c, t3 = .slice a n c) (ht4 : ∃ a n c, t4 = .slice a n c)
  (hK : Rd w 1 K ks.length (ic ks)) (hkl : ks.length ≤ 1048576) (hR : Rd w 7 A args.length css.flatten) (hs : REs w args css) (hl : args.length ≤ 9223372036854775807) (hb : (conds (.mk o i v nm args)).length ≤ 1048576) :
  Calls Tryz.prog 41 #[.agg #[t0, t1, .slice K ks.length kc, t3, t4], exag o i v nm A args.length c] w fun e w' => ∃ v', e = .returned v' ∧ Ext w w' ∧ w'.ownsRow w.heap.size 66 3 v' (prefF (conds (.mk o i v nm args)) ks).length (vcs (prefF (conds (.mk o i v nm args)) ks)) := by
 obtain ⟨s0, rfl⟩ := ht0
 obtain ⟨a1, n1, m1, rfl⟩ := ht1
 obtain ⟨a3, n3, m3, rfl⟩ := ht3
 obtain ⟨a4, n4, m4, rfl⟩ := ht4
 have HC := Lib.hid (fun w h1 h2 => conditions_any o i v nm A args c css w h1 h2 hl hb)
 generalize conds (.mk o i v nm args) = cs at HC hb ⊢
 go_enter Tryz.func41, Tryz.ntmps41
 go_wp2_with (go_at_call 80; (refine (HC.out _ (hR.ext (ex_)) (REs.ext (ex_) hs)).mono ?_; rintro e w1 ⟨v1, rfl, hb1, ho1⟩; obtain ⟨x1, rfl⟩ := hb1.get; obtain ⟨A1, c1, rfl, hd1, hd2⟩ := Own.form ho1; have hR1 := Rd.of_own ho1; clear hb1 ho1 hd1 hd2))
 have hE1 : Ext w (ext ((w.alloc (.cells #[.string s0, .slice a1 n1 m1, .slice K ks.length kc, .slice a3 n3 m3, .slice a4 n4 m4] 27)).alloc (.cells #[.int .i64 o, .int .i64 i, .int .i64 v.k, .int .i64 v.i, .string v.t, .string nm, .slice A args.length c] 68)) x1) := (ex_)
 generalize ext ((w.alloc (.cells #[.string s0, .slice a1 n1 m1, .slice K ks.length kc, .slice a3 n3 m3, .slice a4 n4 m4] 27)).alloc (.cells #[.int .i64 o, .int .i64 i, .int .i64 v.k, .int .i64 v.i, .string v.t, .string nm, .slice A args.length c] 68)) x1 = W1 at hR1 hE1 ⊢
 have hK1 := hK.ext hE1
 have HCL : Hid (cs.length ≤ 9223372036854775807) := Lib.hid (by omega)
 go_loopw [6, 15] (fun out i wr => ∃ (k : Nat) (acc : List Va), k ≤ ks.length ∧ i = .int .i64 k ∧ acc.length ≤ k ∧ Hid (prefF cs ks = acc ++ prefF cs (ks.drop k)) ∧ Ext W1 wr ∧ wr.ownsRow W1.heap.size 66 3 out acc.length (vcs acc)) (fun _ i _ => ks.length - (intOf i).toNat)
 case atStart => exact ⟨0, [], Nat.zero_le _, rfl, Nat.zero_le _, Lib.hid rfl, Ext.refl' _, World.ownsRow_nil _ _ _ _⟩
 case round =>
  obtain ⟨k, acc, hk, rfl, hal, HC, hext, hown⟩ := hrel
  obtain ⟨x, rfl⟩ := hext.get
  clear hext
  by_cases hlt : k < ks.length
  ·
   obtain ⟨b, o', rfl, hb', hc1⟩ := hK1.int hlt
   have HD := HC.out
   rw [List.drop_eq_getElem_cons hlt, prefF] at HD
   generalize ks[k] = kk at hc1 HD
   cases hf : cs.find? (isEq kk) with
   | none =>
    rw [hf, List.append_nil] at HD
    have HI := idx_none (j := 0) hf
    have H0 := Lib.hid HD
    clear HC HD hf
    go_wp2_with (go_at_call 81; (refine (index_any A1 c1 cs (W1.heap.size + x.n) kk _ (hR1.ext (ex_)) HCL.out (by simp [go_sem, ↓IntWalk.iteOmega]) (by simp)).mono ?_; rintro e w1 ⟨rfl, hb2⟩; obtain ⟨x2, rfl⟩ := hb2.get; clear hb2))
    go_ret
    exact ⟨_, rfl, hE1.tr (ex_), by rw [H0.out]; exact own_mono (by repeat (first | exact hown | apply own_ext | apply World.ownsRow.alloc | apply World.ownsRow.drew)) hE1.size⟩
   | some cd =>
    rw [hf] at HD
    simp only at HD
    obtain ⟨m, hm, HI, hcd⟩ := idx_some (j := 0) hf
    rw [Nat.zero_add] at HI
    obtain ⟨bb, oo, rfl, hbb, d0, d1, d2, d3, d4⟩ := hR1.cond rfl hm
    rw [hcd] at d0 d1 d2 d3 d4
    have H0 : Hid (prefF cs ks = (acc ++ [cd.v]) ++ prefF cs (ks.drop (k + 1))) := Lib.hid (by rw [HD]; simp)
    have HMX : Hid (acc.length + 1 ≤ maxLen) := Lib.hid (by unfold maxLen; omega)
    have HBY : Hid ((acc.length + 1) * 32 ≤ 140737488355328) := Lib.hid (by omega)
    clear HC HD hf hcd d0 d1
    go_wp2_with (first
     | (go_at_call 81; (refine (index_any _ c1 cs (W1.heap.size + x.n) kk _ (hR1.ext (ex_)) HCL.out (by simp [go_sem, ↓IntWalk.iteOmega]) (by simp)).mono ?_; rintro e w1 ⟨rfl, hb2⟩; obtain ⟨x2, rfl⟩ := hb2.get; clear hb2))
     | (at_builtin; (refine wpList_app _ rfl (.tmp 24) (.tmp 30) rfl elVal W1 (ex_) _ acc.length (vcs acc) rfl (by repeat (first | exact hown | apply own_ext | apply World.ownsRow.alloc | apply World.ownsRow.drew)) _ 1 1 (vcs [cd.v]) rfl (Rd.lit _ #[.int .i64 cd.v.k, .int .i64 cd.v.i, .string cd.v.t] _ 1 3 rfl (by simp [size_ext])) (oneCell_vcs [cd.v]) HMX.out HBY.out ?_; intro v' x' hown' hg; have HO := Lib.hid hown'; clear hg hown')))
    go_roundw
    case rel =>
     go_light
     exact ⟨k + 1, acc ++ [cd.v], by omega, by go_num, by simp; omega, H0, ex_, by simpa [vcs] using HO.out⟩
    case measure => go_light; simp [intOf]; omega
  ·
   have H0 : Hid (prefF cs ks = acc) := Lib.hid (by rw [HC.out, List.drop_eq_nil_of_le (Nat.le_of_not_lt hlt), prefF, List.append_nil])
   clear HC
   go_wp2
   go_ret
   exact ⟨_, rfl, hE1.tr (ex_), by rw [H0.out]; exact own_mono hown hE1.size⟩
end Go.Proofs.YtdiaecgpjgdkdaaGreat

namespace Go.Proofs.YtdiaecgpjgdkdaaGreat
open Go.RowKit

def RI (e : Ending) : Prop := ∃ k : Int, e = .returned (.int .i64 k)
set_option maxHeartbeats 4000000 in
theorem depth_any (m : Nat) : ∀ (o i : Int) (v : Va) (nm : ByteArray) (A : Option Addr) (args : List Ex) (c : Nat) (css : List (List Value)) (w : World), szs args = m → Rd w 7 A args.length css.flatten → REs w args css → args.length ≤ 9223372036854775807 →
  Calls Tryz.prog 141 #[exag o i v nm A args.length c] w fun e w' => RI e ∧ Ext w w' := by
 induction m using Nat.strongRecOn with
 | _ m ih =>
  intro o i v nm A args c css w hm hR hs hl
  have IH := Lib.hid ih
  have HM := Lib.hid hm
  clear ih hm
  go_enter Tryz.func141, Tryz.ntmps141
  go_wp2_with fail
  go_loopw [3, 4] (fun q ix wr => ∃ (k : Nat) (acc : Int) (x : Add), k ≤ args.length ∧ q = .int .i64 acc ∧ ix = .int .i64 k ∧ wr = ext (w.alloc (.cells #[.int .i64 o, .int .i64 i, .int .i64 v.k, .int .i64 v.i, .string v.t, .string nm, .slice A args.length c] 68)) x) (fun _ ix _ => args.length - (intOf ix).toNat)
  case atStart =>
   obtain ⟨x, hx⟩ := (Ext.refl' (w.alloc (.cells #[.int .i64 o, .int .i64 i, .int .i64 v.k, .int .i64 v.i, .string v.t, .string nm, .slice A args.length c] 68))).get
   exact ⟨0, 0, x, Nat.zero_le _, rfl, rfl, hx⟩
  case round =>
   obtain ⟨k, acc, x, hk, rfl, rfl, rfl⟩ := hrel
   by_cases hlt : k < args.length
   ·
    have hR1 := hR.ext (show Ext w (ext (w.alloc (.cells #[.int .i64 o, .int .i64 i, .int .i64 v.k, .int .i64 v.i, .string v.t, .string nm, .slice A args.length c] 68)) x) from ex_)
    have hs1 := REs.ext (show Ext w (ext (w.alloc (.cells #[.int .i64 o, .int .i64 i, .int .i64 v.k, .int .i64 v.i, .string v.t, .string nm, .slice A args.length c] 68)) x) from ex_) hs
    obtain ⟨b0, o0, hAe, hb0, A1, c1, css1, p0, p1, p2, p3, p4, p5, p6, p7, p8, p9, p10, p11, p12⟩ := RE.arg hR1 hs1 hlt
    subst hAe
    have hsz := szs_get args k hlt
    have HR := IH.out _ (by have := HM.out; omega) args[k].op args[k].i args[k].v args[k].nm A1 args[k].args c1 css1 _ rfl p11 p12 p9
    have HR2 := Lib.hid HR
    clear HR hsz p7 p8 p9 p10 p11 p12 hR1 hs1
    generalize args[k] = ek at p0 p1 p2 p3 p4 p5 p6 HR2
    go_wp2_with (go_at_call 141; refine HR2.out.mono ?_; rintro e w1 ⟨⟨dk, rfl⟩, hb1⟩; obtain ⟨x1, rfl⟩ := hb1.get; clear hb1)
    go_roundw
    case rel =>
     go_light
     obtain ⟨x2, hx2⟩ := ((Ext.ex (w.alloc (.cells #[.int .i64 o, .int .i64 i, .int .i64 v.k, .int .i64 v.i, .string v.t, .string nm, .slice (some ⟨b0, o0, none⟩) args.length c] 68)) x).tr (Ext.ex _ x1)).get
     exact ⟨k + 1, _, x2, by omega, rfl, by go_num, hx2⟩
    case measure => go_light; simp [intOf]; omega
   ·
    go_wp2_with fail
    go_ret
    exact ⟨⟨_, rfl⟩, ex_⟩

end Go.Proofs.YtdiaecgpjgdkdaaGreat
