/- Lemmas for the rows: Vcp Vrw Vpk Vr9. -/
import Derived.Test.YtdiaecgpjgdkdaaGreatThS09
import Derived.Lib.Bytealg
import Derived.Test.YtdiaecgpjgdkdaaGreatThS05
import Derived.Deep.RegionHeld3
import Derived.Laws.Strings
set_option linter.unusedSimpArgs false
set_option linter.unusedVariables false
namespace Go.Proofs.YtdiaecgpjgdkdaaGreat
open Go.RowKit

theorem cb_spec : ∀ (x y : List UInt8), Lib.compareBytes x y = if Op.bytesLess x y then -1 else if x = y then 0 else 1
 | [], [] => rfl
 | [], _ :: _ => rfl
 | _ :: _, [] => rfl
 | a :: x, b :: y => by
  rw [Lib.compareBytes, Op.bytesLess, cb_spec x y]
  by_cases h1 : a < b
  ·
   simp [h1]
  ·
   by_cases h2 : b < a
   ·
    have h3 : ¬ a = b := by rintro rfl; exact h1 h2
    simp [h1, h2, h3]
   ·
    have h3 : a = b := UInt8.le_antisymm (UInt8.not_lt.1 h2) (UInt8.not_lt.1 h1)
    subst h3
    simp
def cmpV (a b : Va) : Int := orF [cmpI a.k b.k, cmpI a.i b.i, Lib.compareBytes a.t.data.toList b.t.data.toList]
def cmpR : List Va → List Va → Int
 | [], [] => 0
 | [], _ :: _ => -1
 | _ :: _, [] => 1
 | x :: a, y :: b => if cmpV x y = 0 then cmpR a b else cmpV x y

set_option maxHeartbeats 1000000 in
set_option maxRecDepth 100000 in
theorem cmpS_any (a b : ByteArray) (w : World) : Calls Tryz.prog 168 #[.string a, .string b] w fun e w' => e = .returned (.int .i64 (Lib.compareBytes a.data.toList b.data.toList)) ∧ w' = w := by
 go_enter Tryz.func168, Tryz.ntmps168
 go_wp2
 rw [run_callFunc_extern Tryz.func169 (by kernel_rfl) (by kernel_rfl) (by kernel_rfl) (e := Extern.BytealgCompare.compare) (by kernel_rfl), Lib.run_compareString]
 simp only [Result.andThen]
 rw [Oper.upon_value]
 go_wp2
 go_ret
 exact ⟨rfl, rfl⟩

theorem strcmp_any (a b : ByteArray) (w : World) : Calls Tryz.prog 167 #[.string a, .string b] w fun e w' => e = .returned (.int .i64 (Lib.compareBytes a.data.toList b.data.toList)) ∧ w' = w := by
 go_enter Tryz.func167, Tryz.ntmps167
 go_wp2_with (go_at_call 168; (refine (cmpS_any _ _ _).mono ?_; rintro e w1 ⟨rfl, rfl⟩))
 go_ret
 exact ⟨rfl, rfl⟩

set_option maxHeartbeats 1600000 in
theorem vcmp_any (a b : Va) (w : World) : Calls Tryz.prog 161 #[vag a, vag b] w fun e w' => e = .returned (.int .i64 (cmpV a b)) ∧ Ext w w' := by
 have HV : Hid (cmpV a b = orF [cmpI a.k b.k, cmpI a.i b.i, Lib.compareBytes a.t.data.toList b.t.data.toList]) := Lib.hid rfl
 have HO := Lib.hid (fun A w h => or_any A [cmpI a.k b.k, cmpI a.i b.i, Lib.compareBytes a.t.data.toList b.t.data.toList] 3 w h (by simp))
 have H1 := Lib.hid (fun w => cmpI_any a.k b.k w)
 have H2 := Lib.hid (fun w => cmpI_any a.i b.i w)
 have H3 := Lib.hid (fun w => strcmp_any a.t b.t w)
 generalize cmpI a.k b.k = c1 at HV HO H1
 generalize cmpI a.i b.i = c2 at HV HO H2
 generalize Lib.compareBytes a.t.data.toList b.t.data.toList = c3 at HV HO H3
 rw [← HV.out] at HO
 generalize cmpV a b = c at HO ⊢
 go_enter Tryz.func161, Tryz.ntmps161
 go_wp2_with fail
 refine wp_region_held_drew (S := (fun w' => w'.cell? ⟨w.heap.size, 0, none⟩ = some (.int .i64 a.k) ∧ w'.cell? ⟨w.heap.size, 1, none⟩ = some (.int .i64 a.i) ∧ w'.cell? ⟨w.heap.size, 2, none⟩ = some (.string a.t) ∧ w'.cell? ⟨w.heap.size + 1, 0, none⟩ = some (.int .i64 b.k) ∧ w'.cell? ⟨w.heap.size + 1, 1, none⟩ = some (.int .i64 b.i) ∧ w'.cell? ⟨w.heap.size + 1, 2, none⟩ = some (.string b.t))) (by kernel_rfl) (by simp [go_sem, ↓IntWalk.iteOmega, *]) (fun hHeld => ?_)
 refine tkH 0 ?oi1 (?v1) ?hi1 ?hy1 ?_
 case hi1 => (simp only [gA, gS, gZ]; rfl)
 case hy1 => (refine Or.inl ⟨by rfl, ?_⟩; intro wq hSw; (try dsimp only at hSw); go_simp; (try with_reducible rfl))
 (try simp only [Act.put, pA, pZ, pS])
 refine tkH 1 ?oi2 (?v2) ?hi2 ?hy2 ?_
 case hi2 => (simp only [gA, gS, gZ]; rfl)
 case hy2 => (refine Or.inl ⟨by rfl, ?_⟩; intro wq hSw; (try dsimp only at hSw); go_simp; (try with_reducible rfl))
 (try simp only [Act.put, pA, pZ, pS])
 refine tkH 2 ?oi3 (?v3) ?hi3 ?hy3 ?_
 case hi3 => (simp only [gA, gS, gZ]; rfl)
 case hy3 => (refine Or.inl ⟨by rfl, ?_⟩; intro wq hSw; (try dsimp only at hSw); go_simp; (try with_reducible rfl))
 (try simp only [Act.put, pA, pZ, pS])
 refine tkH 3 ?oi4 (?v4) ?hi4 ?hy4 ?_
 case hi4 => (simp only [gA, gS, gZ]; rfl)
 case hy4 => (refine Or.inl ⟨by rfl, ?_⟩; intro wq hSw; (try dsimp only at hSw); go_simp; (try with_reducible rfl))
 (try simp only [Act.put, pA, pZ, pS])
 refine tkH 5 ?oi5 (?v5) ?hi5 ?hy5 ?_
 case hi5 => (simp only [gA, gS, gZ]; rfl)
 case hy5 => (refine Or.inl ⟨by rfl, ?_⟩; intro wq hSw; (try dsimp only at hSw); go_simp; (try with_reducible rfl))
 (try simp only [Act.put, pA, pZ, pS])
 refine tkH 6 ?oi6 (?v6) ?hi6 ?hy6 ?_
 case hi6 => (simp only [gA, gS, gZ]; rfl)
 case hy6 => (refine Or.inl ⟨by rfl, ?_⟩; intro wq hSw; (try dsimp only at hSw); go_simp; (try with_reducible rfl))
 (try simp only [Act.put, pA, pZ, pS])
 refine tkH 7 ?oi7 (?v7) ?hi7 ?hy7 ?_
 case hi7 => (simp only [gA, gS, gZ]; rfl)
 case hy7 => (refine Or.inl ⟨by rfl, ?_⟩; intro wq hSw; (try dsimp only at hSw); go_simp; (try with_reducible rfl))
 (try simp only [Act.put, pA, pZ, pS])
 refine tkH 8 ?oi8 (?v8) ?hi8 ?hy8 ?_
 case hi8 => (simp only [gA, gS, gZ]; rfl)
 case hy8 => (refine Or.inl ⟨by rfl, ?_⟩; intro wq hSw; (try dsimp only at hSw); go_simp; (try with_reducible rfl))
 (try simp only [Act.put, pA, pZ, pS])
 refine tkH 10 ?oi9 (?v9) ?hi9 ?hy9 ?_
 case hi9 => (simp only [gA, gS, gZ]; rfl)
 case hy9 => (refine Or.inl ⟨by rfl, ?_⟩; intro wq hSw; (try dsimp only at hSw); go_simp; (try with_reducible rfl))
 (try simp only [Act.put, pA, pZ, pS])
 refine tkH 11 ?oi10 (?v10) ?hi10 ?hy10 ?_
 case hi10 => (simp only [gA, gS, gZ]; rfl)
 case hy10 => (refine Or.inl ⟨by rfl, ?_⟩; intro wq hSw; (try dsimp only at hSw); go_simp; (try with_reducible rfl))
 (try simp only [Act.put, pA, pZ, pS])
 refine tkH 12 ?oi11 (?v11) ?hi11 ?hy11 ?_
 case hi11 => (simp only [gA, gS, gZ]; rfl)
 case hy11 => (refine Or.inl ⟨by rfl, ?_⟩; intro wq hSw; (try dsimp only at hSw); go_simp; (try with_reducible rfl))
 (try simp only [Act.put, pA, pZ, pS])
 refine tkH 13 ?oi12 (?v12) ?hi12 ?hy12 ?_
 case hi12 => (simp only [gA, gS, gZ]; rfl)
 case hy12 => (refine Or.inl ⟨by rfl, ?_⟩; intro wq hSw; (try dsimp only at hSw); go_simp; (try with_reducible rfl))
 (try simp only [Act.put, pA, pZ, pS])
 refine wpAnyH_ready (rs := [4]) (by kernel_rfl) (by simp) ?_
 refine AllReadyH.cons (o := ?oi13) ?hi13 ?ti13 AllReadyH.nil
 case hi13 => (simp only [gA, gS, gZ]; rfl)
 case ti13 =>
  intro K hK
  go_simp
  (go_at_call 46; (refine (H1.out _).mono ?_); rintro e w1 ⟨rfl, rfl⟩)
  refine hK.out _ _ (by simp [go_sem, ↓IntWalk.iteOmega, *]) (fun hHeld2 => ?_)
  clear hHeld hK K; have hHeld := hHeld2; clear hHeld2
  (try simp only [Act.put, pA, pZ, pS])
  refine wpAnyH_ready (rs := [9]) (by kernel_rfl) (by simp) ?_
  refine AllReadyH.cons (o := ?oi14) ?hi14 ?ti14 AllReadyH.nil
  case hi14 => (simp only [gA, gS, gZ]; rfl)
  case ti14 =>
   intro K hK
   go_simp
   (go_at_call 46; (refine (H2.out _).mono ?_); rintro e w1 ⟨rfl, rfl⟩)
   refine hK.out _ _ (by simp [go_sem, ↓IntWalk.iteOmega, *]) (fun hHeld2 => ?_)
   clear hHeld hK K; have hHeld := hHeld2; clear hHeld2
   (try simp only [Act.put, pA, pZ, pS])
   refine wpAnyH_ready (rs := [14]) (by kernel_rfl) (by simp) ?_
   refine AllReadyH.cons (o := ?oi15) ?hi15 ?ti15 AllReadyH.nil
   case hi15 => (simp only [gA, gS, gZ]; rfl)
   case ti15 =>
    intro K hK
    go_simp
    (go_at_call 167; (refine (H3.out _).mono ?_); rintro e w1 ⟨rfl, rfl⟩)
    refine hK.out _ _ (by simp [go_sem, ↓IntWalk.iteOmega, *]) (fun hHeld2 => ?_)
    clear hHeld hK K; have hHeld := hHeld2; clear hHeld2
    (try simp only [Act.put, pA, pZ, pS])
    refine wpAnyH_ready (rs := [15]) (by kernel_rfl) (by simp) ?_
    refine AllReadyH.cons (o := ?oi16) ?hi16 ?ti16 AllReadyH.nil
    case hi16 => (simp only [gA, gS, gZ]; rfl)
    case ti16 =>
     intro K hK
     go_simp
     refine hK.out _ _ (by simp [go_sem, ↓IntWalk.iteOmega, *]) (fun hHeld2 => ?_)
     clear hHeld hK K; have hHeld := hHeld2; clear hHeld2
     (try simp only [Act.put, pA, pZ, pS])
     refine wpAnyH_ready (rs := [16]) (by kernel_rfl) (by simp) ?_
     refine AllReadyH.cons (o := ?oi17) ?hi17 ?ti17 AllReadyH.nil
     case hi17 => (simp only [gA, gS, gZ]; rfl)
     case ti17 =>
      intro K hK
      go_simp
      go_at_call 45
      refine Calls.mono (HO.out _ _ (Rd.lit _ #[.int .i64 c1, .int .i64 c2, .int .i64 c3] _ 3 1 rfl ?hbq)) ?_
      case hbq => first | rfl | simp [go_sem, size_ext]
      rintro e w1 ⟨rfl, rfl⟩
      refine hK.out _ _ (by simp [go_sem, ↓IntWalk.iteOmega, *]) (fun hHeld2 => ?_)
      clear hHeld hK K; have hHeld := hHeld2; clear hHeld2
      (try simp only [Act.put, pA, pZ, pS])
      refine tkH 17 ?oi18 (?v18) ?hi18 ?hy18 ?_
      case hi18 => (simp only [gA, gS, gZ]; rfl)
      case hy18 => (refine Or.inl ⟨by rfl, ?_⟩; intro wq hSw; (try dsimp only at hSw); go_simp; (try with_reducible rfl))
      (try simp only [Act.put, pA, pZ, pS])
      refine wpAnyH_done (by kernel_rfl) ?_ _
      go_wp2
      go_ret
      exact ⟨rfl, ex_⟩

theorem sign_any (l g : Bool) (w : World) : Calls Tryz.prog 154 #[.bool l, .bool g] w fun e w' => e = .returned (.int .i64 (if l then -1 else if g then 1 else 0)) ∧ Ext w w' := by
 rcases l with _ | _
 all_goals rcases g with _ | _
 all_goals go_enter Tryz.func154, Tryz.ntmps154
 all_goals go_wp2
 all_goals go_ret
 all_goals exact ⟨rfl, Ext.refl' _⟩

theorem ret_i64 {a b : Int} (h : a = b) : Ending.returned (Value.int .i64 a) = .returned (.int .i64 b) := by rw [h]
theorem cmpI_eq {a b : Int} (h : a = b) : cmpI a b = 0 := by subst h; simp [cmpI]
theorem cmpI_ne {a b : Int} (h : a ≠ b) : cmpI a b ≠ 0 := by unfold cmpI; split <;> (try split) <;> omega
set_option maxHeartbeats 1600000 in
theorem rvcmp_any (a b : Va) (w : World) : Calls Tryz.prog 138 #[vag a, vag b] w fun e w' => e = .returned (.int .i64 (cmpV a b)) ∧ Ext w w' := by
 have HV : Hid (cmpV a b = orF [cmpI a.k b.k, cmpI a.i b.i, Lib.compareBytes a.t.data.toList b.t.data.toList]) := Lib.hid rfl
 generalize cmpV a b = c at HV ⊢
 by_cases h1 : a.k = b.k
 ·
  have q1 : (a.k != b.k) = false := by simp [h1]
  by_cases h2 : a.i = b.i
  ·
   have q2 : (a.i != b.i) = false := by simp [h2]
   have H0 : Hid (c = Lib.compareBytes a.t.data.toList b.t.data.toList) := Lib.hid (by rw [HV.out, cmpI_eq h1, cmpI_eq h2]; simp only [orF]; split <;> simp_all)
   clear HV h1 h2
   go_enter Tryz.func138, Tryz.ntmps138
   go_wp2_with (go_at_call 154; refine (sign_any _ _ _).mono ?_; rintro e w1 ⟨rfl, hb1⟩; obtain ⟨x1, rfl⟩ := hb1.get; clear hb1)
   all_goals go_ret
   all_goals refine ⟨?_, ex_⟩
   all_goals rw [H0.out, cb_spec, ← Lib.toList_data, ← Lib.toList_data]
   all_goals refine ret_i64 ?_
   all_goals simp_all
  ·
   have q2 : (a.i != b.i) = true := by simp [h2]
   have H0 : Hid (c = cmpI a.i b.i) := Lib.hid (by rw [HV.out, cmpI_eq h1]; simp only [orF]; rw [if_pos trivial, if_neg (cmpI_ne h2)])
   clear HV h1
   go_enter Tryz.func138, Tryz.ntmps138
   go_wp2_with (go_at_call 154; refine (sign_any _ _ _).mono ?_; rintro e w1 ⟨rfl, hb1⟩; obtain ⟨x1, rfl⟩ := hb1.get; clear hb1)
   all_goals go_ret
   all_goals refine ⟨?_, ex_⟩
   all_goals rw [H0.out]
   all_goals refine ret_i64 ?_
   all_goals (unfold cmpI; (repeat' split) <;> omega)
 ·
  have q1 : (a.k != b.k) = true := by simp [h1]
  have H0 : Hid (c = cmpI a.k b.k) := Lib.hid (by rw [HV.out]; simp only [orF]; rw [if_neg (cmpI_ne h1)])
  clear HV
  go_enter Tryz.func138, Tryz.ntmps138
  go_wp2_with (go_at_call 154; refine (sign_any _ _ _).mono ?_; rintro e w1 ⟨rfl, hb1⟩; obtain ⟨x1, rfl⟩ := hb1.get; clear hb1)
  all_goals go_ret
  all_goals refine ⟨?_, ex_⟩
  all_goals rw [H0.out]
  all_goals refine ret_i64 ?_
  all_goals (unfold cmpI; (repeat' split) <;> omega)

end Go.Proofs.YtdiaecgpjgdkdaaGreat

namespace Go.Proofs.YtdiaecgpjgdkdaaGreat
open Go.RowKit

def vcl (l : List Va) : List Value := l.flatMap vc
theorem fmv_get {α : Type} (g : α → List Value) (sz : Nat) (hg : ∀ a, (g a).length = sz) : ∀ (l : List α) (k : Nat) (hk : k < l.length) (j : Nat), j < sz → (l.flatMap g)[k * sz + j]? = (g l[k])[j]?
 | [], k, hk, _, _ => by simp at hk
 | a :: l, 0, hk, j, hj => by
  simp only [List.flatMap_cons, Nat.zero_mul, Nat.zero_add, List.getElem_cons_zero]
  rw [List.getElem?_append_left (by rw [hg]; exact hj)]
 | a :: l, k + 1, hk, j, hj => by
  simp only [List.flatMap_cons, List.getElem_cons_succ]
  rw [List.getElem?_append_right (by rw [hg, Nat.add_mul]; omega), ← fmv_get g sz hg l k (by simpa using hk) j hj]
  congr 1
  rw [hg, Nat.add_mul]; omega
theorem vcl_length : ∀ (l : List Va), (vcl l).length = l.length * 3
 | [] => rfl
 | a :: l => by have := vcl_length l; simp [vcl, vc, Nat.add_mul] at *; omega
theorem vcl_append (a b : List Va) : vcl (a ++ b) = vcl a ++ vcl b := by simp [vcl]
theorem oneCell_vcl (l : List Va) : ∀ u ∈ vcl l, u.oneCell' = true := by
 intro u hu; obtain ⟨v, _, hv⟩ := List.mem_flatMap.1 hu; simp [vc] at hv; rcases hv with rfl | rfl | rfl <;> rfl
theorem elVal3 : El Tryz.prog 33 66 (.agg #[.int .i64 0, .int .i64 0, .string ⟨#[]⟩]) 3 32 := ⟨Tryz.underlying33, info_parts (by kernel_rfl), rfl, by decide⟩
theorem Rd.val {w : World} {A : Option Addr} {l : List Va} (h : Rd w 3 A l.length (vcl l)) {k : Nat} (hk : k < l.length) :
  ∃ b o, A = some ⟨b, o, none⟩ ∧ b < w.heap.size ∧ w.cell? ⟨b, o + k * 3, none⟩ = some (.int .i64 l[k].k) ∧ w.cell? ⟨b, o + k * 3 + 1, none⟩ = some (.int .i64 l[k].i) ∧ w.cell? ⟨b, o + k * 3 + 2, none⟩ = some (.string l[k].t) := by
 obtain ⟨b, o, hA, hb, hc⟩ := h.2 (by omega)
 have f := fun j hj => fmv_get vc 3 (fun _ => rfl) l k hk j hj
 exact ⟨b, o, hA, hb, hc _ _ (f 0 (by omega)), hc _ _ (f 1 (by omega)), hc _ _ (f 2 (by omega))⟩
theorem Rd.takeV {w : World} {A : Option Addr} {l : List Va} (h : Rd w 3 A l.length (vcl l)) {n : Nat} (hn : n ≤ l.length) : Rd w 3 A (l.take n).length (vcl (l.take n)) := by
 refine ⟨vcl_length _, fun h0 => ?_⟩
 have hl : (l.take n).length = n := by simp; omega
 obtain ⟨b, o, hA, hb, hc⟩ := h.2 (by rw [hl] at h0; omega)
 refine ⟨b, o, hA, hb, fun j u hu => hc j u ?_⟩
 rw [← List.take_append_drop n l, vcl_append, List.getElem?_append_left (List.getElem?_eq_some_iff.1 hu).1]
 exact hu

theorem cmpR_nil_nil : cmpR [] [] = 0 := by rw [cmpR]
theorem cmpR_nil (y : Va) (b : List Va) : cmpR [] (y :: b) = -1 := by rw [cmpR]
theorem cmpR_lo (x : Va) (a : List Va) : cmpR (x :: a) [] = 1 := by rw [cmpR]
theorem cmpR_ne {x y : Va} {a b : List Va} (h : cmpV x y ≠ 0) : cmpR (x :: a) (y :: b) = cmpV x y := by rw [cmpR, if_neg h]
theorem cmpR_eq {x y : Va} {a b : List Va} (h : cmpV x y = 0) : cmpR (x :: a) (y :: b) = cmpR a b := by rw [cmpR, if_pos h]
set_option maxHeartbeats 2000000 in
theorem tcmpf_any (A B : Option Addr) (c d : Nat) (a b : List Va) (w : World) (hA : Rd w 3 A a.length (vcl a)) (hB : Rd w 3 B b.length (vcl b)) (na : a.length ≤ 9223372036854775807) (nb : b.length ≤ 9223372036854775807) :
  Calls Tryz.prog 160 #[.slice A a.length c, .slice B b.length d, .func (.func 161) #[] #[]] w fun e w' => e = .returned (.int .i64 (cmpR a b)) ∧ Ext w w' := by
 have HR : Hid (cmpR a b = cmpR (a.drop 0) (b.drop 0)) := Lib.hid rfl
 generalize cmpR a b = z at HR ⊢
 go_enter Tryz.func160, Tryz.ntmps160
 go_wp2
 go_loopw [13] (fun s13 wr => ∃ k : Nat, k ≤ a.length ∧ k ≤ b.length ∧ s13 = .int .i64 k ∧ Hid (z = cmpR (a.drop k) (b.drop k)) ∧ Ext w wr) (fun s13 _ => a.length - (intOf s13).toNat)
 case atStart => exact ⟨0, by omega, by omega, rfl, HR, Ext.refl' _⟩
 case round =>
  obtain ⟨k, hk, hkb, rfl, HC, hex⟩ := hrel
  obtain ⟨x, rfl⟩ := hex.get
  clear hex
  by_cases hlt : k < a.length
  ·
   obtain ⟨ga, oa, rfl, hga, c0, c1, c2⟩ := hA.val hlt
   by_cases hlb : k < b.length
   ·
    obtain ⟨gb, ob, rfl, hgb, d0, d1, d2⟩ := hB.val hlb
    have HD : Hid (z = cmpR (a[k] :: a.drop (k + 1)) (b[k] :: b.drop (k + 1))) := Lib.hid (by rw [HC.out, List.drop_eq_getElem_cons hlt, List.drop_eq_getElem_cons hlb])
    generalize a[k] = va at c0 c1 c2 HD
    generalize b[k] = vb at d0 d1 d2 HD
    clear HC
    have HV := Lib.hid (fun w => vcmp_any va vb w)
    by_cases h0 : cmpV va vb = 0
    ·
     have HE : Hid (z = cmpR (a.drop (k + 1)) (b.drop (k + 1))) := Lib.hid (by rw [HD.out, cmpR_eq h0])
     rw [h0] at HV
     clear HD h0
     go_wp2_with (go_at_call 161; refine (HV.out _).mono ?_; rintro e w1 ⟨rfl, hb1⟩; obtain ⟨x1, rfl⟩ := hb1.get; clear hb1)
     go_roundw
     case rel => exact ⟨k + 1, by omega, by omega, by go_num, HE, ex_⟩
     case measure => simp [intOf]; omega
    ·
     have HE : Hid (z = cmpV va vb) := Lib.hid (by rw [HD.out, cmpR_ne h0])
     generalize cmpV va vb = q at HV HE h0
     have hq : (q != 0) = true := by simp [h0]
     clear HD h0
     go_wp2_with (go_at_call 161; refine (HV.out _).mono ?_; rintro e w1 ⟨rfl, hb1⟩; obtain ⟨x1, rfl⟩ := hb1.get; clear hb1)
     go_ret
     exact ⟨by rw [HE.out]; rfl, ex_⟩
   ·
    have HE : Hid (z = 1) := Lib.hid (by rw [HC.out, List.drop_eq_getElem_cons hlt, List.drop_eq_nil_of_le (Nat.le_of_not_lt hlb), cmpR_lo])
    clear HC
    go_wp2
    go_ret
    exact ⟨by rw [HE.out]; rfl, ex_⟩
  ·
   by_cases hab : a.length < b.length
   ·
    have HE : Hid (z = -1) := Lib.hid (by rw [HC.out, List.drop_eq_nil_of_le (Nat.le_of_not_lt hlt), List.drop_eq_getElem_cons (by omega), cmpR_nil])
    clear HC
    go_wp2
    go_ret
    exact ⟨by rw [HE.out]; rfl, ex_⟩
   ·
    have HE : Hid (z = 0) := Lib.hid (by rw [HC.out, List.drop_eq_nil_of_le (Nat.le_of_not_lt hlt), List.drop_eq_nil_of_le (by omega), cmpR_nil_nil])
    clear HC
    go_wp2
    go_ret
    exact ⟨by rw [HE.out]; rfl, ex_⟩
theorem tcmp_any (A B : Option Addr) (c d : Nat) (a b : List Va) (w : World) (hA : Rd w 3 A a.length (vcl a)) (hB : Rd w 3 B b.length (vcl b)) (na : a.length ≤ 9223372036854775807) (nb : b.length ≤ 9223372036854775807) :
  Calls Tryz.prog 146 #[.slice A a.length c, .slice B b.length d] w fun e w' => e = .returned (.int .i64 (cmpR a b)) ∧ Ext w w' := by
 have H := Lib.hid (tcmpf_any A B c d a b w hA hB na nb)
 generalize cmpR a b = z at H ⊢
 go_enter Tryz.func146, Tryz.ntmps146
 go_wp2_with fail
 refine Calls.mono H.out ?_
 rintro e w1 ⟨rfl, hb1⟩
 go_wp2
 go_ret
 exact ⟨rfl, hb1⟩
set_option maxHeartbeats 2000000 in
theorem rcmp_any (A B : Option Addr) (c d : Nat) (a b : List Va) (w : World) (hA : Rd w 3 A a.length (vcl a)) (hB : Rd w 3 B b.length (vcl b)) (na : a.length ≤ 9223372036854775807) (nb : b.length ≤ 9223372036854775807) :
  Calls Tryz.prog 99 #[.slice A a.length c, .slice B b.length d] w fun e w' => e = .returned (.int .i64 (cmpR a b)) ∧ Ext w w' := by
 have HR : Hid (cmpR a b = cmpR (a.drop 0) (b.drop 0)) := Lib.hid rfl
 generalize cmpR a b = z at HR ⊢
 go_enter Tryz.func99, Tryz.ntmps99
 go_wp2
 go_loopw [5] (fun s5 wr => ∃ k : Nat, k ≤ a.length ∧ k ≤ b.length ∧ s5 = .int .i64 k ∧ Hid (z = cmpR (a.drop k) (b.drop k)) ∧ Ext w wr) (fun s5 _ => a.length - (intOf s5).toNat)
 case atStart => exact ⟨0, by omega, by omega, rfl, HR, Ext.refl' _⟩
 case round =>
  obtain ⟨k, hk, hkb, rfl, HC, hex⟩ := hrel
  obtain ⟨x, rfl⟩ := hex.get
  clear hex
  by_cases hlt : k < a.length
  ·
   obtain ⟨ga, oa, rfl, hga, c0, c1, c2⟩ := hA.val hlt
   by_cases hlb : k < b.length
   ·
    obtain ⟨gb, ob, rfl, hgb, d0, d1, d2⟩ := hB.val hlb
    have HD : Hid (z = cmpR (a[k] :: a.drop (k + 1)) (b[k] :: b.drop (k + 1))) := Lib.hid (by rw [HC.out, List.drop_eq_getElem_cons hlt, List.drop_eq_getElem_cons hlb])
    generalize a[k] = va at c0 c1 c2 HD
    generalize b[k] = vb at d0 d1 d2 HD
    clear HC
    have HV := Lib.hid (fun w => rvcmp_any va vb w)
    by_cases h0 : cmpV va vb = 0
    ·
     have HE : Hid (z = cmpR (a.drop (k + 1)) (b.drop (k + 1))) := Lib.hid (by rw [HD.out, cmpR_eq h0])
     rw [h0] at HV
     clear HD h0
     go_wp2_with fail
     refine wp_region_ext (by kernel_rfl) (by kernel_rfl) ?_
     repeat (first | go_big_quiet_step ((go_at_call 138; exact Calls.ext_of (HV.out _))) | quiet_step ((go_at_call 138; exact Calls.ext_of (HV.out _))))
     refine wpQuiet_nil ?_
     intro _ hw'
     obtain ⟨xq, hw''⟩ := hw'
     subst hw''
     go_wp2
     go_roundw
     case rel => exact ⟨k + 1, by omega, by omega, by go_num, HE, ex_⟩
     case measure => simp [intOf]; omega
    ·
     have HE : Hid (z = cmpV va vb) := Lib.hid (by rw [HD.out, cmpR_ne h0])
     generalize cmpV va vb = q at HV HE h0
     have hq : (q != 0) = true := by simp [h0]
     clear HD h0
     go_wp2_with fail
     refine wp_region_ext (by kernel_rfl) (by kernel_rfl) ?_
     repeat (first | go_big_quiet_step ((go_at_call 138; exact Calls.ext_of (HV.out _))) | quiet_step ((go_at_call 138; exact Calls.ext_of (HV.out _))))
     refine wpQuiet_nil ?_
     intro _ hw'
     obtain ⟨xq, hw''⟩ := hw'
     subst hw''
     go_wp2
     go_ret
     exact ⟨by rw [HE.out]; rfl, ex_⟩
   ·
    have HE : Hid (z = 1) := Lib.hid (by rw [HC.out, List.drop_eq_getElem_cons hlt, List.drop_eq_nil_of_le (Nat.le_of_not_lt hlb), cmpR_lo])
    clear HC
    go_wp2
    go_ret
    exact ⟨by rw [HE.out]; rfl, ex_⟩
  ·
   by_cases hab : a.length < b.length
   ·
    have HE : Hid (z = -1) := Lib.hid (by rw [HC.out, List.drop_eq_nil_of_le (Nat.le_of_not_lt hlt), List.drop_eq_getElem_cons (by omega), cmpR_nil])
    clear HC
    go_wp2
    go_ret
    exact ⟨by rw [HE.out]; rfl, ex_⟩
   ·
    have HE : Hid (z = 0) := Lib.hid (by rw [HC.out, List.drop_eq_nil_of_le (Nat.le_of_not_lt hlt), List.drop_eq_nil_of_le (by omega), cmpR_nil_nil])
    clear HC
    go_wp2
    go_ret
    exact ⟨by rw [HE.out]; rfl, ex_⟩
theorem requal_any (A B : Option Addr) (c d : Nat) (a b : List Va) (w : World) (hA : Rd w 3 A a.length (vcl a)) (hB : Rd w 3 B b.length (vcl b)) (na : a.length ≤ 9223372036854775807) (nb : b.length ≤ 9223372036854775807) :
  Calls Tryz.prog 60 #[.slice A a.length c, .slice B b.length d] w fun e w' => e = .returned (.bool (cmpR a b == 0)) ∧ Ext w w' := by
 have H := Lib.hid (rcmp_any A B c d a b w hA hB na nb)
 generalize cmpR a b = z at H ⊢
 go_enter Tryz.func60, Tryz.ntmps60
 go_wp2_with fail
 refine Calls.mono H.out ?_
 rintro e w1 ⟨rfl, hb1⟩
 go_wp2
 go_ret
 exact ⟨rfl, hb1⟩

end Go.Proofs.YtdiaecgpjgdkdaaGreat

namespace Go.Proofs.YtdiaecgpjgdkdaaGreat
open Go.RowKit

def nullV : Va := ⟨0, 0, ⟨#[]⟩⟩
def atV (row : List Va) (i : Int) : Va := if i < 0 then nullV else row.getD i.toNat nullV
theorem atV_neg {row : List Va} {i : Int} (h : i < 0) : atV row i = nullV := by unfold atV; rw [if_pos h]
theorem atV_hi {row : List Va} {i : Int} (h : (row.length : Int) ≤ i) : atV row i = nullV := by
 unfold atV; split
 ·
  rfl
 ·
  rw [List.getD_eq_getElem?_getD, List.getElem?_eq_none (by omega)]; rfl
theorem atV_in {row : List Va} {k : Nat} (h : k < row.length) : atV row (k : Int) = row[k] := by
 unfold atV; rw [if_neg (by omega)]; simp [h]
theorem tnull_any (w : World) : Calls Tryz.prog 123 #[] w fun e w' => e = .returned (vag nullV) ∧ Ext w w' := by
 go_enter Tryz.func123, Tryz.ntmps123
 go_wp2
 refine bodyPost_ret (v := vag nullV) ?_ rfl ⟨rfl, ex_⟩
 simp [results, Tryz.results123, go_sem, nullV]
set_option maxHeartbeats 800000 in
theorem tat_any (A : Option Addr) (c : Nat) (row : List Va) (i : Int) (w : World) (hA : Rd w 3 A row.length (vcl row)) (nl : row.length ≤ 9223372036854775807) :
  Calls Tryz.prog 91 #[.slice A row.length c, .int .i64 i] w fun e w' => e = .returned (vag (atV row i)) ∧ Ext w w' := by
 by_cases h1 : i < 0
 ·
  rw [atV_neg h1]
  go_enter Tryz.func91, Tryz.ntmps91
  go_wp2_with (go_at_call 123; refine (tnull_any _).mono ?_; rintro e w1 ⟨rfl, hb1⟩; obtain ⟨x1, rfl⟩ := hb1.get; clear hb1)
  refine bodyPost_ret (v := vag nullV) ?_ rfl ⟨rfl, ex_⟩
  simp [results, Tryz.results91, go_sem, nullV, ↓IntWalk.iteOmega]
 ·
  by_cases h2 : (row.length : Int) ≤ i
  ·
   rw [atV_hi h2]
   go_enter Tryz.func91, Tryz.ntmps91
   go_wp2_with (go_at_call 123; refine (tnull_any _).mono ?_; rintro e w1 ⟨rfl, hb1⟩; obtain ⟨x1, rfl⟩ := hb1.get; clear hb1)
   refine bodyPost_ret (v := vag nullV) ?_ rfl ⟨rfl, ex_⟩
   simp [results, Tryz.results91, go_sem, nullV, ↓IntWalk.iteOmega]
  ·
   obtain ⟨k, rfl⟩ : ∃ k : Nat, i = (k : Int) := ⟨i.toNat, by omega⟩
   have hk : k < row.length := by omega
   rw [atV_in hk]
   obtain ⟨g, o, rfl, hg, c0, c1, c2⟩ := hA.val hk
   generalize row[k] = v at c0 c1 c2 ⊢
   go_enter Tryz.func91, Tryz.ntmps91
   go_wp2
   refine bodyPost_ret (v := vag v) ?_ rfl ⟨rfl, ex_⟩
   simp [results, Tryz.results91, go_sem, ↓IntWalk.iteOmega]

theorem rnull_any (w : World) : Calls Tryz.prog 155 #[] w fun e w' => e = .returned (vag nullV) ∧ Ext w w' := by
 go_enter Tryz.func155, Tryz.ntmps155
 go_wp2
 refine bodyPost_ret (v := vag nullV) ?_ rfl ⟨rfl, ex_⟩
 simp [results, Tryz.results155, go_sem, nullV]
set_option maxHeartbeats 800000 in
theorem rat8_any (A : Option Addr) (c : Nat) (row : List Va) (i : Int) (w : World) (hA : Rd w 3 A row.length (vcl row)) (nl : row.length ≤ 9223372036854775807) :
  Calls Tryz.prog 139 #[.slice A row.length c, .int .i64 i] w fun e w' => e = .returned (vag (atV row i)) ∧ Ext w w' := by
 by_cases h1 : i < 0
 ·
  rw [atV_neg h1]
  go_enter Tryz.func139, Tryz.ntmps139
  go_wp2_with (go_at_call 155; refine (rnull_any _).mono ?_; rintro e w1 ⟨rfl, hb1⟩; obtain ⟨x1, rfl⟩ := hb1.get; clear hb1)
  refine bodyPost_ret (v := vag nullV) ?_ rfl ⟨rfl, ex_⟩
  simp [results, Tryz.results139, go_sem, nullV, ↓IntWalk.iteOmega]
 ·
  by_cases h2 : (row.length : Int) ≤ i
  ·
   rw [atV_hi h2]
   go_enter Tryz.func139, Tryz.ntmps139
   go_wp2_with (go_at_call 155; refine (rnull_any _).mono ?_; rintro e w1 ⟨rfl, hb1⟩; obtain ⟨x1, rfl⟩ := hb1.get; clear hb1)
   refine bodyPost_ret (v := vag nullV) ?_ rfl ⟨rfl, ex_⟩
   simp [results, Tryz.results139, go_sem, nullV, ↓IntWalk.iteOmega]
  ·
   obtain ⟨k, rfl⟩ : ∃ k : Nat, i = (k : Int) := ⟨i.toNat, by omega⟩
   have hk : k < row.length := by omega
   rw [atV_in hk]
   obtain ⟨g, o, rfl, hg, c0, c1, c2⟩ := hA.val hk
   generalize row[k] = v at c0 c1 c2 ⊢
   go_enter Tryz.func139, Tryz.ntmps139
   go_wp2
   refine bodyPost_ret (v := vag v) ?_ rfl ⟨rfl, ex_⟩
   simp [results, Tryz.results139, go_sem, ↓IntWalk.iteOmega]

theorem own_litv (W : World) (e size : Nat) {b : Nat} (hb : b = W.heap.size) : (W.alloc (.cells #[] e)).ownsRow W.heap.size e size (.slice (some ⟨b, 0, none⟩) 0 0) 0 [] := by
 subst hb
 exact ⟨by simp, .inr ⟨W.heap.size, 0, #[], rfl, by omega, heap_alloc_new _ _, Nat.le_refl _, Nat.zero_le _, by simp, by simp⟩⟩

set_option maxHeartbeats 2000000 in
theorem tpick_any (A L : Option Addr) (c d : Nat) (row : List Va) (l : List Int) (w : World) (hA : Rd w 3 A row.length (vcl row)) (hL : Rd w 1 L l.length (ic l)) (na : row.length ≤ 9223372036854775807) (nl : l.length ≤ 1048576) :
  Calls Tryz.prog 50 #[.slice A row.length c, .slice L l.length d] w fun e w' => ∃ B q, e = .returned (.slice B l.length q) ∧ Ext w w' ∧ l.length ≤ q ∧ Rd w' 3 B l.length (vcl (l.map (atV row))) := by
 go_enter Tryz.func50, Tryz.ntmps50
 go_wp2_with (at_make; refine wpList_mk _ rfl _ _ rfl elVal3 w (ex_) .i64 .i64 _ l.length rfl rfl rfl (by omega) (by unfold maxLen; omega) ?_; intro x0 hown0)
 go_loopw [5, 13] (fun s5 s6 wr => ∃ (k : Nat) (acc : List Va) (x : Add), k ≤ l.length ∧ acc.length ≤ k ∧ s6 = .int .i64 k ∧ Hid (l.map (atV row) = acc ++ (l.drop k).map (atV row)) ∧ wr = ext w x ∧ Own w x 66 3 s5 acc.length (vcl acc)) (fun _ s6 _ => l.length - (intOf s6).toNat)
 case atStart =>
  exact ⟨0, [], x0, by omega, by simp, rfl, Lib.hid (by simp), rfl, hown0⟩
 case round =>
  obtain ⟨k, acc, x, hk, hal, rfl, HC, rfl, hown⟩ := hrel
  by_cases hlt : k < l.length
  ·
   obtain ⟨g, oo, rfl, hg, c0⟩ := hL.int hlt
   have HD : Hid (l.map (atV row) = acc ++ [atV row l[k]] ++ (l.drop (k + 1)).map (atV row)) := Lib.hid (by rw [HC.out, List.drop_eq_getElem_cons hlt, List.map_cons, List.append_assoc]; rfl)
   generalize l[k] = i at c0 HD
   have HAT := Lib.hid (fun w h => tat_any A c row i w h na)
   generalize atV row i = v at HD HAT
   clear HC
   go_wp2_with (first | (go_at_call 91; refine (HAT.out _ (hA.ext (ex_))).mono ?_; rintro e w1 ⟨rfl, hb1⟩; obtain ⟨x1, rfl⟩ := hb1.get; clear hb1) | (at_builtin; refine wpList_app _ rfl (.tmp 17) (.tmp 21) rfl elVal3 w (ex_) _ _ _ rfl (by repeat (first | exact hown | apply World.ownsRow.alloc | apply own_ext)) _ 1 1 [.int .i64 v.k, .int .i64 v.i, .string v.t] rfl (Rd.lit _ _ _ 1 3 rfl (by simp [size_ext])) (oneCell_vcl [v]) (by unfold maxLen; omega) (by omega) ?_; intro v' x' hown' _; have HOWN := Lib.hid hown'; clear hown'))
   go_roundw
   case rel => exact ⟨k + 1, acc ++ [v], x', by omega, by simp; omega, by go_num, HD, rfl, by rw [vcl_append, List.length_append]; exact HOWN.out⟩
   case measure => simp [intOf]; omega
  ·
   have H0 : Hid (l.map (atV row) = acc) := Lib.hid (by rw [HC.out, List.drop_eq_nil_of_le (Nat.le_of_not_lt hlt)]; simp)
   have hln : acc.length = l.length := by have := congrArg List.length H0.out; simp at this; omega
   obtain ⟨A7, c7, rfl, hq, _⟩ := Own.form hown
   go_wp2
   go_ret
   exact ⟨A7, c7, by rw [hln]; rfl, Ext.ex _ _, by omega, by rw [H0.out, ← hln]; exact Rd.of_own hown⟩

set_option maxHeartbeats 2000000 in
theorem rpick_any (A L : Option Addr) (c d : Nat) (row : List Va) (l : List Int) (w : World) (hA : Rd w 3 A row.length (vcl row)) (hL : Rd w 1 L l.length (ic l)) (na : row.length ≤ 9223372036854775807) (nl : l.length ≤ 1048576) :
  Calls Tryz.prog 100 #[.slice A row.length c, .slice L l.length d] w fun e w' => ∃ B q, e = .returned (.slice B l.length q) ∧ Ext w w' ∧ l.length ≤ q ∧ Rd w' 3 B l.length (vcl (l.map (atV row))) := by
 go_enter Tryz.func100, Tryz.ntmps100
 go_wp2
 go_loopw [5, 6] (fun s5 s6 wr => ∃ (k : Nat) (acc : List Va) (x : Add), k ≤ l.length ∧ acc.length ≤ k ∧ s6 = .int .i64 k ∧ Hid (l.map (atV row) = acc ++ (l.drop k).map (atV row)) ∧ wr = ext w x ∧ Own w x 66 3 s5 acc.length (vcl acc)) (fun _ s6 _ => l.length - (intOf s6).toNat)
 case atStart =>
  obtain ⟨x, hx⟩ := (Ext.al1 w (.cells #[] 66)).get
  exact ⟨0, [], x, by omega, by simp, rfl, Lib.hid (by simp), hx, by unfold Own; rw [← hx]; exact own_litv _ _ _ rfl⟩
 case round =>
  obtain ⟨k, acc, x, hk, hal, rfl, HC, rfl, hown⟩ := hrel
  by_cases hlt : k < l.length
  ·
   obtain ⟨g, oo, rfl, hg, c0⟩ := hL.int hlt
   have HD : Hid (l.map (atV row) = acc ++ [atV row l[k]] ++ (l.drop (k + 1)).map (atV row)) := Lib.hid (by rw [HC.out, List.drop_eq_getElem_cons hlt, List.map_cons, List.append_assoc]; rfl)
   generalize l[k] = i at c0 HD
   have HAT := Lib.hid (fun w h => rat8_any A c row i w h na)
   generalize atV row i = v at HD HAT
   clear HC
   go_wp2_with (first | (go_at_call 139; refine (HAT.out _ (hA.ext (ex_))).mono ?_; rintro e w1 ⟨rfl, hb1⟩; obtain ⟨x1, rfl⟩ := hb1.get; clear hb1) | (at_builtin; refine wpList_app _ rfl (.tmp 14) (.tmp 21) rfl elVal3 w (ex_) _ _ _ rfl (by repeat (first | exact hown | apply World.ownsRow.alloc | apply own_ext)) _ 1 1 [.int .i64 v.k, .int .i64 v.i, .string v.t] rfl (Rd.lit _ _ _ 1 3 rfl (by simp [size_ext])) (oneCell_vcl [v]) (by unfold maxLen; omega) (by omega) ?_; intro v' x' hown' _; have HOWN := Lib.hid hown'; clear hown'))
   go_roundw
   case rel => exact ⟨k + 1, acc ++ [v], x', by omega, by simp; omega, by go_num, HD, rfl, by rw [vcl_append, List.length_append]; exact HOWN.out⟩
   case measure => simp [intOf]; omega
  ·
   have H0 : Hid (l.map (atV row) = acc) := Lib.hid (by rw [HC.out, List.drop_eq_nil_of_le (Nat.le_of_not_lt hlt)]; simp)
   have hln : acc.length = l.length := by have := congrArg List.length H0.out; simp at this; omega
   obtain ⟨A7, c7, rfl, hq, _⟩ := Own.form hown
   go_wp2
   go_ret
   exact ⟨A7, c7, by rw [hln]; rfl, Ext.ex _ _, by omega, by rw [H0.out, ← hln]; exact Rd.of_own hown⟩

set_option maxHeartbeats 800000 in
theorem tkey_any (s0 : ByteArray) (a1 a3 a4 K : Option Addr) (n1 m1 n3 m3 n4 m4 kc : Nat) (ks : List Int) (A : Option Addr) (c : Nat) (row : List Va) (w : World) (hA : Rd w 3 A row.length (vcl row)) (hK : Rd w 1 K ks.length (ic ks)) (na : row.length ≤ 9223372036854775807) (nk : ks.length ≤ 1048576) :
  Calls Tryz.prog 26 #[.agg #[.string s0, .slice a1 n1 m1, .slice K ks.length kc, .slice a3 n3 m3, .slice a4 n4 m4], .slice A row.length c] w fun e w' => ∃ B q, e = .returned (.slice B ks.length q) ∧ Ext w w' ∧ ks.length ≤ q ∧ Rd w' 3 B ks.length (vcl (ks.map (atV row))) := by
 have H := Lib.hid (fun w h1 h2 => tpick_any A K c kc row ks w h1 h2 na nk)
 go_enter Tryz.func26, Tryz.ntmps26
 go_wp2_with fail
 refine Calls.mono (H.out _ (hA.ext (ex_)) (hK.ext (ex_))) ?_
 rintro e w1 ⟨B, q, rfl, hb1, hq, hR⟩
 obtain ⟨x1, rfl⟩ := hb1.get
 clear hb1
 go_wp2
 go_ret
 exact ⟨B, q, rfl, ex_, hq, hR⟩

set_option maxHeartbeats 800000 in
theorem rkey_any (s0 : ByteArray) (a1 a3 a4 K : Option Addr) (n1 m1 n3 m3 n4 m4 kc : Nat) (ks : List Int) (A : Option Addr) (c : Nat) (row : List Va) (w : World) (hA : Rd w 3 A row.length (vcl row)) (hK : Rd w 1 K ks.length (ic ks)) (na : row.length ≤ 9223372036854775807) (nk : ks.length ≤ 1048576) :
  Calls Tryz.prog 62 #[.agg #[.string s0, .slice a1 n1 m1, .slice K ks.length kc, .slice a3 n3 m3, .slice a4 n4 m4], .slice A row.length c] w fun e w' => ∃ B q, e = .returned (.slice B ks.length q) ∧ Ext w w' ∧ ks.length ≤ q ∧ Rd w' 3 B ks.length (vcl (ks.map (atV row))) := by
 have H := Lib.hid (fun w h1 h2 => rpick_any A K c kc row ks w h1 h2 na nk)
 go_enter Tryz.func62, Tryz.ntmps62
 go_wp2_with fail
 refine Calls.mono (H.out _ (hA.ext (ex_)) (hK.ext (ex_))) ?_
 rintro e w1 ⟨B, q, rfl, hb1, hq, hR⟩
 obtain ⟨x1, rfl⟩ := hb1.get
 clear hb1
 go_wp2
 go_ret
 exact ⟨B, q, rfl, ex_, hq, hR⟩

end Go.Proofs.YtdiaecgpjgdkdaaGreat

namespace Go.Proofs.YtdiaecgpjgdkdaaGreat
open Go.RowKit

theorem held_v9 : Tryz.prog.stoodInHeld 66 = false := by kernel_rfl
@[go_sem] theorem guard_v9 : Tryz.prog.eqGuardType Tryz.prog.depth 66 = false := by kernel_rfl
@[go_sem high] theorem neq_v9 (a b : Va) (w : World) : (binOp .neq 66 (.agg #[.int .i64 a.k, .int .i64 a.i, .string a.t]) (.agg #[.int .i64 b.k, .int .i64 b.i, .string b.t])).run Tryz.prog w = .ok (.bool (!decide (a = b))) w := by
 obtain ⟨a1, a2, a3⟩ := a
 obtain ⟨b1, b2, b3⟩ := b
 simp [go_sem, held_v9, Tryz.underlying66]
 by_cases h1 : a1 = b1 <;> by_cases h2 : a2 = b2 <;> by_cases h3 : a3 = b3 <;> simp [h1, h2, h3]
 intro h
 rw [ByteArray.toList_eq, ByteArray.toList_eq] at h
 exact h3 (ByteArray.ext (Array.toList_inj.1 h))
theorem cmpV_ways (a b : Va) : (a.k < b.k ∧ cmpV a b = -1) ∨ (b.k < a.k ∧ cmpV a b = 1 ∧ a ≠ b) ∨ (a.k = b.k ∧ a.i < b.i ∧ cmpV a b = -1) ∨ (a.k = b.k ∧ b.i < a.i ∧ cmpV a b = 1 ∧ a ≠ b) ∨
  (a.k = b.k ∧ a.i = b.i ∧ Op.bytesLess a.t.toList b.t.toList = true ∧ cmpV a b = -1) ∨ (a.k = b.k ∧ a.i = b.i ∧ Op.bytesLess a.t.toList b.t.toList = false ∧ cmpV a b = 1 ∧ a ≠ b) ∨ (a.k = b.k ∧ a.i = b.i ∧ Op.bytesLess a.t.toList b.t.toList = false ∧ cmpV a b = 0 ∧ a = b) := by
 have hne : ∀ {x y : Va}, x.k ≠ y.k ∨ x.i ≠ y.i ∨ x.t ≠ y.t → x ≠ y := by rintro x y h rfl; simp at h
 rw [ByteArray.toList_eq, ByteArray.toList_eq]
 unfold cmpV
 simp only [orF, cmpI, cb_spec]
 rcases Int.lt_trichotomy a.k b.k with h | h | h
 ·
  left; simp [h]
 ·
  rcases Int.lt_trichotomy a.i b.i with h2 | h2 | h2
  ·
   right; right; left; simp [h, h2]
  ·
   rcases h3 : Op.bytesLess a.t.data.toList b.t.data.toList with _ | _
   ·
    by_cases h4 : a.t = b.t
    ·
     right; right; right; right; right; right
     refine ⟨h, h2, rfl, ?_, ?_⟩
     ·
      simp [h, h2, h4]
     ·
      cases a; cases b; simp_all
    ·
     right; right; right; right; right; left
     refine ⟨h, h2, rfl, ?_, hne (.inr (.inr h4))⟩
     have h5 : ¬ a.t.data.toList = b.t.data.toList := fun e => h4 (ByteArray.ext (Array.toList_inj.1 e))
     simp [h, h2, h3, h5]
   ·
    right; right; right; right; left; simp [h, h2, h3]
  ·
   right; right; right; left
   refine ⟨h, h2, ?_, hne (.inr (.inl (by omega)))⟩
   simp [h, h2, show ¬ a.i < b.i by omega]
 ·
  right; left
  refine ⟨h, ?_, hne (.inl (by omega))⟩
  simp [h, show ¬ a.k < b.k by omega]

end Go.Proofs.YtdiaecgpjgdkdaaGreat
