/- Lemmas for the rows: ItF. -/
import Derived.Test.YtdiaecgpjgdkdaaGreatThS14
import Derived.Test.YtdiaecgpjgdkdaaGreatThS38
import Derived.Test.YtdiaecgpjgdkdaaGreatThS06
import Derived.Test.YtdiaecgpjgdkdaaGreatThS05
set_option linter.unusedSimpArgs false
set_option linter.unusedVariables false
namespace Go.Proofs.YtdiaecgpjgdkdaaGreat
open Go.RowKit

@[go_sem] theorem eql_nilI (w : World) : (binOp .eql 112 (.pointer none) (.pointer none)).run Tryz.prog w = .ok (.bool true) w := run_eql_pointer_nil (P := Tryz.prog) w 112 none (by kernel_rfl)
def OvE (W : World) (xs ys : List Int) (v : Value) (w : World) (en : Ending) (w' : World) : Prop :=
 ∃ v', en = .returned v' ∧ Ext W w' ∧ w'.ownsRow W.heap.size 3 1 v' (xs ++ ys).length (ic (xs ++ ys)) ∧ Chg v.ownBlock.toList w w' ∧ ∀ g, v'.ownBlock = some g → v.ownBlock = some g ∨ w.heap.size ≤ g
theorem AT.ov_len (p : Int × Int) : ∀ t : AT, (t.ov p).length ≤ t.flat.length
 | .nil => Nat.le_refl _
 | .node _ x l r _ e => by
  have h1 := AT.ov_len p l
  have h2 := AT.ov_len p r
  simp only [AT.ov, AT.flat, List.length_append, List.length_cons]
  repeat' split
  all_goals simp
  all_goals omega
theorem nb_mk {v v1 : Value} {s n : Nat} (h : ∀ g, v1.ownBlock = some g → v.ownBlock = some g ∨ s ≤ g) (k : ∀ g, v.ownBlock = some g → g < n) (hs : n < s) : n ∉ v1.ownBlock.toList := fun hk => by
 rcases h n (by simpa using hk) with h | h
 ·
  have := k _ h; omega
 ·
  omega
theorem Chg.of_grown {a b : World} {row : Option Nat} (h : a.grownBy b row) : Chg row.toList a b := ⟨h.os, h.tape, h.output, h.size, fun k hk hn => h.block k hk fun e => hn (by simp [← e])⟩
def OvC (W : World) (p : Int × Int) (t : AT) : Prop := ∀ (w : World) (v : Value) (xs : List Int), Ext W w → w.ownsRow W.heap.size 3 1 v xs.length (ic xs) → xs.length + t.flat.length ≤ 1048576 → Calls Tryz.prog 204 #[t.p, .agg #[.int .i64 p.1, .int .i64 p.2], v] w (OvE W xs (t.ov p) v w)
theorem OvE.none {W w w' : World} {xs ys : List Int} {v : Value} (hW : Ext W w) (ho : w.ownsRow W.heap.size 3 1 v xs.length (ic xs)) (hE : Ext w w') (hy : ys = []) : OvE W xs ys v w (.returned v) w' := by
 subst hy
 exact ⟨v, rfl, hW.tr hE, by rw [List.append_nil]; exact ownsRow_ext ho hE, Chg.of_ext hE, fun g h => .inl h⟩
theorem OvE.ext {W w w' w2 : World} {xs ys : List Int} {v : Value} {en : Ending} (h : OvE W xs ys v w en w') (e : Ext w' w2) : OvE W xs ys v w en w2 := by
 obtain ⟨v3, h1, h2, h3, h4, h5⟩ := h
 exact ⟨v3, h1, h2.tr e, ownsRow_ext h3 e, h4.tr (Chg.of_ext e), h5⟩
theorem OvE.two {W w w1 w2 : World} {xs ys zs us : List Int} {v : Value} {en : Ending} (hE : Ext w w1) (h : ∀ g, v.ownBlock = some g → g < w.heap.size) (v2 : Value) (c : Chg v.ownBlock.toList w1 w2) (b : ∀ g, v2.ownBlock = some g → v.ownBlock = some g ∨ w1.heap.size ≤ g) (hu : us = ys ++ zs) {w3 w4 : World} (hE2 : Ext w2 w3) (k : OvE W (xs ++ ys) zs v2 w3 en w4) : OvE W xs us v w en w4 := by
 subst hu
 obtain ⟨v3, h1, h2, h3, h4, h5⟩ := k
 have hs := hE.size
 have hs2 := c.size
 have hs3 := hE2.size
 refine ⟨v3, h1, h2, by rw [← List.append_assoc]; exact h3, (((Chg.of_ext hE).tr c).tr (Chg.of_ext hE2)).tr2 h4 fun j hj => ?_, fun g hg => ?_⟩
 ·
  rcases b j (by simpa using hj) with h | h
  ·
   exact .inl (by simpa using h)
  ·
   exact .inr (by omega)
 ·
  rcases h5 g hg with h | h
  ·
   rcases b g h with h | h
   ·
    exact .inl h
   ·
    exact .inr (by omega)
  ·
   exact .inr (by omega)
set_option maxRecDepth 100000 in
set_option maxHeartbeats 8000000 in
theorem ov_nil (W : World) (p : Int × Int) : OvC W p .nil := by
 intro w v xs hW ho _
 have H0 := Lib.hid (And.intro hW ho)
 clear hW ho
 show Calls _ _ #[.pointer none, _, _] _ _
 go_enter Tryz.func204, Tryz.ntmps204
 go_wp2_with fail
 refine wp_region_ext (by kernel_rfl) (by kernel_rfl) ?_
 repeat (first | go_big_quiet_step (fail) | quiet_step (fail))
 refine wpQuiet_nil ?_
 intro _ hw'
 obtain ⟨xq, hw''⟩ := hw'
 subst hw''
 go_wp2
 go_ret
 exact OvE.none H0.out.1 H0.out.2 (ex_) rfl

set_option maxRecDepth 100000 in
set_option maxHeartbeats 8000000 in
theorem ov_node (W : World) (p : Int × Int) (b : Nat) (x : It) (l r : AT) (h e : Int) (g : NdI W b x l.p r.p h e) (HL : Hid (OvC W p l)) (HR : Hid (OvC W p r)) : OvC W p (.node b x l r h e) := by
 intro w v xs hW ho hlen
 have HK := Lib.hid g
 have HW := Lib.hid (And.intro hW ho)
 have HLT : Hid (∀ g, v.ownBlock = some g → g < w.heap.size) := Lib.hid fun g hg => (ho.lt g hg).2
 have HNB : Hid (w.heap.size ∉ v.ownBlock.toList) := Lib.hid fun hk => by have := HLT.out _ (by simpa using hk); omega
 obtain ⟨pl, hpl⟩ := p_form l
 obtain ⟨pr_, hpr⟩ := p_form r
 have HOL : Hid ((l.ov p).length ≤ l.flat.length) := Lib.hid (AT.ov_len p l)
 have HPL := Lib.hid hpl
 have HPR := Lib.hid hpr
 obtain ⟨hlt0, c0, c1, c2, c3, c4, c5, c6, -, -, -, -⟩ := (g.ext hW).f
 rw [hpl] at c3
 rw [hpr] at c4
 simp only [AT.flat, List.length_append, List.length_cons] at hlen
 unfold OvC at HL HR
 rw [hpl] at HL
 rw [hpr] at HR
 clear g hW ho hpl hpr
 show Calls _ _ #[.pointer (some ⟨b, 0, none⟩), _, _] _ _
 by_cases he : e ≤ p.1
 ·
  have HY : Hid (AT.ov p (.node b x l r h e) = []) := Lib.hid (by rw [AT.ov, if_pos he])
  go_enter Tryz.func204, Tryz.ntmps204
  go_wp2_with fail
  refine wp_region_ext (by kernel_rfl) (by kernel_rfl) ?_
  repeat (first | go_big_quiet_step (fail) | quiet_step (fail))
  refine wpQuiet_nil ?_
  intro _ hw'
  obtain ⟨xq, hw''⟩ := hw'
  subst hw''
  go_wp2
  go_ret
  exact OvE.none HW.out.1 HW.out.2 (ex_) HY.out
 ·
  go_enter Tryz.func204, Tryz.ntmps204
  go_wp2_with fail
  refine wp_region_ext (by kernel_rfl) (by kernel_rfl) ?_
  repeat (first | go_big_quiet_step (fail) | quiet_step (fail))
  refine wpQuiet_nil ?_
  intro _ hw'
  obtain ⟨xq, hw''⟩ := hw'
  subst hw''
  go_wp2_with fail
  refine wp_region_held_drew (S := (fun w' => w'.cell? ⟨w.heap.size, 0, none⟩ = some (.int .i64 p.1) ∧ w'.cell? ⟨w.heap.size, 1, none⟩ = some (.int .i64 p.2) ∧ w'.cell? ⟨b, 3, none⟩ = some (.pointer pl))) (by kernel_rfl) (by simp [go_sem, ↓IntWalk.iteOmega, *]) (fun hHeld => ?_)
  refine tkH 0 ?oi101 (?v101) ?hi101 ?hy101 ?_
  case hi101 => (simp only [gA, gS, gZ]; try rfl)
  case hy101 => (refine Or.inl ⟨by rfl, ?_⟩; intro wq hSw; (try dsimp only at hSw); go_simp; (try with_reducible rfl))
  (try simp only [Act.put, pA, pZ, pS])
  refine tkH 1 ?oi102 (?v102) ?hi102 ?hy102 ?_
  case hi102 => (simp only [gA, gS, gZ]; try rfl)
  case hy102 => (refine Or.inl ⟨by rfl, ?_⟩; intro wq hSw; (try dsimp only at hSw); go_simp; (try with_reducible rfl))
  (try simp only [Act.put, pA, pZ, pS])
  refine tkH 2 ?oi103 (?v103) ?hi103 ?hy103 ?_
  case hi103 => (simp only [gA, gS, gZ]; try rfl)
  case hy103 => (refine Or.inl ⟨by rfl, ?_⟩; intro wq hSw; (try dsimp only at hSw); go_simp; (try with_reducible rfl))
  (try simp only [Act.put, pA, pZ, pS])
  refine tkH 3 ?oi104 (?v104) ?hi104 ?hy104 ?_
  case hi104 => (simp only [gA, gS, gZ]; try rfl)
  case hy104 => (refine Or.inl ⟨by rfl, ?_⟩; intro wq hSw; (try dsimp only at hSw); go_simp; (try with_reducible rfl))
  (try simp only [Act.put, pA, pZ, pS])
  refine tkH 4 ?oi105 (?v105) ?hi105 ?hy105 ?_
  case hi105 => (simp only [gA, gS, gZ]; try rfl)
  case hy105 => (refine Or.inl ⟨by rfl, ?_⟩; intro wq hSw; (try dsimp only at hSw); go_simp; (try with_reducible rfl))
  (try simp only [Act.put, pA, pZ, pS])
  refine tkH 5 ?oi106 (?v106) ?hi106 ?hy106 ?_
  case hi106 => (simp only [gA, gS, gZ]; try rfl)
  case hy106 => (refine Or.inl ⟨by rfl, ?_⟩; intro wq hSw; (try dsimp only at hSw); go_simp; (try with_reducible rfl))
  (try simp only [Act.put, pA, pZ, pS])
  refine wpAnyH_ready (rs := [6]) (by kernel_rfl) (by simp) ?_
  refine AllReadyH.cons (o := ?oi107) ?hi107 ?ti107 AllReadyH.nil
  case hi107 => (simp only [gA, gS, gZ]; try rfl)
  case ti107 =>
   intro KQ hKQ
   go_simp
   go_at_call 204
   refine Calls.mono (HL.out _ v xs (HW.out.1.tr (ex_)) (ownsRow_ext HW.out.2 (ex_)) (by omega)) ?_
   rintro en1 w1 ⟨v1, rfl, hE1, ho1, hc1, hb1⟩
   have d0 : w1.cell? ⟨w.heap.size, 0, none⟩ = some (.int .i64 p.1) := (World.cell?_of_block (hc1.same _ (by simp [size_ext]; omega) HNB.out)).trans (by simp [go_sem, ↓IntWalk.iteOmega])
   have d1 : w1.cell? ⟨w.heap.size, 1, none⟩ = some (.int .i64 p.2) := (World.cell?_of_block (hc1.same _ (by simp [size_ext]; omega) HNB.out)).trans (by simp [go_sem, ↓IntWalk.iteOmega])
   have hlt1 : w.heap.size < w1.heap.size := Nat.lt_of_lt_of_le (by simp [size_ext]; omega) hc1.size
   obtain ⟨hltb, e0, e1, e2, e3, e4, -, -, -, -, -, -⟩ := (HK.out.ext hE1).f
   rw [HPR.out] at e4
   rw [HPL.out] at e3
   have NB1 : Hid (w.heap.size ∉ v1.ownBlock.toList) := Lib.hid (nb_mk hb1 HLT.out (by simp [size_ext]; omega))
   have H1 := Lib.hid (And.intro hE1 (And.intro ho1 (And.intro hc1 hb1)))
   clear hE1 ho1 hc1 hb1 HL hlt0 c0 c1 c2 c3 c4 c5 c6
   refine hKQ.out _ _ (by simp [go_sem, ↓IntWalk.iteOmega, *]) (fun hHeld2 => ?_)
   clear hHeld hKQ KQ; have hHeld := hHeld2; clear hHeld2
   (try simp only [Act.put, pA, pZ, pS])
   refine tkH 7 ?oi108 (?v108) ?hi108 ?hy108 ?_
   case hi108 => (simp only [gA, gS, gZ]; try rfl)
   case hy108 => (refine Or.inl ⟨by rfl, ?_⟩; intro wq hSw; (try dsimp only at hSw); go_simp; (try with_reducible rfl))
   (try simp only [Act.put, pA, pZ, pS])
   refine wpAnyH_done (by kernel_rfl) ?_ _
   by_cases hf : p.2 ≤ x.1.1
   ·
    have HY : Hid (AT.ov p (.node b x l r h e) = l.ov p) := Lib.hid (by rw [AT.ov, if_neg (by omega), if_pos hf, List.append_nil])
    go_wp2_with fail
    refine wp_region_ext (by kernel_rfl) (by kernel_rfl) ?_
    repeat (first | go_big_quiet_step (fail) | quiet_step (fail))
    refine wpQuiet_nil ?_
    intro _ hw'
    obtain ⟨xq, hw''⟩ := hw'
    subst hw''
    go_wp2
    go_ret
    obtain ⟨hE1, ho1, hc1, hb1⟩ := H1.out
    refine OvE.two (ex_) HLT.out v1 hc1 hb1 (zs := []) (by rw [HY.out, List.append_nil]) (Ext.refl' _) (OvE.none (v := v1) hE1 ho1 (ex_) rfl)
   ·
    by_cases hq : p.1 < x.1.2
    ·
     have HY : Hid (AT.ov p (.node b x l r h e) = l.ov p ++ ([x.2] ++ r.ov p)) := Lib.hid (by rw [AT.ov, if_neg (by omega), if_neg hf, if_pos hq])
     go_wp2_with fail
     refine wp_region_ext (by kernel_rfl) (by kernel_rfl) ?_
     repeat (first | go_big_quiet_step (fail) | quiet_step (fail))
     refine wpQuiet_nil ?_
     intro _ hw'
     obtain ⟨xq, hw''⟩ := hw'
     subst hw''
     go_wp2_with fail
     refine wp_region_ext (by kernel_rfl) (by kernel_rfl) ?_
     repeat (first | go_big_quiet_step (fail) | quiet_step (fail))
     refine wpQuiet_nil ?_
     intro _ hw'
     obtain ⟨xq, hw''⟩ := hw'
     subst hw''
     go_wp2_with (first | (at_builtin; refine wpList_app2 _ rfl (.tmp 45) (.tmp 51) rfl elInt W (H1.out.1.tr (ex_)) v1 (xs ++ l.ov p).length (ic (xs ++ l.ov p)) rfl (ownsRow_ext H1.out.2.1 (ex_)) _ 1 1 [.int .i64 x.2] rfl (Rd.lit _ _ _ 1 1 rfl (by simp [size_ext])) (by simp [Value.oneCell']) (by have := HOL.out; unfold maxLen; simp only [List.length_append]; omega) (by have := HOL.out; simp only [List.length_append]; omega) ?_; intro v2 x2 hown2 hg2 hbk2; have HO2 := Lib.hid hown2; have HG2 := Lib.hid hg2; have HB2 := Lib.hid hbk2; clear hown2 hg2 hbk2))
     have ho2 : (ext W x2).ownsRow W.heap.size 3 1 v2 (xs ++ l.ov p ++ [x.2]).length (ic (xs ++ l.ov p ++ [x.2])) := by
      have := HO2.out
      unfold Own at this
      rw [List.length_append, ic, List.map_append]
      exact this
     have hE2 := Ext.ex W x2
     have hc2 := Chg.of_grown HG2.out
     have hb2 := HB2.out
     clear HO2 HG2 HB2
     generalize ext W x2 = w2 at ho2 hE2 hc2 ⊢
     have d0' : w2.cell? ⟨w.heap.size, 0, none⟩ = some (.int .i64 p.1) := (World.cell?_of_block (hc2.same _ (by simp [size_ext]; omega) NB1.out)).trans (by simp [go_sem, ↓IntWalk.iteOmega, d0])
     have d1' : w2.cell? ⟨w.heap.size, 1, none⟩ = some (.int .i64 p.2) := (World.cell?_of_block (hc2.same _ (by simp [size_ext]; omega) NB1.out)).trans (by simp [go_sem, ↓IntWalk.iteOmega, d1])
     have hlt2 : w.heap.size < w2.heap.size := Nat.lt_of_lt_of_le (by simp [size_ext]; omega) hc2.size
     obtain ⟨hltc, -, -, -, -, e4', -, -, -, -, -, -⟩ := (HK.out.ext hE2).f
     rw [HPR.out] at e4'
     have NB2 : Hid (w.heap.size ∉ v2.ownBlock.toList) := Lib.hid fun hk => by
      rcases hb2 _ (by simpa using hk) with h | h
      ·
       exact NB1.out (by simp [h])
      ·
       simp [size_ext] at h; omega
     have H2 := Lib.hid (And.intro hE2 (And.intro ho2 (And.intro hc2 hb2)))
     clear hE2 ho2 hc2 hb2
     go_wp2_with fail
     refine wp_region_held_drew (S := (fun w' => w'.cell? ⟨w.heap.size, 0, none⟩ = some (.int .i64 p.1) ∧ w'.cell? ⟨w.heap.size, 1, none⟩ = some (.int .i64 p.2) ∧ w'.cell? ⟨b, 4, none⟩ = some (.pointer pr_))) (by kernel_rfl) (by simp [go_sem, ↓IntWalk.iteOmega, *]) (fun hHeld => ?_)
     refine tkH 0 ?oi501 (?v501) ?hi501 ?hy501 ?_
     case hi501 => (simp only [gA, gS, gZ]; try rfl)
     case hy501 => (refine Or.inl ⟨by rfl, ?_⟩; intro wq hSw; (try dsimp only at hSw); go_simp; (try with_reducible rfl))
     (try simp only [Act.put, pA, pZ, pS])
     refine tkH 1 ?oi502 (?v502) ?hi502 ?hy502 ?_
     case hi502 => (simp only [gA, gS, gZ]; try rfl)
     case hy502 => (refine Or.inl ⟨by rfl, ?_⟩; intro wq hSw; (try dsimp only at hSw); go_simp; (try with_reducible rfl))
     (try simp only [Act.put, pA, pZ, pS])
     refine tkH 2 ?oi503 (?v503) ?hi503 ?hy503 ?_
     case hi503 => (simp only [gA, gS, gZ]; try rfl)
     case hy503 => (refine Or.inl ⟨by rfl, ?_⟩; intro wq hSw; (try dsimp only at hSw); go_simp; (try with_reducible rfl))
     (try simp only [Act.put, pA, pZ, pS])
     refine tkH 3 ?oi504 (?v504) ?hi504 ?hy504 ?_
     case hi504 => (simp only [gA, gS, gZ]; try rfl)
     case hy504 => (refine Or.inl ⟨by rfl, ?_⟩; intro wq hSw; (try dsimp only at hSw); go_simp; (try with_reducible rfl))
     (try simp only [Act.put, pA, pZ, pS])
     refine tkH 4 ?oi505 (?v505) ?hi505 ?hy505 ?_
     case hi505 => (simp only [gA, gS, gZ]; try rfl)
     case hy505 => (refine Or.inl ⟨by rfl, ?_⟩; intro wq hSw; (try dsimp only at hSw); go_simp; (try with_reducible rfl))
     (try simp only [Act.put, pA, pZ, pS])
     refine tkH 5 ?oi506 (?v506) ?hi506 ?hy506 ?_
     case hi506 => (simp only [gA, gS, gZ]; try rfl)
     case hy506 => (refine Or.inl ⟨by rfl, ?_⟩; intro wq hSw; (try dsimp only at hSw); go_simp; (try with_reducible rfl))
     (try simp only [Act.put, pA, pZ, pS])
     refine wpAnyH_ready (rs := [6]) (by kernel_rfl) (by simp) ?_
     refine AllReadyH.cons (o := ?oi507) ?hi507 ?ti507 AllReadyH.nil
     case hi507 => (simp only [gA, gS, gZ]; try rfl)
     case ti507 =>
      intro KQ hKQ
      go_simp
      go_at_call 204
      refine Calls.mono (HR.out _ v2 (xs ++ l.ov p ++ [x.2]) (H2.out.1.tr (ex_)) (ownsRow_ext H2.out.2.1 (ex_)) (by have := HOL.out; simp only [List.length_append, List.length_cons, List.length_nil]; omega)) ?_
      intro en3 w3 H3
      have H3 := Lib.hid H3
      obtain ⟨v3, rfl, hE3, -, hc3, -⟩ := id H3.out
      have f0 : w3.cell? ⟨w.heap.size, 0, none⟩ = some (.int .i64 p.1) := (World.cell?_of_block (hc3.same _ (by simp [size_ext]; omega) NB2.out)).trans (by simp [go_sem, ↓IntWalk.iteOmega, *])
      have f1 : w3.cell? ⟨w.heap.size, 1, none⟩ = some (.int .i64 p.2) := (World.cell?_of_block (hc3.same _ (by simp [size_ext]; omega) NB2.out)).trans (by simp [go_sem, ↓IntWalk.iteOmega, *])
      obtain ⟨-, -, -, -, -, g4, -, -, -, -, -, -⟩ := (HK.out.ext hE3).f
      rw [HPR.out] at g4
      clear hE3 hc3
      refine hKQ.out _ _ (by simp [go_sem, ↓IntWalk.iteOmega, *]) (fun hHeld2 => ?_)
      clear hHeld hKQ KQ; have hHeld := hHeld2; clear hHeld2
      (try simp only [Act.put, pA, pZ, pS])
      refine tkH 7 ?oi508 (?v508) ?hi508 ?hy508 ?_
      case hi508 => (simp only [gA, gS, gZ]; try rfl)
      case hy508 => (refine Or.inl ⟨by rfl, ?_⟩; intro wq hSw; (try dsimp only at hSw); go_simp; (try with_reducible rfl))
      (try simp only [Act.put, pA, pZ, pS])
      refine wpAnyH_done (by kernel_rfl) ?_ _
      go_wp2
      go_ret
      obtain ⟨hE1, ho1, hc1, hb1⟩ := H1.out
      obtain ⟨hE2, ho2, hc2, hb2⟩ := H2.out
      refine OvE.two ?_ HLT.out v1 hc1 hb1 HY.out (Ext.refl' _) (OvE.two ?_ (fun g hg => (ho1.lt g hg).2) v2 hc2 hb2 rfl ?_ (OvE.ext H3.out ?_))
      all_goals exact ex_
    ·
     have HY : Hid (AT.ov p (.node b x l r h e) = l.ov p ++ r.ov p) := Lib.hid (by rw [AT.ov, if_neg (by omega), if_neg hf, if_neg hq]; rfl)
     go_wp2_with fail
     refine wp_region_ext (by kernel_rfl) (by kernel_rfl) ?_
     repeat (first | go_big_quiet_step (fail) | quiet_step (fail))
     refine wpQuiet_nil ?_
     intro _ hw'
     obtain ⟨xq, hw''⟩ := hw'
     subst hw''
     go_wp2_with fail
     refine wp_region_ext (by kernel_rfl) (by kernel_rfl) ?_
     repeat (first | go_big_quiet_step (fail) | quiet_step (fail))
     refine wpQuiet_nil ?_
     intro _ hw'
     obtain ⟨xq, hw''⟩ := hw'
     subst hw''
     go_wp2_with fail
     refine wp_region_held_drew (S := (fun w' => w'.cell? ⟨w.heap.size, 0, none⟩ = some (.int .i64 p.1) ∧ w'.cell? ⟨w.heap.size, 1, none⟩ = some (.int .i64 p.2) ∧ w'.cell? ⟨b, 4, none⟩ = some (.pointer pr_))) (by kernel_rfl) (by simp [go_sem, ↓IntWalk.iteOmega, *]) (fun hHeld => ?_)
     refine tkH 0 ?oi301 (?v301) ?hi301 ?hy301 ?_
     case hi301 => (simp only [gA, gS, gZ]; try rfl)
     case hy301 => (refine Or.inl ⟨by rfl, ?_⟩; intro wq hSw; (try dsimp only at hSw); go_simp; (try with_reducible rfl))
     (try simp only [Act.put, pA, pZ, pS])
     refine tkH 1 ?oi302 (?v302) ?hi302 ?hy302 ?_
     case hi302 => (simp only [gA, gS, gZ]; try rfl)
     case hy302 => (refine Or.inl ⟨by rfl, ?_⟩; intro wq hSw; (try dsimp only at hSw); go_simp; (try with_reducible rfl))
     (try simp only [Act.put, pA, pZ, pS])
     refine tkH 2 ?oi303 (?v303) ?hi303 ?hy303 ?_
     case hi303 => (simp only [gA, gS, gZ]; try rfl)
     case hy303 => (refine Or.inl ⟨by rfl, ?_⟩; intro wq hSw; (try dsimp only at hSw); go_simp; (try with_reducible rfl))
     (try simp only [Act.put, pA, pZ, pS])
     refine tkH 3 ?oi304 (?v304) ?hi304 ?hy304 ?_
     case hi304 => (simp only [gA, gS, gZ]; try rfl)
     case hy304 => (refine Or.inl ⟨by rfl, ?_⟩; intro wq hSw; (try dsimp only at hSw); go_simp; (try with_reducible rfl))
     (try simp only [Act.put, pA, pZ, pS])
     refine tkH 4 ?oi305 (?v305) ?hi305 ?hy305 ?_
     case hi305 => (simp only [gA, gS, gZ]; try rfl)
     case hy305 => (refine Or.inl ⟨by rfl, ?_⟩; intro wq hSw; (try dsimp only at hSw); go_simp; (try with_reducible rfl))
     (try simp only [Act.put, pA, pZ, pS])
     refine tkH 5 ?oi306 (?v306) ?hi306 ?hy306 ?_
     case hi306 => (simp only [gA, gS, gZ]; try rfl)
     case hy306 => (refine Or.inl ⟨by rfl, ?_⟩; intro wq hSw; (try dsimp only at hSw); go_simp; (try with_reducible rfl))
     (try simp only [Act.put, pA, pZ, pS])
     refine wpAnyH_ready (rs := [6]) (by kernel_rfl) (by simp) ?_
     refine AllReadyH.cons (o := ?oi307) ?hi307 ?ti307 AllReadyH.nil
     case hi307 => (simp only [gA, gS, gZ]; try rfl)
     case ti307 =>
      intro KQ hKQ
      go_simp
      go_at_call 204
      refine Calls.mono (HR.out _ v1 (xs ++ l.ov p) (H1.out.1.tr (ex_)) (ownsRow_ext H1.out.2.1 (ex_)) (by have := HOL.out; simp only [List.length_append, List.length_cons, List.length_nil]; omega)) ?_
      intro en3 w3 H3
      have H3 := Lib.hid H3
      obtain ⟨v3, rfl, hE3, -, hc3, -⟩ := id H3.out
      have f0 : w3.cell? ⟨w.heap.size, 0, none⟩ = some (.int .i64 p.1) := (World.cell?_of_block (hc3.same _ (by simp [size_ext]; omega) NB1.out)).trans (by simp [go_sem, ↓IntWalk.iteOmega, *])
      have f1 : w3.cell? ⟨w.heap.size, 1, none⟩ = some (.int .i64 p.2) := (World.cell?_of_block (hc3.same _ (by simp [size_ext]; omega) NB1.out)).trans (by simp [go_sem, ↓IntWalk.iteOmega, *])
      obtain ⟨-, -, -, -, -, g4, -, -, -, -, -, -⟩ := (HK.out.ext hE3).f
      rw [HPR.out] at g4
      clear hE3 hc3
      refine hKQ.out _ _ (by simp [go_sem, ↓IntWalk.iteOmega, *]) (fun hHeld2 => ?_)
      clear hHeld hKQ KQ; have hHeld := hHeld2; clear hHeld2
      (try simp only [Act.put, pA, pZ, pS])
      refine tkH 7 ?oi308 (?v308) ?hi308 ?hy308 ?_
      case hi308 => (simp only [gA, gS, gZ]; try rfl)
      case hy308 => (refine Or.inl ⟨by rfl, ?_⟩; intro wq hSw; (try dsimp only at hSw); go_simp; (try with_reducible rfl))
      (try simp only [Act.put, pA, pZ, pS])
      refine wpAnyH_done (by kernel_rfl) ?_ _
      go_wp2
      go_ret
      obtain ⟨hE1, ho1, hc1, hb1⟩ := H1.out
      refine OvE.two ?_ HLT.out v1 hc1 hb1 HY.out ?_ (OvE.ext H3.out ?_)
      all_goals exact ex_

theorem overlap_any (W : World) (p : Int × Int) : ∀ t : AT, Gd W t → OvC W p t
 | .nil, _ => ov_nil W p
 | .node b x l r h e, g => ov_node W p b x l r h e g.1 (Lib.hid (overlap_any W p l g.2.1)) (Lib.hid (overlap_any W p r g.2.2))
def ovIds (p : Int × Int) (t : AT) : List Int := Lib.compact ((t.ov p).mergeSort fun x y => decide (x ≤ y))
end Go.Proofs.YtdiaecgpjgdkdaaGreat
