/- The interval tree: overlap, Overlap. -/
import Derived.Test.YtahmkinppighkaaItE
import Derived.Test.YtahmkinppighkaaTrI
import Derived.Test.YtahmkinppighkaaOw2
set_option linter.unusedSimpArgs false
set_option linter.unusedVariables false
namespace Go.Proofs.Ytahmkinppighkaa
open Go.RowKit


@[go_sem] theorem eql_nilI (w : World) : (binOp .eql 75 (.pointer none) (.pointer none)).run Try.prog w = .ok (.bool true) w := run_eql_pointer_nil (P := Try.prog) w 75 none (by kernel_rfl)
/-- the row ys behind the row v of xs -/
def OvE (W : World) (xs ys : List Int) (v : Value) (w : World) (en : Ending) (w' : World) : Prop :=
  ∃ v', en = .returned v' ∧ Ext W w' ∧ w'.ownsRow W.heap.size 3 1 v' (xs ++ ys).length (ic (xs ++ ys)) ∧ Chg v.ownBlock.toList w w' ∧ ∀ g, v'.ownBlock = some g → v.ownBlock = some g ∨ w.heap.size ≤ g
theorem AT.ov_len (p : Int × Int) : ∀ t : AT, (t.ov p).length ≤ t.flat.length
  | .nil => Nat.le_refl _
  | .node _ x l r _ e => by
    have h1 := AT.ov_len p l
    have h2 := AT.ov_len p r
    simp only [AT.ov, AT.flat, List.length_append, List.length_cons]
    repeat' split
    all_goals simp
    all_goals omega
theorem nb_mk {v v1 : Value} {s n : Nat} (h : ∀ g, v1.ownBlock = some g → v.ownBlock = some g ∨ s ≤ g) (k : ∀ g, v.ownBlock = some g → g < n) (hs : n < s) : n ∉ v1.ownBlock.toList := fun hk => by
  rcases h n (by simpa using hk) with h | h
  · have := k _ h; omega
  · omega
theorem Chg.of_grown {a b : World} {row : Option Nat} (h : a.grownBy b row) : Chg row.toList a b := ⟨h.os, h.tape, h.output, h.size, fun k hk hn => h.block k hk fun e => hn (by simp [← e])⟩
def OvC (W : World) (p : Int × Int) (t : AT) : Prop := ∀ (w : World) (v : Value) (xs : List Int), Ext W w → w.ownsRow W.heap.size 3 1 v xs.length (ic xs) → xs.length + t.flat.length ≤ 1048576 → Calls Try.prog 44 #[t.p, .agg #[.int .i64 p.1, .int .i64 p.2], v] w (OvE W xs (t.ov p) v w)
theorem OvE.none {W w w' : World} {xs ys : List Int} {v : Value} (hW : Ext W w) (ho : w.ownsRow W.heap.size 3 1 v xs.length (ic xs)) (hE : Ext w w') (hy : ys = []) : OvE W xs ys v w (.returned v) w' := by
  subst hy
  exact ⟨v, rfl, hW.tr hE, by rw [List.append_nil]; exact ownsRow_ext ho hE, Chg.of_ext hE, fun g h => .inl h⟩
theorem OvE.ext {W w w' w2 : World} {xs ys : List Int} {v : Value} {en : Ending} (h : OvE W xs ys v w en w') (e : Ext w' w2) : OvE W xs ys v w en w2 := by
  obtain ⟨v3, h1, h2, h3, h4, h5⟩ := h
  exact ⟨v3, h1, h2.tr e, ownsRow_ext h3 e, h4.tr (Chg.of_ext e), h5⟩
/-- two steps -/
theorem OvE.two {W w w1 w2 : World} {xs ys zs us : List Int} {v : Value} {en : Ending} (hE : Ext w w1) (h : ∀ g, v.ownBlock = some g → g < w.heap.size) (v2 : Value) (c : Chg v.ownBlock.toList w1 w2) (b : ∀ g, v2.ownBlock = some g → v.ownBlock = some g ∨ w1.heap.size ≤ g) (hu : us = ys ++ zs) {w3 w4 : World} (hE2 : Ext w2 w3) (k : OvE W (xs ++ ys) zs v2 w3 en w4) : OvE W xs us v w en w4 := by
  subst hu
  obtain ⟨v3, h1, h2, h3, h4, h5⟩ := k
  have hs := hE.size
  have hs2 := c.size
  have hs3 := hE2.size
  refine ⟨v3, h1, h2, by rw [← List.append_assoc]; exact h3, (((Chg.of_ext hE).tr c).tr (Chg.of_ext hE2)).tr2 h4 fun j hj => ?_, fun g hg => ?_⟩
  · rcases b j (by simpa using hj) with h | h
    · exact .inl (by simpa using h)
    · exact .inr (by omega)
  · rcases h5 g hg with h | h
    · rcases b g h with h | h
      · exact .inl h
      · exact .inr (by omega)
    · exact .inr (by omega)
set_option maxRecDepth 100000 in
set_option maxHeartbeats 8000000 in
theorem ov_nil (W : World) (p : Int × Int) : OvC W p .nil := by
  intro w v xs hW ho _
  have H0 := Lib.hid (And.intro hW ho)
  clear hW ho
  show Calls _ _ #[.pointer none, _, _] _ _
  go_enter Try.func44, Try.ntmps44
  go_wp2_with fail
  refine wp_region_ext (by kernel_rfl) (by kernel_rfl) ?_
  repeat (first | go_big_quiet_step (fail) | quiet_step (fail))
  refine wpQuiet_nil ?_
  intro _ hw'
  obtain ⟨xq, hw''⟩ := hw'
  subst hw''
  go_wp2
  go_ret
  exact OvE.none H0.out.1 H0.out.2 (by repeat (first | exact Ext.refl' _ | assumption | apply Ext.ex' | apply Ext.al | apply Ext.drN | apply Ext.dr)) rfl


set_option maxRecDepth 100000 in
set_option maxHeartbeats 8000000 in
theorem ov_node (W : World) (p : Int × Int) (b : Nat) (x : It) (l r : AT) (h e : Int) (g : NdI W b x l.p r.p h e) (HL : Hid (OvC W p l)) (HR : Hid (OvC W p r)) : OvC W p (.node b x l r h e) := by
  intro w v xs hW ho hlen
  have HK := Lib.hid g
  have HW := Lib.hid (And.intro hW ho)
  have HLT : Hid (∀ g, v.ownBlock = some g → g < w.heap.size) := Lib.hid fun g hg => (ho.lt g hg).2
  have HNB : Hid (w.heap.size ∉ v.ownBlock.toList) := Lib.hid fun hk => by have := HLT.out _ (by simpa using hk); omega
  obtain ⟨pl, hpl⟩ := p_form l
  obtain ⟨pr_, hpr⟩ := p_form r
  have HOL : Hid ((l.ov p).length ≤ l.flat.length) := Lib.hid (AT.ov_len p l)
  have HPL := Lib.hid hpl
  have HPR := Lib.hid hpr
  obtain ⟨hlt0, c0, c1, c2, c3, c4, c5, c6, -, -, -, -⟩ := (g.ext hW).f
  rw [hpl] at c3
  rw [hpr] at c4
  simp only [AT.flat, List.length_append, List.length_cons] at hlen
  unfold OvC at HL HR
  rw [hpl] at HL
  rw [hpr] at HR
  clear g hW ho hpl hpr
  show Calls _ _ #[.pointer (some ⟨b, 0, none⟩), _, _] _ _
  by_cases he : e ≤ p.1
  · have HY : Hid (AT.ov p (.node b x l r h e) = []) := Lib.hid (by rw [AT.ov, if_pos he])
    go_enter Try.func44, Try.ntmps44
    go_wp2_with fail
    refine wp_region_ext (by kernel_rfl) (by kernel_rfl) ?_
    repeat (first | go_big_quiet_step (fail) | quiet_step (fail))
    refine wpQuiet_nil ?_
    intro _ hw'
    obtain ⟨xq, hw''⟩ := hw'
    subst hw''
    go_wp2
    go_ret
    exact OvE.none HW.out.1 HW.out.2 (by repeat (first | exact Ext.refl' _ | assumption | apply Ext.ex' | apply Ext.al | apply Ext.drN | apply Ext.dr)) HY.out
  · go_enter Try.func44, Try.ntmps44
    go_wp2_with fail
    refine wp_region_ext (by kernel_rfl) (by kernel_rfl) ?_
    repeat (first | go_big_quiet_step (fail) | quiet_step (fail))
    refine wpQuiet_nil ?_
    intro _ hw'
    obtain ⟨xq, hw''⟩ := hw'
    subst hw''
    go_wp2_with fail
    refine wp_region_held_drew (S := (fun w' => w'.cell? ⟨w.heap.size, 0, none⟩ = some (.int .i64 p.1) ∧ w'.cell? ⟨w.heap.size, 1, none⟩ = some (.int .i64 p.2) ∧ w'.cell? ⟨b, 3, none⟩ = some (.pointer pl))) (by kernel_rfl) (by simp [go_sem, ↓IntWalk.iteOmega, *]) (fun hHeld => ?_)
    refine wpAnyH_take (i := 0) (oi := ?oi101) (v := ?v101) ?hi101 (by kernel_rfl) (by kernel_rfl) (by kernel_rfl) ?hQ101 ?hy101 (by assumption) ?_
    case hi101 => (simp only [List.getElem?_toArray, List.getElem?_cons_succ, List.getElem?_cons_zero]; try rfl)
    case hQ101 => exact fun _ _ _ h => h
    case hy101 => (refine Or.inl ⟨by rfl, ?_⟩; intro wq hSw; (try dsimp only at hSw); go_simp; (try with_reducible rfl))
    (try simp only [Act.put, List.setIfInBounds_toArray, List.set_cons_zero, List.set_cons_succ])
    refine wpAnyH_take (i := 1) (oi := ?oi102) (v := ?v102) ?hi102 (by kernel_rfl) (by kernel_rfl) (by kernel_rfl) ?hQ102 ?hy102 (by assumption) ?_
    case hi102 => (simp only [List.getElem?_toArray, List.getElem?_cons_succ, List.getElem?_cons_zero]; try rfl)
    case hQ102 => exact fun _ _ _ h => h
    case hy102 => (refine Or.inl ⟨by rfl, ?_⟩; intro wq hSw; (try dsimp only at hSw); go_simp; (try with_reducible rfl))
    (try simp only [Act.put, List.setIfInBounds_toArray, List.set_cons_zero, List.set_cons_succ])
    refine wpAnyH_take (i := 2) (oi := ?oi103) (v := ?v103) ?hi103 (by kernel_rfl) (by kernel_rfl) (by kernel_rfl) ?hQ103 ?hy103 (by assumption) ?_
    case hi103 => (simp only [List.getElem?_toArray, List.getElem?_cons_succ, List.getElem?_cons_zero]; try rfl)
    case hQ103 => exact fun _ _ _ h => h
    case hy103 => (refine Or.inl ⟨by rfl, ?_⟩; intro wq hSw; (try dsimp only at hSw); go_simp; (try with_reducible rfl))
    (try simp only [Act.put, List.setIfInBounds_toArray, List.set_cons_zero, List.set_cons_succ])
    refine wpAnyH_take (i := 3) (oi := ?oi104) (v := ?v104) ?hi104 (by kernel_rfl) (by kernel_rfl) (by kernel_rfl) ?hQ104 ?hy104 (by assumption) ?_
    case hi104 => (simp only [List.getElem?_toArray, List.getElem?_cons_succ, List.getElem?_cons_zero]; try rfl)
    case hQ104 => exact fun _ _ _ h => h
    case hy104 => (refine Or.inl ⟨by rfl, ?_⟩; intro wq hSw; (try dsimp only at hSw); go_simp; (try with_reducible rfl))
    (try simp only [Act.put, List.setIfInBounds_toArray, List.set_cons_zero, List.set_cons_succ])
    refine wpAnyH_take (i := 4) (oi := ?oi105) (v := ?v105) ?hi105 (by kernel_rfl) (by kernel_rfl) (by kernel_rfl) ?hQ105 ?hy105 (by assumption) ?_
    case hi105 => (simp only [List.getElem?_toArray, List.getElem?_cons_succ, List.getElem?_cons_zero]; try rfl)
    case hQ105 => exact fun _ _ _ h => h
    case hy105 => (refine Or.inl ⟨by rfl, ?_⟩; intro wq hSw; (try dsimp only at hSw); go_simp; (try with_reducible rfl))
    (try simp only [Act.put, List.setIfInBounds_toArray, List.set_cons_zero, List.set_cons_succ])
    refine wpAnyH_take (i := 5) (oi := ?oi106) (v := ?v106) ?hi106 (by kernel_rfl) (by kernel_rfl) (by kernel_rfl) ?hQ106 ?hy106 (by assumption) ?_
    case hi106 => (simp only [List.getElem?_toArray, List.getElem?_cons_succ, List.getElem?_cons_zero]; try rfl)
    case hQ106 => exact fun _ _ _ h => h
    case hy106 => (refine Or.inl ⟨by rfl, ?_⟩; intro wq hSw; (try dsimp only at hSw); go_simp; (try with_reducible rfl))
    (try simp only [Act.put, List.setIfInBounds_toArray, List.set_cons_zero, List.set_cons_succ])
    refine wpAnyH_ready (rs := [6]) (by kernel_rfl) (by simp) ?_
    refine AllReadyH.cons (o := ?oi107) ?hi107 ?ti107 AllReadyH.nil
    case hi107 => (simp only [List.getElem?_toArray, List.getElem?_cons_succ, List.getElem?_cons_zero]; try rfl)
    case ti107 =>
      intro KQ hKQ
      go_simp
      go_at_call 44
      refine Calls.mono (HL.out _ v xs (HW.out.1.tr (by repeat (first | exact Ext.refl' _ | assumption | apply Ext.ex' | apply Ext.al | apply Ext.drN | apply Ext.dr))) (ownsRow_ext HW.out.2 (by repeat (first | exact Ext.refl' _ | assumption | apply Ext.ex' | apply Ext.al | apply Ext.drN | apply Ext.dr))) (by omega)) ?_
      rintro en1 w1 ⟨v1, rfl, hE1, ho1, hc1, hb1⟩
      have d0 : w1.cell? ⟨w.heap.size, 0, none⟩ = some (.int .i64 p.1) := (World.cell?_of_block (hc1.same _ (by simp [size_ext]; omega) HNB.out)).trans (by simp [go_sem, ↓IntWalk.iteOmega])
      have d1 : w1.cell? ⟨w.heap.size, 1, none⟩ = some (.int .i64 p.2) := (World.cell?_of_block (hc1.same _ (by simp [size_ext]; omega) HNB.out)).trans (by simp [go_sem, ↓IntWalk.iteOmega])
      have hlt1 : w.heap.size < w1.heap.size := Nat.lt_of_lt_of_le (by simp [size_ext]; omega) hc1.size
      obtain ⟨hltb, e0, e1, e2, e3, e4, -, -, -, -, -, -⟩ := (HK.out.ext hE1).f
      rw [HPR.out] at e4
      rw [HPL.out] at e3
      have NB1 : Hid (w.heap.size ∉ v1.ownBlock.toList) := Lib.hid (nb_mk hb1 HLT.out (by simp [size_ext]; omega))
      have H1 := Lib.hid (And.intro hE1 (And.intro ho1 (And.intro hc1 hb1)))
      clear hE1 ho1 hc1 hb1 HL hlt0 c0 c1 c2 c3 c4 c5 c6
      refine hKQ.out _ _ (by simp [go_sem, ↓IntWalk.iteOmega, *]) (fun hHeld2 => ?_)
      clear hHeld hKQ KQ; have hHeld := hHeld2; clear hHeld2
      (try simp only [Act.put, List.setIfInBounds_toArray, List.set_cons_zero, List.set_cons_succ])
      refine wpAnyH_take (i := 7) (oi := ?oi108) (v := ?v108) ?hi108 (by kernel_rfl) (by kernel_rfl) (by kernel_rfl) ?hQ108 ?hy108 (by assumption) ?_
      case hi108 => (simp only [List.getElem?_toArray, List.getElem?_cons_succ, List.getElem?_cons_zero]; try rfl)
      case hQ108 => exact fun _ _ _ h => h
      case hy108 => (refine Or.inl ⟨by rfl, ?_⟩; intro wq hSw; (try dsimp only at hSw); go_simp; (try with_reducible rfl))
      (try simp only [Act.put, List.setIfInBounds_toArray, List.set_cons_zero, List.set_cons_succ])
      refine wpAnyH_done (by kernel_rfl) ?_ _
      by_cases hf : p.2 ≤ x.1.1
      · have HY : Hid (AT.ov p (.node b x l r h e) = l.ov p) := Lib.hid (by rw [AT.ov, if_neg (by omega), if_pos hf, List.append_nil])
        go_wp2_with fail
        refine wp_region_ext (by kernel_rfl) (by kernel_rfl) ?_
        repeat (first | go_big_quiet_step (fail) | quiet_step (fail))
        refine wpQuiet_nil ?_
        intro _ hw'
        obtain ⟨xq, hw''⟩ := hw'
        subst hw''
        go_wp2
        go_ret
        obtain ⟨hE1, ho1, hc1, hb1⟩ := H1.out
        refine OvE.two (by repeat (first | exact Ext.refl' _ | assumption | apply Ext.ex' | apply Ext.al | apply Ext.drN | apply Ext.dr)) HLT.out v1 hc1 hb1 (zs := []) (by rw [HY.out, List.append_nil]) (Ext.refl' _) (OvE.none (v := v1) hE1 ho1 (by repeat (first | exact Ext.refl' _ | assumption | apply Ext.ex' | apply Ext.al | apply Ext.drN | apply Ext.dr)) rfl)
      · by_cases hq : p.1 < x.1.2
        · have HY : Hid (AT.ov p (.node b x l r h e) = l.ov p ++ ([x.2] ++ r.ov p)) := Lib.hid (by rw [AT.ov, if_neg (by omega), if_neg hf, if_pos hq])
          go_wp2_with fail
          refine wp_region_ext (by kernel_rfl) (by kernel_rfl) ?_
          repeat (first | go_big_quiet_step (fail) | quiet_step (fail))
          refine wpQuiet_nil ?_
          intro _ hw'
          obtain ⟨xq, hw''⟩ := hw'
          subst hw''
          go_wp2_with fail
          refine wp_region_ext (by kernel_rfl) (by kernel_rfl) ?_
          repeat (first | go_big_quiet_step (fail) | quiet_step (fail))
          refine wpQuiet_nil ?_
          intro _ hw'
          obtain ⟨xq, hw''⟩ := hw'
          subst hw''
          go_wp2_with (first | (at_builtin; refine wpList_app2 _ rfl (.tmp 45) (.tmp 51) rfl elInt W (H1.out.1.tr (by repeat (first | exact Ext.refl' _ | assumption | apply Ext.ex' | apply Ext.al | apply Ext.drN | apply Ext.dr))) v1 (xs ++ l.ov p).length (ic (xs ++ l.ov p)) rfl (ownsRow_ext H1.out.2.1 (by repeat (first | exact Ext.refl' _ | assumption | apply Ext.ex' | apply Ext.al | apply Ext.drN | apply Ext.dr))) _ 1 1 [.int .i64 x.2] rfl (Rd.lit _ _ _ 1 1 rfl (by simp [size_ext])) (by simp [Value.oneCell']) (by have := HOL.out; unfold maxLen; simp only [List.length_append]; omega) (by have := HOL.out; simp only [List.length_append]; omega) ?_; intro v2 x2 hown2 hg2 hbk2; have HO2 := Lib.hid hown2; have HG2 := Lib.hid hg2; have HB2 := Lib.hid hbk2; clear hown2 hg2 hbk2))
          have ho2 : (ext W x2).ownsRow W.heap.size 3 1 v2 (xs ++ l.ov p ++ [x.2]).length (ic (xs ++ l.ov p ++ [x.2])) := by
            have := HO2.out
            unfold Own at this
            rw [List.length_append, ic, List.map_append]
            exact this
          have hE2 := Ext.ex W x2
          have hc2 := Chg.of_grown HG2.out
          have hb2 := HB2.out
          clear HO2 HG2 HB2
          generalize ext W x2 = w2 at ho2 hE2 hc2 ⊢
          have d0' : w2.cell? ⟨w.heap.size, 0, none⟩ = some (.int .i64 p.1) := (World.cell?_of_block (hc2.same _ (by simp [size_ext]; omega) NB1.out)).trans (by simp [go_sem, ↓IntWalk.iteOmega, d0])
          have d1' : w2.cell? ⟨w.heap.size, 1, none⟩ = some (.int .i64 p.2) := (World.cell?_of_block (hc2.same _ (by simp [size_ext]; omega) NB1.out)).trans (by simp [go_sem, ↓IntWalk.iteOmega, d1])
          have hlt2 : w.heap.size < w2.heap.size := Nat.lt_of_lt_of_le (by simp [size_ext]; omega) hc2.size
          obtain ⟨hltc, -, -, -, -, e4', -, -, -, -, -, -⟩ := (HK.out.ext hE2).f
          rw [HPR.out] at e4'
          have NB2 : Hid (w.heap.size ∉ v2.ownBlock.toList) := Lib.hid fun hk => by
            rcases hb2 _ (by simpa using hk) with h | h
            · exact NB1.out (by simp [h])
            · simp [size_ext] at h; omega
          have H2 := Lib.hid (And.intro hE2 (And.intro ho2 (And.intro hc2 hb2)))
          clear hE2 ho2 hc2 hb2
          go_wp2_with fail
          refine wp_region_held_drew (S := (fun w' => w'.cell? ⟨w.heap.size, 0, none⟩ = some (.int .i64 p.1) ∧ w'.cell? ⟨w.heap.size, 1, none⟩ = some (.int .i64 p.2) ∧ w'.cell? ⟨b, 4, none⟩ = some (.pointer pr_))) (by kernel_rfl) (by simp [go_sem, ↓IntWalk.iteOmega, *]) (fun hHeld => ?_)
          refine wpAnyH_take (i := 0) (oi := ?oi501) (v := ?v501) ?hi501 (by kernel_rfl) (by kernel_rfl) (by kernel_rfl) ?hQ501 ?hy501 (by assumption) ?_
          case hi501 => (simp only [List.getElem?_toArray, List.getElem?_cons_succ, List.getElem?_cons_zero]; try rfl)
          case hQ501 => exact fun _ _ _ h => h
          case hy501 => (refine Or.inl ⟨by rfl, ?_⟩; intro wq hSw; (try dsimp only at hSw); go_simp; (try with_reducible rfl))
          (try simp only [Act.put, List.setIfInBounds_toArray, List.set_cons_zero, List.set_cons_succ])
          refine wpAnyH_take (i := 1) (oi := ?oi502) (v := ?v502) ?hi502 (by kernel_rfl) (by kernel_rfl) (by kernel_rfl) ?hQ502 ?hy502 (by assumption) ?_
          case hi502 => (simp only [List.getElem?_toArray, List.getElem?_cons_succ, List.getElem?_cons_zero]; try rfl)
          case hQ502 => exact fun _ _ _ h => h
          case hy502 => (refine Or.inl ⟨by rfl, ?_⟩; intro wq hSw; (try dsimp only at hSw); go_simp; (try with_reducible rfl))
          (try simp only [Act.put, List.setIfInBounds_toArray, List.set_cons_zero, List.set_cons_succ])
          refine wpAnyH_take (i := 2) (oi := ?oi503) (v := ?v503) ?hi503 (by kernel_rfl) (by kernel_rfl) (by kernel_rfl) ?hQ503 ?hy503 (by assumption) ?_
          case hi503 => (simp only [List.getElem?_toArray, List.getElem?_cons_succ, List.getElem?_cons_zero]; try rfl)
          case hQ503 => exact fun _ _ _ h => h
          case hy503 => (refine Or.inl ⟨by rfl, ?_⟩; intro wq hSw; (try dsimp only at hSw); go_simp; (try with_reducible rfl))
          (try simp only [Act.put, List.setIfInBounds_toArray, List.set_cons_zero, List.set_cons_succ])
          refine wpAnyH_take (i := 3) (oi := ?oi504) (v := ?v504) ?hi504 (by kernel_rfl) (by kernel_rfl) (by kernel_rfl) ?hQ504 ?hy504 (by assumption) ?_
          case hi504 => (simp only [List.getElem?_toArray, List.getElem?_cons_succ, List.getElem?_cons_zero]; try rfl)
          case hQ504 => exact fun _ _ _ h => h
          case hy504 => (refine Or.inl ⟨by rfl, ?_⟩; intro wq hSw; (try dsimp only at hSw); go_simp; (try with_reducible rfl))
          (try simp only [Act.put, List.setIfInBounds_toArray, List.set_cons_zero, List.set_cons_succ])
          refine wpAnyH_take (i := 4) (oi := ?oi505) (v := ?v505) ?hi505 (by kernel_rfl) (by kernel_rfl) (by kernel_rfl) ?hQ505 ?hy505 (by assumption) ?_
          case hi505 => (simp only [List.getElem?_toArray, List.getElem?_cons_succ, List.getElem?_cons_zero]; try rfl)
          case hQ505 => exact fun _ _ _ h => h
          case hy505 => (refine Or.inl ⟨by rfl, ?_⟩; intro wq hSw; (try dsimp only at hSw); go_simp; (try with_reducible rfl))
          (try simp only [Act.put, List.setIfInBounds_toArray, List.set_cons_zero, List.set_cons_succ])
          refine wpAnyH_take (i := 5) (oi := ?oi506) (v := ?v506) ?hi506 (by kernel_rfl) (by kernel_rfl) (by kernel_rfl) ?hQ506 ?hy506 (by assumption) ?_
          case hi506 => (simp only [List.getElem?_toArray, List.getElem?_cons_succ, List.getElem?_cons_zero]; try rfl)
          case hQ506 => exact fun _ _ _ h => h
          case hy506 => (refine Or.inl ⟨by rfl, ?_⟩; intro wq hSw; (try dsimp only at hSw); go_simp; (try with_reducible rfl))
          (try simp only [Act.put, List.setIfInBounds_toArray, List.set_cons_zero, List.set_cons_succ])
          refine wpAnyH_ready (rs := [6]) (by kernel_rfl) (by simp) ?_
          refine AllReadyH.cons (o := ?oi507) ?hi507 ?ti507 AllReadyH.nil
          case hi507 => (simp only [List.getElem?_toArray, List.getElem?_cons_succ, List.getElem?_cons_zero]; try rfl)
          case ti507 =>
            intro KQ hKQ
            go_simp
            go_at_call 44
            refine Calls.mono (HR.out _ v2 (xs ++ l.ov p ++ [x.2]) (H2.out.1.tr (by repeat (first | exact Ext.refl' _ | assumption | apply Ext.ex' | apply Ext.al | apply Ext.drN | apply Ext.dr))) (ownsRow_ext H2.out.2.1 (by repeat (first | exact Ext.refl' _ | assumption | apply Ext.ex' | apply Ext.al | apply Ext.drN | apply Ext.dr))) (by have := HOL.out; simp only [List.length_append, List.length_cons, List.length_nil]; omega)) ?_
            intro en3 w3 H3
            have H3 := Lib.hid H3
            obtain ⟨v3, rfl, hE3, -, hc3, -⟩ := id H3.out
            have f0 : w3.cell? ⟨w.heap.size, 0, none⟩ = some (.int .i64 p.1) := (World.cell?_of_block (hc3.same _ (by simp [size_ext]; omega) NB2.out)).trans (by simp [go_sem, ↓IntWalk.iteOmega, *])
            have f1 : w3.cell? ⟨w.heap.size, 1, none⟩ = some (.int .i64 p.2) := (World.cell?_of_block (hc3.same _ (by simp [size_ext]; omega) NB2.out)).trans (by simp [go_sem, ↓IntWalk.iteOmega, *])
            obtain ⟨-, -, -, -, -, g4, -, -, -, -, -, -⟩ := (HK.out.ext hE3).f
            rw [HPR.out] at g4
            clear hE3 hc3
            refine hKQ.out _ _ (by simp [go_sem, ↓IntWalk.iteOmega, *]) (fun hHeld2 => ?_)
            clear hHeld hKQ KQ; have hHeld := hHeld2; clear hHeld2
            (try simp only [Act.put, List.setIfInBounds_toArray, List.set_cons_zero, List.set_cons_succ])
            refine wpAnyH_take (i := 7) (oi := ?oi508) (v := ?v508) ?hi508 (by kernel_rfl) (by kernel_rfl) (by kernel_rfl) ?hQ508 ?hy508 (by assumption) ?_
            case hi508 => (simp only [List.getElem?_toArray, List.getElem?_cons_succ, List.getElem?_cons_zero]; try rfl)
            case hQ508 => exact fun _ _ _ h => h
            case hy508 => (refine Or.inl ⟨by rfl, ?_⟩; intro wq hSw; (try dsimp only at hSw); go_simp; (try with_reducible rfl))
            (try simp only [Act.put, List.setIfInBounds_toArray, List.set_cons_zero, List.set_cons_succ])
            refine wpAnyH_done (by kernel_rfl) ?_ _
            go_wp2
            go_ret
            obtain ⟨hE1, ho1, hc1, hb1⟩ := H1.out
            obtain ⟨hE2, ho2, hc2, hb2⟩ := H2.out
            refine OvE.two ?_ HLT.out v1 hc1 hb1 HY.out (Ext.refl' _) (OvE.two ?_ (fun g hg => (ho1.lt g hg).2) v2 hc2 hb2 rfl ?_ (OvE.ext H3.out ?_))
            all_goals exact by repeat (first | exact Ext.refl' _ | assumption | apply Ext.ex' | apply Ext.al | apply Ext.drN | apply Ext.dr)
        · have HY : Hid (AT.ov p (.node b x l r h e) = l.ov p ++ r.ov p) := Lib.hid (by rw [AT.ov, if_neg (by omega), if_neg hf, if_neg hq]; rfl)
          go_wp2_with fail
          refine wp_region_ext (by kernel_rfl) (by kernel_rfl) ?_
          repeat (first | go_big_quiet_step (fail) | quiet_step (fail))
          refine wpQuiet_nil ?_
          intro _ hw'
          obtain ⟨xq, hw''⟩ := hw'
          subst hw''
          go_wp2_with fail
          refine wp_region_ext (by kernel_rfl) (by kernel_rfl) ?_
          repeat (first | go_big_quiet_step (fail) | quiet_step (fail))
          refine wpQuiet_nil ?_
          intro _ hw'
          obtain ⟨xq, hw''⟩ := hw'
          subst hw''
          go_wp2_with fail
          refine wp_region_held_drew (S := (fun w' => w'.cell? ⟨w.heap.size, 0, none⟩ = some (.int .i64 p.1) ∧ w'.cell? ⟨w.heap.size, 1, none⟩ = some (.int .i64 p.2) ∧ w'.cell? ⟨b, 4, none⟩ = some (.pointer pr_))) (by kernel_rfl) (by simp [go_sem, ↓IntWalk.iteOmega, *]) (fun hHeld => ?_)
          refine wpAnyH_take (i := 0) (oi := ?oi301) (v := ?v301) ?hi301 (by kernel_rfl) (by kernel_rfl) (by kernel_rfl) ?hQ301 ?hy301 (by assumption) ?_
          case hi301 => (simp only [List.getElem?_toArray, List.getElem?_cons_succ, List.getElem?_cons_zero]; try rfl)
          case hQ301 => exact fun _ _ _ h => h
          case hy301 => (refine Or.inl ⟨by rfl, ?_⟩; intro wq hSw; (try dsimp only at hSw); go_simp; (try with_reducible rfl))
          (try simp only [Act.put, List.setIfInBounds_toArray, List.set_cons_zero, List.set_cons_succ])
          refine wpAnyH_take (i := 1) (oi := ?oi302) (v := ?v302) ?hi302 (by kernel_rfl) (by kernel_rfl) (by kernel_rfl) ?hQ302 ?hy302 (by assumption) ?_
          case hi302 => (simp only [List.getElem?_toArray, List.getElem?_cons_succ, List.getElem?_cons_zero]; try rfl)
          case hQ302 => exact fun _ _ _ h => h
          case hy302 => (refine Or.inl ⟨by rfl, ?_⟩; intro wq hSw; (try dsimp only at hSw); go_simp; (try with_reducible rfl))
          (try simp only [Act.put, List.setIfInBounds_toArray, List.set_cons_zero, List.set_cons_succ])
          refine wpAnyH_take (i := 2) (oi := ?oi303) (v := ?v303) ?hi303 (by kernel_rfl) (by kernel_rfl) (by kernel_rfl) ?hQ303 ?hy303 (by assumption) ?_
          case hi303 => (simp only [List.getElem?_toArray, List.getElem?_cons_succ, List.getElem?_cons_zero]; try rfl)
          case hQ303 => exact fun _ _ _ h => h
          case hy303 => (refine Or.inl ⟨by rfl, ?_⟩; intro wq hSw; (try dsimp only at hSw); go_simp; (try with_reducible rfl))
          (try simp only [Act.put, List.setIfInBounds_toArray, List.set_cons_zero, List.set_cons_succ])
          refine wpAnyH_take (i := 3) (oi := ?oi304) (v := ?v304) ?hi304 (by kernel_rfl) (by kernel_rfl) (by kernel_rfl) ?hQ304 ?hy304 (by assumption) ?_
          case hi304 => (simp only [List.getElem?_toArray, List.getElem?_cons_succ, List.getElem?_cons_zero]; try rfl)
          case hQ304 => exact fun _ _ _ h => h
          case hy304 => (refine Or.inl ⟨by rfl, ?_⟩; intro wq hSw; (try dsimp only at hSw); go_simp; (try with_reducible rfl))
          (try simp only [Act.put, List.setIfInBounds_toArray, List.set_cons_zero, List.set_cons_succ])
          refine wpAnyH_take (i := 4) (oi := ?oi305) (v := ?v305) ?hi305 (by kernel_rfl) (by kernel_rfl) (by kernel_rfl) ?hQ305 ?hy305 (by assumption) ?_
          case hi305 => (simp only [List.getElem?_toArray, List.getElem?_cons_succ, List.getElem?_cons_zero]; try rfl)
          case hQ305 => exact fun _ _ _ h => h
          case hy305 => (refine Or.inl ⟨by rfl, ?_⟩; intro wq hSw; (try dsimp only at hSw); go_simp; (try with_reducible rfl))
          (try simp only [Act.put, List.setIfInBounds_toArray, List.set_cons_zero, List.set_cons_succ])
          refine wpAnyH_take (i := 5) (oi := ?oi306) (v := ?v306) ?hi306 (by kernel_rfl) (by kernel_rfl) (by kernel_rfl) ?hQ306 ?hy306 (by assumption) ?_
          case hi306 => (simp only [List.getElem?_toArray, List.getElem?_cons_succ, List.getElem?_cons_zero]; try rfl)
          case hQ306 => exact fun _ _ _ h => h
          case hy306 => (refine Or.inl ⟨by rfl, ?_⟩; intro wq hSw; (try dsimp only at hSw); go_simp; (try with_reducible rfl))
          (try simp only [Act.put, List.setIfInBounds_toArray, List.set_cons_zero, List.set_cons_succ])
          refine wpAnyH_ready (rs := [6]) (by kernel_rfl) (by simp) ?_
          refine AllReadyH.cons (o := ?oi307) ?hi307 ?ti307 AllReadyH.nil
          case hi307 => (simp only [List.getElem?_toArray, List.getElem?_cons_succ, List.getElem?_cons_zero]; try rfl)
          case ti307 =>
            intro KQ hKQ
            go_simp
            go_at_call 44
            refine Calls.mono (HR.out _ v1 (xs ++ l.ov p) (H1.out.1.tr (by repeat (first | exact Ext.refl' _ | assumption | apply Ext.ex' | apply Ext.al | apply Ext.drN | apply Ext.dr))) (ownsRow_ext H1.out.2.1 (by repeat (first | exact Ext.refl' _ | assumption | apply Ext.ex' | apply Ext.al | apply Ext.drN | apply Ext.dr))) (by have := HOL.out; simp only [List.length_append, List.length_cons, List.length_nil]; omega)) ?_
            intro en3 w3 H3
            have H3 := Lib.hid H3
            obtain ⟨v3, rfl, hE3, -, hc3, -⟩ := id H3.out
            have f0 : w3.cell? ⟨w.heap.size, 0, none⟩ = some (.int .i64 p.1) := (World.cell?_of_block (hc3.same _ (by simp [size_ext]; omega) NB1.out)).trans (by simp [go_sem, ↓IntWalk.iteOmega, *])
            have f1 : w3.cell? ⟨w.heap.size, 1, none⟩ = some (.int .i64 p.2) := (World.cell?_of_block (hc3.same _ (by simp [size_ext]; omega) NB1.out)).trans (by simp [go_sem, ↓IntWalk.iteOmega, *])
            obtain ⟨-, -, -, -, -, g4, -, -, -, -, -, -⟩ := (HK.out.ext hE3).f
            rw [HPR.out] at g4
            clear hE3 hc3
            refine hKQ.out _ _ (by simp [go_sem, ↓IntWalk.iteOmega, *]) (fun hHeld2 => ?_)
            clear hHeld hKQ KQ; have hHeld := hHeld2; clear hHeld2
            (try simp only [Act.put, List.setIfInBounds_toArray, List.set_cons_zero, List.set_cons_succ])
            refine wpAnyH_take (i := 7) (oi := ?oi308) (v := ?v308) ?hi308 (by kernel_rfl) (by kernel_rfl) (by kernel_rfl) ?hQ308 ?hy308 (by assumption) ?_
            case hi308 => (simp only [List.getElem?_toArray, List.getElem?_cons_succ, List.getElem?_cons_zero]; try rfl)
            case hQ308 => exact fun _ _ _ h => h
            case hy308 => (refine Or.inl ⟨by rfl, ?_⟩; intro wq hSw; (try dsimp only at hSw); go_simp; (try with_reducible rfl))
            (try simp only [Act.put, List.setIfInBounds_toArray, List.set_cons_zero, List.set_cons_succ])
            refine wpAnyH_done (by kernel_rfl) ?_ _
            go_wp2
            go_ret
            obtain ⟨hE1, ho1, hc1, hb1⟩ := H1.out
            refine OvE.two ?_ HLT.out v1 hc1 hb1 HY.out ?_ (OvE.ext H3.out ?_)
            all_goals exact by repeat (first | exact Ext.refl' _ | assumption | apply Ext.ex' | apply Ext.al | apply Ext.drN | apply Ext.dr)


theorem overlap_any (W : World) (p : Int × Int) : ∀ t : AT, Gd W t → OvC W p t
  | .nil, _ => ov_nil W p
  | .node b x l r h e, g => ov_node W p b x l r h e g.1 (Lib.hid (overlap_any W p l g.2.1)) (Lib.hid (overlap_any W p r g.2.2))
def ovIds (p : Int × Int) (t : AT) : List Int := Lib.compact ((t.ov p).mergeSort fun x y => decide (x ≤ y))
set_option maxRecDepth 100000 in
set_option maxHeartbeats 8000000 in
theorem Overlap_any (w : World) (p : Int × Int) (base tb : Nat) (t : AT) (h : ITr w base tb t) (hp : pvB p = true) (sz : t.flat.length ≤ 1048576) :
    Calls Try.prog 18 #[ptI tb, .agg #[.int .i64 p.1, .int .i64 p.2]] w (RdP 1 (ovIds p t).length (ic (ovIds p t)) w) := by
  have HV := Lib.hid fun W => pvalid_any p W
  rw [hp] at HV
  have HOV := Lib.hid (overlap_any w p t h.gd)
  obtain ⟨h1, h2, h3, -, -⟩ := h.c
  obtain ⟨tp, htp⟩ := p_form t
  have HSZ := Lib.hid sz
  have HR : Hid ((t.ov p).length ≤ 1048576) := Lib.hid (Nat.le_trans (AT.ov_len p t) sz)
  unfold OvC at HOV
  rw [htp] at h2 HOV
  clear h hp sz htp h3
  unfold ovIds ptI
  go_enter Try.func18, Try.ntmps18
  go_wp2_with fail
  refine (HV.out _).mono ?_
  rintro en1 w1 ⟨rfl, hb1⟩
  obtain ⟨x1, rfl⟩ := hb1.get
  clear hb1 HV
  go_wp2_with fail
  refine wp_region_held_drew (S := (fun w' => w'.cell? ⟨tb, 0, none⟩ = some (.pointer tp) ∧ w'.cell? ⟨w.heap.size, 0, none⟩ = some (.int .i64 p.1) ∧ w'.cell? ⟨w.heap.size, 1, none⟩ = some (.int .i64 p.2))) (by kernel_rfl) (by simp [go_sem, ↓IntWalk.iteOmega, *]) (fun hHeld => ?_)
  refine wpAnyH_take (i := 0) (oi := ?oi101) (v := ?v101) ?hi101 (by kernel_rfl) (by kernel_rfl) (by kernel_rfl) ?hQ101 ?hy101 (by assumption) ?_
  case hi101 => (simp only [List.getElem?_toArray, List.getElem?_cons_succ, List.getElem?_cons_zero]; try rfl)
  case hQ101 => exact fun _ _ _ h => h
  case hy101 => (refine Or.inl ⟨by rfl, ?_⟩; intro wq hSw; (try dsimp only at hSw); go_simp; (try with_reducible rfl))
  (try simp only [Act.put, List.setIfInBounds_toArray, List.set_cons_zero, List.set_cons_succ])
  refine wpAnyH_take (i := 1) (oi := ?oi102) (v := ?v102) ?hi102 (by kernel_rfl) (by kernel_rfl) (by kernel_rfl) ?hQ102 ?hy102 (by assumption) ?_
  case hi102 => (simp only [List.getElem?_toArray, List.getElem?_cons_succ, List.getElem?_cons_zero]; try rfl)
  case hQ102 => exact fun _ _ _ h => h
  case hy102 => (refine Or.inl ⟨by rfl, ?_⟩; intro wq hSw; (try dsimp only at hSw); go_simp; (try with_reducible rfl))
  (try simp only [Act.put, List.setIfInBounds_toArray, List.set_cons_zero, List.set_cons_succ])
  refine wpAnyH_take (i := 2) (oi := ?oi103) (v := ?v103) ?hi103 (by kernel_rfl) (by kernel_rfl) (by kernel_rfl) ?hQ103 ?hy103 (by assumption) ?_
  case hi103 => (simp only [List.getElem?_toArray, List.getElem?_cons_succ, List.getElem?_cons_zero]; try rfl)
  case hQ103 => exact fun _ _ _ h => h
  case hy103 => (refine Or.inl ⟨by rfl, ?_⟩; intro wq hSw; (try dsimp only at hSw); go_simp; (try with_reducible rfl))
  (try simp only [Act.put, List.setIfInBounds_toArray, List.set_cons_zero, List.set_cons_succ])
  refine wpAnyH_take (i := 3) (oi := ?oi104) (v := ?v104) ?hi104 (by kernel_rfl) (by kernel_rfl) (by kernel_rfl) ?hQ104 ?hy104 (by assumption) ?_
  case hi104 => (simp only [List.getElem?_toArray, List.getElem?_cons_succ, List.getElem?_cons_zero]; try rfl)
  case hQ104 => exact fun _ _ _ h => h
  case hy104 => (refine Or.inl ⟨by rfl, ?_⟩; intro wq hSw; (try dsimp only at hSw); go_simp; (try with_reducible rfl))
  (try simp only [Act.put, List.setIfInBounds_toArray, List.set_cons_zero, List.set_cons_succ])
  refine wpAnyH_take (i := 4) (oi := ?oi105) (v := ?v105) ?hi105 (by kernel_rfl) (by kernel_rfl) (by kernel_rfl) ?hQ105 ?hy105 (by assumption) ?_
  case hi105 => (simp only [List.getElem?_toArray, List.getElem?_cons_succ, List.getElem?_cons_zero]; try rfl)
  case hQ105 => exact fun _ _ _ h => h
  case hy105 => (refine Or.inl ⟨by rfl, ?_⟩; intro wq hSw; (try dsimp only at hSw); go_simp; (try with_reducible rfl))
  (try simp only [Act.put, List.setIfInBounds_toArray, List.set_cons_zero, List.set_cons_succ])
  refine wpAnyH_ready (rs := [5]) (by kernel_rfl) (by simp) ?_
  refine AllReadyH.cons (o := ?oi106) ?hi106 ?ti106 AllReadyH.nil
  case hi106 => (simp only [List.getElem?_toArray, List.getElem?_cons_succ, List.getElem?_cons_zero]; try rfl)
  case ti106 =>
    intro KQ hKQ
    go_simp
    go_at_call 44
    refine Calls.mono (HOV.out _ (.slice none 0 0) [] (by repeat (first | exact Ext.refl' _ | assumption | apply Ext.ex' | apply Ext.al | apply Ext.drN | apply Ext.dr)) (World.ownsRow_nil _ _ _ _) (by simpa using HSZ.out)) ?_
    rintro en1 w1 ⟨v1, rfl, hE1, ho1, hc1, -⟩
    have d0 : w1.cell? ⟨w.heap.size, 0, none⟩ = some (.int .i64 p.1) := (World.cell?_of_block (hc1.same _ (by simp [size_ext]; omega) (by simp [Value.ownBlock]))).trans (by simp [go_sem, ↓IntWalk.iteOmega])
    have d1 : w1.cell? ⟨w.heap.size, 1, none⟩ = some (.int .i64 p.2) := (World.cell?_of_block (hc1.same _ (by simp [size_ext]; omega) (by simp [Value.ownBlock]))).trans (by simp [go_sem, ↓IntWalk.iteOmega])
    have hlt1 : w.heap.size < w1.heap.size := Nat.lt_of_lt_of_le (by simp [size_ext]; omega) hc1.size
    have d2 : w1.cell? ⟨tb, 0, none⟩ = some (.pointer tp) := (World.cell?_of_block (hE1.block _ h1)).trans h2
    clear hc1
    obtain ⟨x1, rfl⟩ := hE1.get
    have HO1 := Lib.hid (Own.of_eq ho1 rfl)
    clear hE1 ho1
    refine hKQ.out _ _ (by simp [go_sem, ↓IntWalk.iteOmega, *]) (fun hHeld2 => ?_)
    clear hHeld hKQ KQ; have hHeld := hHeld2; clear hHeld2
    (try simp only [Act.put, List.setIfInBounds_toArray, List.set_cons_zero, List.set_cons_succ])
    refine wpAnyH_take (i := 6) (oi := ?oi107) (v := ?v107) ?hi107 (by kernel_rfl) (by kernel_rfl) (by kernel_rfl) ?hQ107 ?hy107 (by assumption) ?_
    case hi107 => (simp only [List.getElem?_toArray, List.getElem?_cons_succ, List.getElem?_cons_zero]; try rfl)
    case hQ107 => exact fun _ _ _ h => h
    case hy107 => (refine Or.inl ⟨by rfl, ?_⟩; intro wq hSw; (try dsimp only at hSw); go_simp; (try with_reducible rfl))
    (try simp only [Act.put, List.setIfInBounds_toArray, List.set_cons_zero, List.set_cons_succ])
    refine wpAnyH_done (by kernel_rfl) ?_ _
    obtain ⟨ys, hys⟩ : ∃ ys, t.ov p = ys := ⟨_, rfl⟩
    have HYS := Lib.hid hys
    rw [List.nil_append] at HO1
    rw [hys] at HO1 HR
    clear hys
    obtain ⟨A1, c1, rfl, hl1, hm1⟩ := Own.form HO1.out
    have hlen : (ys.mergeSort fun x y => decide (x ≤ y)).length = ys.length := List.length_mergeSort _
    have HS := Lib.hid (sortI w x1 A1 c1 ys HO1.out (by have := HR.out; omega))
    have HC := Lib.hid (fun x' ho => compactI w x' A1 c1 (ys.mergeSort fun x y => decide (x ≤ y)) ho (by have := HR.out; rw [hlen]; omega) (by rw [hlen]; exact hl1))
    rw [hlen] at HC
    obtain ⟨ms, hms⟩ : ∃ ms, ys.mergeSort (fun x y => decide (x ≤ y)) = ms := ⟨_, rfl⟩
    have HMS := Lib.hid hms
    rw [hms] at HS HC
    clear hlen hms
    go_wp2_with (first | (go_at_call 45; refine (HS.out).mono ?_; rintro e w1 ⟨rfl, x5, rfl, ho5⟩) | (go_at_call 46; refine (HC.out x5 ho5).mono ?_; rintro e w1 ⟨rfl, x6, rfl, hR6⟩))
    go_ret
    rw [HYS.out, HMS.out]
    exact ⟨A1, c1, rfl, Ext.ex _ _, hR6⟩

end Go.Proofs.Ytahmkinppighkaa
