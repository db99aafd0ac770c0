/- The walk of Put. -/
import Derived.Test.YtdmbgimehepfaaaBtY
set_option linter.unusedSimpArgs false
set_option linter.unusedVariables false
namespace Go.Proofs.Ytdmbgimehepfaaa
open Go.RowKit


set_option maxRecDepth 100000 in
set_option maxHeartbeats 16000000 in
theorem Put_any (base m tb : Nat) (l : List MP) (F : List Nat) (A : Option Addr) (n c : Nat) (K : List Va) (id : Int) (w : World) (hm : 2 ≤ m) (hm2 : m ≤ 64) (hbw : base ≤ w.heap.size) (hT : TreeIs base w tb m l F) (hR : Rd w 3 A n (vcl K)) (hn : n = K.length) (hK : K.length ≤ 1048576) (hnil : A = none → n = 0 ∧ c = 0) (hll : l.length < 1048576) :
    Calls Try.prog 10 #[pt tb, .slice A n c, .int .i64 id] w fun e w' => ∃ b l' F', e = .returned (.bool b) ∧ TreeIs base w' tb m l' F' ∧ Mut base (tb :: F) w w' ∧ (∀ x ∈ F', x ∈ F ∨ w.heap.size ≤ x) ∧ ((b = false ∧ (∃ q ∈ l, q.kp = (K, id)) ∧ l' = l) ∨ (b = true ∧ (¬ ∃ q ∈ l, q.kp = (K, id)) ∧ ∃ p : MP, p.kp = (K, id) ∧ Ins p l l')) := by
  subst hn
  have HCV := Lib.hid (cloneV_any A K.length c (vcl K) w hR (oneCell_vcl K) (by omega) hnil)
  have HT := Lib.hid hT
  have HB := Lib.hid hbw
  have htl := (hT.old tb (by simp)).2.1
  clear hT hR hnil hbw
  go_enter Try.func10, Try.ntmps10
  go_wp2_with fail
  refine Calls.mono HCV.out ?_
  rintro e w1 ⟨v1, rfl, ho1, hb1⟩
  obtain ⟨A1, c1, rfl, _, _, _⟩ := own_form2 ho1
  have HKP : Hid (KOk base w1 (⟨A1, K.length, c1, K, id⟩ : MP)) := Lib.hid (KOk.of_own ho1 rfl hK)
  have hE1 : Ext w w1 := hb1
  clear ho1 hb1 HCV
  rcases HT.out.root with ⟨hl0, hF0, h0⟩ | ⟨d, t, h0, hG, hND, hW, hfl, hF⟩
  · have HHA : Hid (∀ W, Ext w W → Calls Try.prog 29 #[pt tb, pv (⟨A1, K.length, c1, K, id⟩ : MP)] W fun e w' => e = .returned (.bool false) ∧ Ext W w') := Lib.hid fun W hE => has_none tb _ _ (⟨A1, K.length, c1, K, id⟩ : MP) W (hE.at h0)
    go_wp2_with fail
    refine Calls.mono (HHA.out _ (by repeat (first | exact Ext.refl' _ | assumption | apply Ext.ex' | apply Ext.al | apply Ext.drN | apply Ext.dr))) ?_
    rintro e w2 ⟨rfl, hb2⟩
    have hE2 : Ext w1 w2 := (Ext.al1 _ _).tr hb2
    have hbk := al_at hb2
    obtain ⟨_, z0, z1, _, _⟩ := two_cells hbk
    have htb2 := (hE1.tr hE2).at h0
    obtain ⟨rb, c0, c1', c2, f0, f1, f2⟩ := three_cells htb2
    obtain ⟨bx, hbx⟩ : ∃ bx, w1.heap.size = bx := ⟨_, rfl⟩
    rw [hbx] at hbk z0 z1 ⊢
    have hbl := (Array.getElem?_eq_some_iff.1 hbk).1
    have hbt : tb < bx := by have := hE1.size; omega
    have HHB := Lib.hid hbk
    have HTB2 := Lib.hid htb2
    clear hbk htb2 hb2 HHA h0
    have hE12 := Lib.hid (hE1.tr hE2)
    go_wp2
    obtain ⟨nb, hnb⟩ : ∃ nb, w2.heap.size = nb := ⟨_, rfl⟩
    rw [hnb]
    have e0 := set_heap HTB2.out 0 (pt nb)
    have ebx : (w2.setCell ⟨tb, 0, none⟩ (pt nb)).heap[bx]? = _ := (set_other (by omega)).trans HHB.out
    have hM2 := mut_tb (tb := tb) (S := tb :: F) (o := 0) (u := pt nb) (Mut.start' HT.out hE12.out) (by simp)
    have hkp2 := (Mut.key (mut_tb (tb := tb) (S := [tb]) (o := 0) (u := pt nb) (Mut.start (w := w2) (fun b hb _ => by simp at hb; subst hb; exact HT.out.hb) (fun b hb c ty f e => by
      simp at hb; subst hb
      rw [HTB2.out] at e; simp at e; exact .inr (.inr (.inr e.2.1.symm)))) (by simp)) (HKP.out.ext hE2))
    have hs2 := set_size w2 tb 0 (pt nb)
    have hW0 : w2.setCell ⟨tb, 0, none⟩ (Value.pointer (some ⟨nb, 0, none⟩)) = w2.setCell ⟨tb, 0, none⟩ (pt nb) := rfl
    rw [hW0]
    generalize w2.setCell ⟨tb, 0, none⟩ (pt nb) = B0 at e0 ebx hM2 hkp2 hs2 ⊢
    have hE := Ext.al1 B0 (.cells #[.slice none 0 0, .slice none 0 0] TN)
    have e1 := heap_alloc_new B0 (.cells #[.slice none 0 0, .slice none 0 0] TN)
    rw [hs2, hnb] at e1
    have e0 := hE.at e0
    have ebx := hE.at ebx
    have hM := hM2.step (T := []) hE.os hE.tape hE.output hE.size (fun b hb _ => hE.block b hb) (by simp)
    have hkp := hkp2.ext hE
    have hszW := hE.size
    generalize B0.alloc (.cells #[.slice none 0 0, .slice none 0 0] TN) = W at e0 e1 ebx hM hkp hszW ⊢
    have hnbw : w.heap.size ≤ nb := by have := hE12.out.size; omega
    have hno : ¬ ∃ q ∈ l, q.kp = (K, id) := by rw [hl0]; simp
    have HNO := Lib.hid hno
    obtain ⟨t, htr, HTE⟩ : ∃ t : MT, t.r = nb ∧ Hid (t = .nd nb (.slice none 0 0) (.slice none 0 0) [] []) := ⟨.nd nb (.slice none 0 0) (.slice none 0 0) [] [], rfl, Lib.hid rfl⟩
    have HPS : Hid (PutS base tb m w W l F (⟨A1, K.length, c1, K, id⟩ : MP) 0 0 t) := Lib.hid (by
      have ht := HTE.out
      subst ht
      have hfl : flat 0 (.nd nb (.slice none 0 0) (.slice none 0 0) [] []) = [] := rfl
      have hft : foot 0 (.nd nb (.slice none 0 0) (.slice none 0 0) [] []) = [nb] := rfl
      refine ⟨by have := hM.size; have := HB.out; omega, by rw [hl0]; exact e0, ⟨by show base ≤ nb; have := HB.out; omega, e1, World.ownsRow_nil _ _ _ _, World.ownsRow_nil _ _ _ _⟩, by rw [hft]; simp, by rw [hft]; simp; omega, ⟨rfl, Nat.le_refl _, Nat.zero_le _⟩, .inr rfl, by rw [hfl]; exact List.Pairwise.nil, by rw [hfl]; simp, hkp, by rw [hfl]; simp, by rw [hfl, hl0], hM, by rw [hft]; intro x hx; simp at hx; subst hx; exact .inr hnbw, hll, HT.out.hb⟩)
    obtain ⟨d, HD⟩ : ∃ d, Hid (d = 0) := ⟨0, Lib.hid rfl⟩
    obtain ⟨lo, HLO⟩ : ∃ lo, Hid (lo = 0) := ⟨0, Lib.hid rfl⟩
    have HPS : Hid (PutS base tb m w W l F (⟨A1, K.length, c1, K, id⟩ : MP) d lo t) := Lib.hid (by rw [HD.out, HLO.out]; exact HPS.out)
    have HPU := Lib.hid (PutS.put hm hm2 HPS.out)
    have HFL := Lib.hid HPS.out.fl
    rw [← htr] at e0 ⊢
    obtain ⟨hbl2, z0, z1, _, _⟩ := two_cells ebx
    clear c0 c1' c2 f0 f1 f2 rb
    obtain ⟨rb, c0, c1', c2, f0, f1, f2⟩ := three_cells e0
    clear e0 e1 ebx hM hkp hszW hno htr hM2 hkp2 hs2 hnb hE hnbw hW0 hl0 hF0
    refine wp_region_T 6 (S := (fun w' => w'.cell? ⟨tb, 0, none⟩ = some (pt t.r) ∧ w'.cell? ⟨bx, 0, none⟩ = some (.slice A1 K.length c1) ∧ w'.cell? ⟨bx, 1, none⟩ = some (.int .i64 id))) (by kernel_rfl) (by simp [go_sem, ↓IntWalk.iteOmega, *]) (fun hHeld => ?_)
    refine wpAnyT_take (i := 0) (oi := ?oi2501) (v := ?v2501) ?hi2501 (by kernel_rfl) (by kernel_rfl) (by kernel_rfl) (by kernel_rfl) (by kernel_rfl) ?hQ2501 ?hy2501 (by assumption) ?_
    case hi2501 => (simp only [List.getElem?_toArray, List.getElem?_cons_succ, List.getElem?_cons_zero]; try rfl)
    case hQ2501 => exact fun _ _ _ h => h
    case hy2501 => (refine Or.inl ⟨by rfl, ?_⟩; intro wq hSw; (try dsimp only at hSw); go_simp; (try with_reducible rfl))
    (try simp only [Act.put, List.setIfInBounds_toArray, List.set_cons_zero, List.set_cons_succ])
    refine wpAnyT_take (i := 1) (oi := ?oi2502) (v := ?v2502) ?hi2502 (by kernel_rfl) (by kernel_rfl) (by kernel_rfl) (by kernel_rfl) (by kernel_rfl) ?hQ2502 ?hy2502 (by assumption) ?_
    case hi2502 => (simp only [List.getElem?_toArray, List.getElem?_cons_succ, List.getElem?_cons_zero]; try rfl)
    case hQ2502 => exact fun _ _ _ h => h
    case hy2502 => (refine Or.inl ⟨by rfl, ?_⟩; intro wq hSw; (try dsimp only at hSw); go_simp; (try with_reducible rfl))
    (try simp only [Act.put, List.setIfInBounds_toArray, List.set_cons_zero, List.set_cons_succ])
    refine wpAnyT_take (i := 2) (oi := ?oi2503) (v := ?v2503) ?hi2503 (by kernel_rfl) (by kernel_rfl) (by kernel_rfl) (by kernel_rfl) (by kernel_rfl) ?hQ2503 ?hy2503 (by assumption) ?_
    case hi2503 => (simp only [List.getElem?_toArray, List.getElem?_cons_succ, List.getElem?_cons_zero]; try rfl)
    case hQ2503 => exact fun _ _ _ h => h
    case hy2503 => (refine Or.inl ⟨by rfl, ?_⟩; intro wq hSw; (try dsimp only at hSw); go_simp; (try with_reducible rfl))
    (try simp only [Act.put, List.setIfInBounds_toArray, List.set_cons_zero, List.set_cons_succ])
    refine wpAnyT_take (i := 3) (oi := ?oi2504) (v := ?v2504) ?hi2504 (by kernel_rfl) (by kernel_rfl) (by kernel_rfl) (by kernel_rfl) (by kernel_rfl) ?hQ2504 ?hy2504 (by assumption) ?_
    case hi2504 => (simp only [List.getElem?_toArray, List.getElem?_cons_succ, List.getElem?_cons_zero]; try rfl)
    case hQ2504 => exact fun _ _ _ h => h
    case hy2504 => (refine Or.inl ⟨by rfl, ?_⟩; intro wq hSw; (try dsimp only at hSw); go_simp; (try with_reducible rfl))
    (try simp only [Act.put, List.setIfInBounds_toArray, List.set_cons_zero, List.set_cons_succ])
    refine wpAnyT_take (i := 4) (oi := ?oi2505) (v := ?v2505) ?hi2505 (by kernel_rfl) (by kernel_rfl) (by kernel_rfl) (by kernel_rfl) (by kernel_rfl) ?hQ2505 ?hy2505 (by assumption) ?_
    case hi2505 => (simp only [List.getElem?_toArray, List.getElem?_cons_succ, List.getElem?_cons_zero]; try rfl)
    case hQ2505 => exact fun _ _ _ h => h
    case hy2505 => (refine Or.inl ⟨by rfl, ?_⟩; intro wq hSw; (try dsimp only at hSw); go_simp; (try with_reducible rfl))
    (try simp only [Act.put, List.setIfInBounds_toArray, List.set_cons_zero, List.set_cons_succ])
    refine wpAnyT_take (i := 5) (oi := ?oi2506) (v := ?v2506) ?hi2506 (by kernel_rfl) (by kernel_rfl) (by kernel_rfl) (by kernel_rfl) (by kernel_rfl) ?hQ2506 ?hy2506 (by assumption) ?_
    case hi2506 => (simp only [List.getElem?_toArray, List.getElem?_cons_succ, List.getElem?_cons_zero]; try rfl)
    case hQ2506 => exact fun _ _ _ h => h
    case hy2506 => (refine Or.inl ⟨by rfl, ?_⟩; intro wq hSw; (try dsimp only at hSw); go_simp; (try with_reducible rfl))
    (try simp only [Act.put, List.setIfInBounds_toArray, List.set_cons_zero, List.set_cons_succ])
    refine wpAnyT_ready (rs := [6]) (by kernel_rfl) (by simp) ?_
    refine AllReadyT.last (o := ?oi2507) ?hi2507 ?ti2507
    case hi2507 => (simp only [List.getElem?_toArray, List.getElem?_cons_succ, List.getElem?_cons_zero]; try rfl)
    case ti2507 =>
      intro KQ hKQ
      go_simp
      go_at_call 30
      refine Calls.mono (HPU.out _ (by repeat (first | exact Ext.refl' _ | assumption | apply Ext.ex' | apply Ext.al | apply Ext.drN | apply Ext.dr))) ?_
      rintro e w3 ⟨rfl, t1, hU, hI, hWf⟩
      refine hKQ.out _ _ ?_
      clear hKQ KQ hHeld
      (try simp only [Act.put, List.setIfInBounds_toArray, List.set_cons_zero, List.set_cons_succ])
      refine wpAnyT_done (by kernel_rfl) ?_ _
      have hU := Upd.pre HPS.out.good HPS.out.nd (by repeat (first | exact Ext.refl' _ | assumption | apply Ext.ex' | apply Ext.al | apply Ext.drN | apply Ext.dr)) hU
      have htb3 := hU.tur.block HPS.out.htb HPS.out.tn
      obtain ⟨Ak, ck, hkv, _, _, _⟩ := own_form2 hU.good.node.op
      have hkp := hU.good.node.hp
      have hr1 := hU.r
      rw [hkv] at hkp
      rw [← hr1] at htb3
      obtain ⟨nk, hnk⟩ : ∃ nk, t1.ps.length = nk := ⟨_, rfl⟩
      have hwl := (wf_iff.1 hWf).2.2
      rw [hnk] at hkp hwl
      have HNK := Lib.hid hnk
      have HU := Lib.hid hU
      have HI := Lib.hid hI
      have HWF := Lib.hid hWf
      have HTB3 := Lib.hid htb3
      clear c0 z0 z1 hbx
      obtain ⟨rb, c0, c1', c2, f0, f1, f2⟩ := three_cells htb3
      obtain ⟨rk, k0, _, _, _⟩ := two_cells hkp
      have hwll : IntKind.i64.wrap ((l.length : Int) + 1) = (l.length : Int) + 1 := IntWalk.i64_in _ (by omega)
      clear hU hI hWf htb3 hkp hkv hnk hr1
      by_cases hgt : m < nk
      · have hgtz : (m : Int) < (nk : Int) := by omega
        have hnm : nk = m + 1 := by omega
        obtain ⟨md, hmd⟩ : ∃ md, nk / 2 = md := ⟨_, rfl⟩
        obtain ⟨q, hq⟩ : ∃ q, t1.ps[md]? = some q := ⟨_, List.getElem?_eq_getElem (by have := HNK.out; omega)⟩
        have HQ := Lib.hid hq
        have HSP : Hid (∀ W, Ext w3 W → Calls Try.prog 31 #[pt t1.r] W fun e w' => ∃ l r : MT, e = .returned (.tuple #[pv q, pt r.r]) ∧ SplitR base W w' t1 l r md) := Lib.hid fun W hE =>
          split_any base t1 md q W (Nat.le_trans HPS.out.hb (Nat.le_trans HU.out.tur.size hE.size)) (HU.out.good.node.same fun b hb => hE.block b (HU.out.good.node.old b hb).2.1) (by have := HNK.out; omega) (by have := HNK.out; omega) (by rw [HNK.out]; exact hmd) HQ.out (by
            have h := (wf_iff.1 HWF.out).1
            cases d with
            | zero => exact .inl h
            | succ d => exact .inr h.1) (List.Nodup.sublist (by cases d; exact List.Sublist.refl _; exact List.sublist_append_left _ _) HU.out.nodup)
        have HMD := Lib.hid hmd
        have HNM := Lib.hid hnm
        clear hq hmd hnm
        go_wp2
        go_quiet (fail)
        go_wp2_with fail
        refine Calls.mono (HSP.out _ (by repeat (first | exact Ext.refl' _ | assumption | apply Ext.ex' | apply Ext.al | apply Ext.drN | apply Ext.dr))) ?_
        rintro e w4 ⟨x, y, rfl, hS⟩
        have htn1 : tb ∉ t1.own := fun e => by
          rcases HU.out.new tb (own_sub tb e) with h | h
          · exact HPS.out.tn h
          · have := (Array.getElem?_eq_some_iff.1 HPS.out.htb).1; omega
        have htb4 := hS.tur.block (HTB3.out : (w3.drewN nq).heap[tb]? = _) htn1
        have HS := Lib.hid hS
        have HTB4 := Lib.hid htb4
        clear hS HSP c0 c1' c2 f0 f1 f2 rb k0 rk htn1
        go_wp2
        have htb5 : (w4.alloc (.cells #[.slice q.A q.n q.c, .int .i64 q.id] TP)).heap[tb]? = _ := (Ext.al1 _ _ : Ext w4 _).at htb4
        have hbu5 := heap_alloc_new w4 (.cells #[.slice q.A q.n q.c, .int .i64 q.id] TP)
        have hM5 : Mut base [] w4 (w4.alloc (.cells #[.slice q.A q.n q.c, .int .i64 q.id] TP)) := Mut.ofExt (Ext.al1 _ _)
        obtain ⟨bu, hbu⟩ : ∃ bu, w4.heap.size = bu := ⟨_, rfl⟩
        rw [hbu] at hbu5 ⊢
        have HBU := Lib.hid hbu
        obtain ⟨ru, u0, u1, _, _⟩ := two_cells hbu5
        generalize w4.alloc (.cells #[.slice q.A q.n q.c, .int .i64 q.id] TP) = W5 at htb5 hbu5 hM5 u0 u1 ru ⊢
        obtain ⟨rb, c0, c1', c2, f0, f1, f2⟩ := three_cells htb5
        have HTB5 := Lib.hid htb5
        have HM5 := Lib.hid hM5
        clear htb4 htb5 hbu5 hM5 hbu
        refine wp_region_T 13 (S := (fun w' => w'.cell? ⟨tb, 0, none⟩ = some (pt t1.r) ∧ w'.cell? ⟨bu, 0, none⟩ = some (.slice q.A q.n q.c) ∧ w'.cell? ⟨bu, 1, none⟩ = some (.int .i64 q.id))) (by kernel_rfl) (by simp [go_sem, ↓IntWalk.iteOmega, *]) (fun hHeld => ?_)
        refine wpAnyT_take (i := 0) (oi := ?oi2701) (v := ?v2701) ?hi2701 (by kernel_rfl) (by kernel_rfl) (by kernel_rfl) (by kernel_rfl) (by kernel_rfl) ?hQ2701 ?hy2701 (by assumption) ?_
        case hi2701 => (simp only [List.getElem?_toArray, List.getElem?_cons_succ, List.getElem?_cons_zero]; try rfl)
        case hQ2701 => exact fun _ _ _ h => h
        case hy2701 => (refine Or.inl ⟨by rfl, ?_⟩; intro wq hSw; (try dsimp only at hSw); go_simp; (try with_reducible rfl))
        (try simp only [Act.put, List.setIfInBounds_toArray, List.set_cons_zero, List.set_cons_succ])
        refine wpAnyT_take (i := 1) (oi := ?oi2702) (v := ?v2702) ?hi2702 (by kernel_rfl) (by kernel_rfl) (by kernel_rfl) (by kernel_rfl) (by kernel_rfl) ?hQ2702 ?hy2702 (by assumption) ?_
        case hi2702 => (simp only [List.getElem?_toArray, List.getElem?_cons_succ, List.getElem?_cons_zero]; try rfl)
        case hQ2702 => exact fun _ _ _ h => h
        case hy2702 => (refine Or.inl ⟨by rfl, ?_⟩; intro wq hSw; (try dsimp only at hSw); go_simp; (try with_reducible rfl))
        (try simp only [Act.put, List.setIfInBounds_toArray, List.set_cons_zero, List.set_cons_succ])
        refine wpAnyT_take (i := 3) (oi := ?oi2703) (v := ?v2703) ?hi2703 (by kernel_rfl) (by kernel_rfl) (by kernel_rfl) (by kernel_rfl) (by kernel_rfl) ?hQ2703 ?hy2703 (by assumption) ?_
        case hi2703 => (simp only [List.getElem?_toArray, List.getElem?_cons_succ, List.getElem?_cons_zero]; try rfl)
        case hQ2703 => exact fun _ _ _ h => h
        case hy2703 => (refine Or.inl ⟨by rfl, ?_⟩; intro wq hSw; (try dsimp only at hSw); go_simp; (try with_reducible rfl))
        (try simp only [Act.put, List.setIfInBounds_toArray, List.set_cons_zero, List.set_cons_succ])
        refine wpAnyT_take (i := 4) (oi := ?oi2704) (v := ?v2704) ?hi2704 (by kernel_rfl) (by kernel_rfl) (by kernel_rfl) (by kernel_rfl) (by kernel_rfl) ?hQ2704 ?hy2704 (by assumption) ?_
        case hi2704 => (simp only [List.getElem?_toArray, List.getElem?_cons_succ, List.getElem?_cons_zero]; try rfl)
        case hQ2704 => exact fun _ _ _ h => h
        case hy2704 => (refine Or.inl ⟨by rfl, ?_⟩; intro wq hSw; (try dsimp only at hSw); go_simp; (try with_reducible rfl))
        (try simp only [Act.put, List.setIfInBounds_toArray, List.set_cons_zero, List.set_cons_succ])
        refine wpAnyT_take (i := 5) (oi := ?oi2705) (v := ?v2705) ?hi2705 (by kernel_rfl) (by kernel_rfl) (by kernel_rfl) (by kernel_rfl) (by kernel_rfl) ?hQ2705 ?hy2705 (by assumption) ?_
        case hi2705 => (simp only [List.getElem?_toArray, List.getElem?_cons_succ, List.getElem?_cons_zero]; try rfl)
        case hQ2705 => exact fun _ _ _ h => h
        case hy2705 => (refine Or.inl ⟨by rfl, ?_⟩; intro wq hSw; (try dsimp only at hSw); go_simp; (try with_reducible rfl))
        (try simp only [Act.put, List.setIfInBounds_toArray, List.set_cons_zero, List.set_cons_succ])
        refine wpAnyT_take (i := 6) (oi := ?oi2706) (v := ?v2706) ?hi2706 (by kernel_rfl) (by kernel_rfl) (by kernel_rfl) (by kernel_rfl) (by kernel_rfl) ?hQ2706 ?hy2706 (by assumption) ?_
        case hi2706 => (simp only [List.getElem?_toArray, List.getElem?_cons_succ, List.getElem?_cons_zero]; try rfl)
        case hQ2706 => exact fun _ _ _ h => h
        case hy2706 => (refine Or.inl ⟨by rfl, ?_⟩; intro wq hSw; (try dsimp only at hSw); go_simp; (try with_reducible rfl))
        (try simp only [Act.put, List.setIfInBounds_toArray, List.set_cons_zero, List.set_cons_succ])
        refine wpAnyT_take (i := 7) (oi := ?oi2707) (v := ?v2707) ?hi2707 (by kernel_rfl) (by kernel_rfl) (by kernel_rfl) (by kernel_rfl) (by kernel_rfl) ?hQ2707 ?hy2707 (by assumption) ?_
        case hi2707 => (simp only [List.getElem?_toArray, List.getElem?_cons_succ, List.getElem?_cons_zero]; try rfl)
        case hQ2707 => exact fun _ _ _ h => h
        case hy2707 => (refine Or.inl ⟨by rfl, ?_⟩; intro wq hSw; (try dsimp only at hSw); go_simp; (try with_reducible rfl))
        (try simp only [Act.put, List.setIfInBounds_toArray, List.set_cons_zero, List.set_cons_succ])
        refine wpAnyT_ready (rs := [2, 8]) (by kernel_rfl) (by simp) ?_
        refine AllReadyT.cons (o := ?oi2708) ?hi2708 ?ti2708 ?ri2708
        case hi2708 => (simp only [List.getElem?_toArray, List.getElem?_cons_succ, List.getElem?_cons_zero]; try rfl)
        case ti2708 =>
          intro KQ hKQ
          go_simp
          refine hKQ.out _ _ (by simp [go_sem, ↓IntWalk.iteOmega, *]) (fun hHeld2 => ?_)
          clear hHeld hKQ KQ; have hHeld := hHeld2; clear hHeld2
          (try simp only [Act.put, List.setIfInBounds_toArray, List.set_cons_zero, List.set_cons_succ])
          refine wpAnyT_ready (rs := [8]) (by kernel_rfl) (by simp) ?_
          refine AllReadyT.cons (o := ?oi2709) ?hi2709 ?ti2709 AllReadyT.nil
          case hi2709 => (simp only [List.getElem?_toArray, List.getElem?_cons_succ, List.getElem?_cons_zero]; try rfl)
          case ti2709 =>
            intro KQ hKQ
            go_simp
            refine hKQ.out _ _ (by simp [go_sem, ↓IntWalk.iteOmega, *]) (fun hHeld2 => ?_)
            clear hHeld hKQ KQ; have hHeld := hHeld2; clear hHeld2
            (try simp only [Act.put, List.setIfInBounds_toArray, List.set_cons_zero, List.set_cons_succ])
            refine wpAnyT_take (i := 9) (oi := ?oi2710) (v := ?v2710) ?hi2710 (by kernel_rfl) (by kernel_rfl) (by kernel_rfl) (by kernel_rfl) (by kernel_rfl) ?hQ2710 ?hy2710 (by assumption) ?_
            case hi2710 => (simp only [List.getElem?_toArray, List.getElem?_cons_succ, List.getElem?_cons_zero]; try rfl)
            case hQ2710 => exact fun _ _ _ h => h
            case hy2710 => (refine Or.inl ⟨by rfl, ?_⟩; intro wq hSw; (try dsimp only at hSw); go_simp; (try with_reducible rfl))
            (try simp only [Act.put, List.setIfInBounds_toArray, List.set_cons_zero, List.set_cons_succ])
            refine wpAnyT_ready (rs := [10]) (by kernel_rfl) (by simp) ?_
            refine AllReadyT.cons (o := ?oi2711) ?hi2711 ?ti2711 AllReadyT.nil
            case hi2711 => (simp only [List.getElem?_toArray, List.getElem?_cons_succ, List.getElem?_cons_zero]; try rfl)
            case ti2711 =>
              intro KQ hKQ
              go_simp
              refine hKQ.out _ _ (by simp [go_sem, ↓IntWalk.iteOmega, *]) (fun hHeld2 => ?_)
              clear hHeld hKQ KQ; have hHeld := hHeld2; clear hHeld2
              (try simp only [Act.put, List.setIfInBounds_toArray, List.set_cons_zero, List.set_cons_succ])
              refine wpAnyT_take (i := 11) (oi := ?oi2712) (v := ?v2712) ?hi2712 (by kernel_rfl) (by kernel_rfl) (by kernel_rfl) (by kernel_rfl) (by kernel_rfl) ?hQ2712 ?hy2712 (by assumption) ?_
              case hi2712 => (simp only [List.getElem?_toArray, List.getElem?_cons_succ, List.getElem?_cons_zero]; try rfl)
              case hQ2712 => exact fun _ _ _ h => h
              case hy2712 => (refine Or.inl ⟨by rfl, ?_⟩; intro wq hSw; (try dsimp only at hSw); go_simp; (try with_reducible rfl))
              (try simp only [Act.put, List.setIfInBounds_toArray, List.set_cons_zero, List.set_cons_succ])
              refine wpAnyT_take (i := 12) (oi := ?oi2713) (v := ?v2713) ?hi2713 (by kernel_rfl) (by kernel_rfl) (by kernel_rfl) (by kernel_rfl) (by kernel_rfl) ?hQ2713 ?hy2713 (by assumption) ?_
              case hi2713 => (simp only [List.getElem?_toArray, List.getElem?_cons_succ, List.getElem?_cons_zero]; try rfl)
              case hQ2713 => exact fun _ _ _ h => h
              case hy2713 => (refine Or.inl ⟨by rfl, ?_⟩; intro wq hSw; (try dsimp only at hSw); go_simp; (try with_reducible rfl))
              (try simp only [Act.put, List.setIfInBounds_toArray, List.set_cons_zero, List.set_cons_succ])
              refine wpAnyT_ready (rs := [13]) (by kernel_rfl) (by simp) ?_
              refine AllReadyT.last (o := ?oi2714) ?hi2714 ?ti2714
              case hi2714 => (simp only [List.getElem?_toArray, List.getElem?_cons_succ, List.getElem?_cons_zero]; try rfl)
              case ti2714 =>
                intro KQ hKQ
                go_simp
                refine hKQ.out _ _ ?_
                clear hKQ KQ hHeld
                (try simp only [Act.put, List.setIfInBounds_toArray, List.set_cons_zero, List.set_cons_succ])
                refine wpAnyT_done (by kernel_rfl) ?_ _
                have hxr : x.r = t1.r := HS.out.lr
                have he0 := set_heap HTB5.out 0 (pt (W5.heap.size + 1 + 1))
                have hsz := set_size W5 tb 0 (pt (W5.heap.size + 1 + 1))
                have hM0 := mut_tb (tb := tb) (S := [tb]) (o := 0) (u := pt (W5.heap.size + 1 + 1)) (HM5.out.of_sub (T := [tb]) (by simp) (fun b hb => by
                  simp at hb; subst hb
                  exact ⟨HPS.out.hbt, fun c ty f e => by rw [HTB4.out] at e; simp at e; exact .inr (.inr (.inr e.2.1.symm))⟩)) (by simp)
                obtain ⟨B0, hB0⟩ : ∃ B0, W5.setCell ⟨tb, 0, none⟩ (pt (W5.heap.size + 1 + 1)) = B0 := ⟨_, rfl⟩
                have hB0' : W5.setCell ⟨tb, 0, none⟩ (Value.pointer (some ⟨W5.heap.size + 1 + 1, 0, none⟩)) = B0 := hB0
                rw [hB0] at he0 hsz hM0
                rw [hB0']
                rw [← hxr]
                have hE6 : Ext B0 ((((B0.alloc (.cells #[.slice q.A q.n q.c, .int .i64 q.id] TP)).alloc (.cells #[pt x.r, pt y.r] TQ)).alloc (.cells #[.slice (some ⟨W5.heap.size, 0, none⟩) 1 1, .slice (some ⟨W5.heap.size + 1, 0, none⟩) 2 2] TN)).drew) := Ext.dr (Ext.al (Ext.al (Ext.al (Ext.refl' _) _) _) _)
                have g1 := al_at (w := B0) (o := (.cells #[.slice q.A q.n q.c, .int .i64 q.id] TP)) (W := ((((B0.alloc (.cells #[.slice q.A q.n q.c, .int .i64 q.id] TP)).alloc (.cells #[pt x.r, pt y.r] TQ)).alloc (.cells #[.slice (some ⟨W5.heap.size, 0, none⟩) 1 1, .slice (some ⟨W5.heap.size + 1, 0, none⟩) 2 2] TN)).drew)) (Ext.dr (Ext.al (Ext.al (Ext.refl' _) _) _))
                have g2 := al_at (w := B0.alloc (.cells #[.slice q.A q.n q.c, .int .i64 q.id] TP)) (o := (.cells #[pt x.r, pt y.r] TQ)) (W := ((((B0.alloc (.cells #[.slice q.A q.n q.c, .int .i64 q.id] TP)).alloc (.cells #[pt x.r, pt y.r] TQ)).alloc (.cells #[.slice (some ⟨W5.heap.size, 0, none⟩) 1 1, .slice (some ⟨W5.heap.size + 1, 0, none⟩) 2 2] TN)).drew)) (Ext.dr (Ext.al (Ext.refl' _) _))
                have g3 := al_at (w := (B0.alloc (.cells #[.slice q.A q.n q.c, .int .i64 q.id] TP)).alloc (.cells #[pt x.r, pt y.r] TQ)) (o := (.cells #[.slice (some ⟨W5.heap.size, 0, none⟩) 1 1, .slice (some ⟨W5.heap.size + 1, 0, none⟩) 2 2] TN)) (W := ((((B0.alloc (.cells #[.slice q.A q.n q.c, .int .i64 q.id] TP)).alloc (.cells #[pt x.r, pt y.r] TQ)).alloc (.cells #[.slice (some ⟨W5.heap.size, 0, none⟩) 1 1, .slice (some ⟨W5.heap.size + 1, 0, none⟩) 2 2] TN)).drew)) (Ext.dr (Ext.refl' _))
                rw [show ((B0.alloc (.cells #[.slice q.A q.n q.c, .int .i64 q.id] TP)).alloc (.cells #[pt x.r, pt y.r] TQ)).heap.size = W5.heap.size + 1 + 1 by simp [hsz]] at g3
                rw [show (B0.alloc (.cells #[.slice q.A q.n q.c, .int .i64 q.id] TP)).heap.size = W5.heap.size + 1 by simp [hsz]] at g2
                rw [hsz] at g1
                have g0 := hE6.at he0
                have hM6 := hM0.step (T := []) hE6.os hE6.tape hE6.output hE6.size (fun b hb _ => hE6.block b hb) (by simp)
                generalize ((((B0.alloc (.cells #[.slice q.A q.n q.c, .int .i64 q.id] TP)).alloc (.cells #[pt x.r, pt y.r] TQ)).alloc (.cells #[.slice (some ⟨W5.heap.size, 0, none⟩) 1 1, .slice (some ⟨W5.heap.size + 1, 0, none⟩) 2 2] TN)).drew) = W6 at g0 g1 g2 g3 hM6 ⊢
                have G0 := Lib.hid g0
                have G1 := Lib.hid g1
                have G2 := Lib.hid g2
                have G3 := Lib.hid g3
                have HM6 := Lib.hid hM6
                obtain ⟨rb, c0, c1', c2, f0, f1, f2⟩ := three_cells g0
                clear g0 g1 g2 g3 hM6 hE6 hM0 he0 hsz hB0' hB0
                go_wp2
                go_ret
                have htl5 := (Array.getElem?_eq_some_iff.1 HTB5.out).1
                have hbu' := HBU.out
                have e0 := set_heap G0.out 2 (.int .i64 ((l.length : Int) + 1))
                have hfin := HPS.out.fin2 (rb := W5.heap.size + 1 + 1) (b1 := W5.heap.size) (b2 := W5.heap.size + 1) (HU.out.trans (Upd.refl HU.out.good HU.out.nodup (show Ext w3 (w3.drewN nq) from by repeat (first | exact Ext.refl' _ | assumption | apply Ext.ex' | apply Ext.al | apply Ext.drN | apply Ext.dr)))) HI.out HWF.out hm HS.out HQ.out (by rw [HNK.out]; exact HMD.out) (by rw [HNK.out]; have := HNM.out; omega) (by omega) (by omega) (by omega) (by omega) (by omega) (by omega) e0 ((set_other (by omega)).trans G1.out) ((set_other (by omega)).trans G2.out) ((set_other (by omega)).trans G3.out) (mut_tb (tb := tb) (S := [tb]) HM6.out (by simp))
                obtain ⟨l', F', h1, h2, h3, h4⟩ := hfin
                exact ⟨true, l', F', rfl, h1, h2, h3, .inr ⟨rfl, HNO.out, (⟨A1, K.length, c1, K, id⟩ : MP), rfl, HFL.out ▸ h4⟩⟩
        case ri2708 =>
          refine AllReadyT.cons (o := ?oi2715) ?hi2715 ?ti2715 AllReadyT.nil
          case hi2715 => (simp only [List.getElem?_toArray, List.getElem?_cons_succ, List.getElem?_cons_zero]; try rfl)
          case ti2715 =>
            intro KQ hKQ
            go_simp
            refine hKQ.out _ _ (by simp [go_sem, ↓IntWalk.iteOmega, *]) (fun hHeld2 => ?_)
            clear hHeld hKQ KQ; have hHeld := hHeld2; clear hHeld2
            (try simp only [Act.put, List.setIfInBounds_toArray, List.set_cons_zero, List.set_cons_succ])
            refine wpAnyT_ready (rs := [2]) (by kernel_rfl) (by simp) ?_
            refine AllReadyT.cons (o := ?oi2716) ?hi2716 ?ti2716 AllReadyT.nil
            case hi2716 => (simp only [List.getElem?_toArray, List.getElem?_cons_succ, List.getElem?_cons_zero]; try rfl)
            case ti2716 =>
              intro KQ hKQ
              go_simp
              refine hKQ.out _ _ (by simp [go_sem, ↓IntWalk.iteOmega, *]) (fun hHeld2 => ?_)
              clear hHeld hKQ KQ; have hHeld := hHeld2; clear hHeld2
              (try simp only [Act.put, List.setIfInBounds_toArray, List.set_cons_zero, List.set_cons_succ])
              refine wpAnyT_take (i := 9) (oi := ?oi2717) (v := ?v2717) ?hi2717 (by kernel_rfl) (by kernel_rfl) (by kernel_rfl) (by kernel_rfl) (by kernel_rfl) ?hQ2717 ?hy2717 (by assumption) ?_
              case hi2717 => (simp only [List.getElem?_toArray, List.getElem?_cons_succ, List.getElem?_cons_zero]; try rfl)
              case hQ2717 => exact fun _ _ _ h => h
              case hy2717 => (refine Or.inl ⟨by rfl, ?_⟩; intro wq hSw; (try dsimp only at hSw); go_simp; (try with_reducible rfl))
              (try simp only [Act.put, List.setIfInBounds_toArray, List.set_cons_zero, List.set_cons_succ])
              refine wpAnyT_ready (rs := [10]) (by kernel_rfl) (by simp) ?_
              refine AllReadyT.cons (o := ?oi2718) ?hi2718 ?ti2718 AllReadyT.nil
              case hi2718 => (simp only [List.getElem?_toArray, List.getElem?_cons_succ, List.getElem?_cons_zero]; try rfl)
              case ti2718 =>
                intro KQ hKQ
                go_simp
                refine hKQ.out _ _ (by simp [go_sem, ↓IntWalk.iteOmega, *]) (fun hHeld2 => ?_)
                clear hHeld hKQ KQ; have hHeld := hHeld2; clear hHeld2
                (try simp only [Act.put, List.setIfInBounds_toArray, List.set_cons_zero, List.set_cons_succ])
                refine wpAnyT_take (i := 11) (oi := ?oi2719) (v := ?v2719) ?hi2719 (by kernel_rfl) (by kernel_rfl) (by kernel_rfl) (by kernel_rfl) (by kernel_rfl) ?hQ2719 ?hy2719 (by assumption) ?_
                case hi2719 => (simp only [List.getElem?_toArray, List.getElem?_cons_succ, List.getElem?_cons_zero]; try rfl)
                case hQ2719 => exact fun _ _ _ h => h
                case hy2719 => (refine Or.inl ⟨by rfl, ?_⟩; intro wq hSw; (try dsimp only at hSw); go_simp; (try with_reducible rfl))
                (try simp only [Act.put, List.setIfInBounds_toArray, List.set_cons_zero, List.set_cons_succ])
                refine wpAnyT_take (i := 12) (oi := ?oi2720) (v := ?v2720) ?hi2720 (by kernel_rfl) (by kernel_rfl) (by kernel_rfl) (by kernel_rfl) (by kernel_rfl) ?hQ2720 ?hy2720 (by assumption) ?_
                case hi2720 => (simp only [List.getElem?_toArray, List.getElem?_cons_succ, List.getElem?_cons_zero]; try rfl)
                case hQ2720 => exact fun _ _ _ h => h
                case hy2720 => (refine Or.inl ⟨by rfl, ?_⟩; intro wq hSw; (try dsimp only at hSw); go_simp; (try with_reducible rfl))
                (try simp only [Act.put, List.setIfInBounds_toArray, List.set_cons_zero, List.set_cons_succ])
                refine wpAnyT_ready (rs := [13]) (by kernel_rfl) (by simp) ?_
                refine AllReadyT.last (o := ?oi2721) ?hi2721 ?ti2721
                case hi2721 => (simp only [List.getElem?_toArray, List.getElem?_cons_succ, List.getElem?_cons_zero]; try rfl)
                case ti2721 =>
                  intro KQ hKQ
                  go_simp
                  refine hKQ.out _ _ ?_
                  clear hKQ KQ hHeld
                  (try simp only [Act.put, List.setIfInBounds_toArray, List.set_cons_zero, List.set_cons_succ])
                  refine wpAnyT_done (by kernel_rfl) ?_ _
                  have hxr : x.r = t1.r := HS.out.lr
                  have he0 := set_heap HTB5.out 0 (pt (W5.heap.size + 1 + 1))
                  have hsz := set_size W5 tb 0 (pt (W5.heap.size + 1 + 1))
                  have hM0 := mut_tb (tb := tb) (S := [tb]) (o := 0) (u := pt (W5.heap.size + 1 + 1)) (HM5.out.of_sub (T := [tb]) (by simp) (fun b hb => by
                    simp at hb; subst hb
                    exact ⟨HPS.out.hbt, fun c ty f e => by rw [HTB4.out] at e; simp at e; exact .inr (.inr (.inr e.2.1.symm))⟩)) (by simp)
                  obtain ⟨B0, hB0⟩ : ∃ B0, W5.setCell ⟨tb, 0, none⟩ (pt (W5.heap.size + 1 + 1)) = B0 := ⟨_, rfl⟩
                  have hB0' : W5.setCell ⟨tb, 0, none⟩ (Value.pointer (some ⟨W5.heap.size + 1 + 1, 0, none⟩)) = B0 := hB0
                  rw [hB0] at he0 hsz hM0
                  rw [hB0']
                  rw [← hxr]
                  have hE6 : Ext B0 ((((B0.alloc (.cells #[pt x.r, pt y.r] TQ)).alloc (.cells #[.slice q.A q.n q.c, .int .i64 q.id] TP)).alloc (.cells #[.slice (some ⟨W5.heap.size + 1, 0, none⟩) 1 1, .slice (some ⟨W5.heap.size, 0, none⟩) 2 2] TN)).drew) := Ext.dr (Ext.al (Ext.al (Ext.al (Ext.refl' _) _) _) _)
                  have g1 := al_at (w := B0) (o := (.cells #[pt x.r, pt y.r] TQ)) (W := ((((B0.alloc (.cells #[pt x.r, pt y.r] TQ)).alloc (.cells #[.slice q.A q.n q.c, .int .i64 q.id] TP)).alloc (.cells #[.slice (some ⟨W5.heap.size + 1, 0, none⟩) 1 1, .slice (some ⟨W5.heap.size, 0, none⟩) 2 2] TN)).drew)) (Ext.dr (Ext.al (Ext.al (Ext.refl' _) _) _))
                  have g2 := al_at (w := B0.alloc (.cells #[pt x.r, pt y.r] TQ)) (o := (.cells #[.slice q.A q.n q.c, .int .i64 q.id] TP)) (W := ((((B0.alloc (.cells #[pt x.r, pt y.r] TQ)).alloc (.cells #[.slice q.A q.n q.c, .int .i64 q.id] TP)).alloc (.cells #[.slice (some ⟨W5.heap.size + 1, 0, none⟩) 1 1, .slice (some ⟨W5.heap.size, 0, none⟩) 2 2] TN)).drew)) (Ext.dr (Ext.al (Ext.refl' _) _))
                  have g3 := al_at (w := (B0.alloc (.cells #[pt x.r, pt y.r] TQ)).alloc (.cells #[.slice q.A q.n q.c, .int .i64 q.id] TP)) (o := (.cells #[.slice (some ⟨W5.heap.size + 1, 0, none⟩) 1 1, .slice (some ⟨W5.heap.size, 0, none⟩) 2 2] TN)) (W := ((((B0.alloc (.cells #[pt x.r, pt y.r] TQ)).alloc (.cells #[.slice q.A q.n q.c, .int .i64 q.id] TP)).alloc (.cells #[.slice (some ⟨W5.heap.size + 1, 0, none⟩) 1 1, .slice (some ⟨W5.heap.size, 0, none⟩) 2 2] TN)).drew)) (Ext.dr (Ext.refl' _))
                  rw [show ((B0.alloc (.cells #[pt x.r, pt y.r] TQ)).alloc (.cells #[.slice q.A q.n q.c, .int .i64 q.id] TP)).heap.size = W5.heap.size + 1 + 1 by simp [hsz]] at g3
                  rw [show (B0.alloc (.cells #[pt x.r, pt y.r] TQ)).heap.size = W5.heap.size + 1 by simp [hsz]] at g2
                  rw [hsz] at g1
                  have g0 := hE6.at he0
                  have hM6 := hM0.step (T := []) hE6.os hE6.tape hE6.output hE6.size (fun b hb _ => hE6.block b hb) (by simp)
                  generalize ((((B0.alloc (.cells #[pt x.r, pt y.r] TQ)).alloc (.cells #[.slice q.A q.n q.c, .int .i64 q.id] TP)).alloc (.cells #[.slice (some ⟨W5.heap.size + 1, 0, none⟩) 1 1, .slice (some ⟨W5.heap.size, 0, none⟩) 2 2] TN)).drew) = W6 at g0 g1 g2 g3 hM6 ⊢
                  have G0 := Lib.hid g0
                  have G1 := Lib.hid g1
                  have G2 := Lib.hid g2
                  have G3 := Lib.hid g3
                  have HM6 := Lib.hid hM6
                  obtain ⟨rb, c0, c1', c2, f0, f1, f2⟩ := three_cells g0
                  clear g0 g1 g2 g3 hM6 hE6 hM0 he0 hsz hB0' hB0
                  go_wp2
                  go_ret
                  have htl5 := (Array.getElem?_eq_some_iff.1 HTB5.out).1
                  have hbu' := HBU.out
                  have e0 := set_heap G0.out 2 (.int .i64 ((l.length : Int) + 1))
                  have hfin := HPS.out.fin2 (rb := W5.heap.size + 1 + 1) (b1 := W5.heap.size + 1) (b2 := W5.heap.size) (HU.out.trans (Upd.refl HU.out.good HU.out.nodup (show Ext w3 (w3.drewN nq) from by repeat (first | exact Ext.refl' _ | assumption | apply Ext.ex' | apply Ext.al | apply Ext.drN | apply Ext.dr)))) HI.out HWF.out hm HS.out HQ.out (by rw [HNK.out]; exact HMD.out) (by rw [HNK.out]; have := HNM.out; omega) (by omega) (by omega) (by omega) (by omega) (by omega) (by omega) e0 ((set_other (by omega)).trans G2.out) ((set_other (by omega)).trans G1.out) ((set_other (by omega)).trans G3.out) (mut_tb (tb := tb) (S := [tb]) HM6.out (by simp))
                  obtain ⟨l', F', h1, h2, h3, h4⟩ := hfin
                  exact ⟨true, l', F', rfl, h1, h2, h3, .inr ⟨rfl, HNO.out, (⟨A1, K.length, c1, K, id⟩ : MP), rfl, HFL.out ▸ h4⟩⟩
      · have hgtz : ¬ ((m : Int) < (nk : Int)) := by omega
        have HLE : Hid (t1.ps.length ≤ m) := Lib.hid (by have := HNK.out; omega)
        go_wp2
        go_quiet (fail)
        go_wp2
        go_ret
        have hfin := HPS.out.fin (W' := (w3.setCell ⟨tb, 2, none⟩ (.int .i64 ((l.length : Int) + 1))).drewN nq) HU.out HI.out HWF.out HLE.out (by repeat (first | exact Ext.refl' _ | assumption | apply Ext.ex' | apply Ext.al | apply Ext.drN | apply Ext.dr))
        exact ⟨true, _, _, rfl, hfin.1, hfin.2.1, hfin.2.2, .inr ⟨rfl, HNO.out, (⟨A1, K.length, c1, K, id⟩ : MP), rfl, HFL.out ▸ HI.out⟩⟩
  · have HHA : Hid (∀ W, Ext w1 W → Calls Try.prog 29 #[pt tb, pv (⟨A1, K.length, c1, K, id⟩ : MP)] W fun e w' => ∃ b : Bool, (b = true ↔ ∃ q ∈ flat d t, q.kp = (K, id)) ∧ e = .returned (.bool b) ∧ Ext W w') := Lib.hid fun W hE => has_any base m tb d _ _ t (⟨A1, K.length, c1, K, id⟩ : MP) W hm hm2 ((hE1.tr hE).at h0) (hG.ext (hE1.tr hE)) hW (hfl ▸ HT.out.srt) (fun q hq => (HT.out.key q (hfl ▸ hq)).ext (hE1.tr hE)) (HKP.out.kr.ext hE)
    go_wp2_with fail
    refine Calls.mono (HHA.out _ (by repeat (first | exact Ext.refl' _ | assumption | apply Ext.ex' | apply Ext.al | apply Ext.drN | apply Ext.dr))) ?_
    rintro e w2 ⟨b, hbi, rfl, hb2⟩
    have hE2 : Ext w1 w2 := (Ext.al1 _ _).tr hb2
    have hbk := al_at hb2
    obtain ⟨_, z0, z1, _, _⟩ := two_cells hbk
    have htb2 := (hE1.tr hE2).at h0
    obtain ⟨rb, c0, c1', c2, f0, f1, f2⟩ := three_cells htb2
    obtain ⟨bx, hbx⟩ : ∃ bx, w1.heap.size = bx := ⟨_, rfl⟩
    rw [hbx] at hbk z0 z1 ⊢
    have hbl := (Array.getElem?_eq_some_iff.1 hbk).1
    have hbt : tb < bx := by have := hE1.size; omega
    rw [hfl] at hbi
    have HBI := Lib.hid hbi
    cases b with
    | true =>
      have hE12 := hE1.tr hE2
      clear hbk htb2 hb2 HHA h0 hbi
      go_wp2
      go_ret
      exact ⟨false, l, F, rfl, HT.out.ext (by repeat (first | exact Ext.refl' _ | assumption | apply Ext.ex' | apply Ext.al | apply Ext.drN | apply Ext.dr)), Mut.start' HT.out (by repeat (first | exact Ext.refl' _ | assumption | apply Ext.ex' | apply Ext.al | apply Ext.drN | apply Ext.dr)), fun x hx => .inl hx, .inl ⟨rfl, by simpa using HBI.out, rfl⟩⟩
    | false =>
      have hno : ¬ ∃ q ∈ l, q.kp = (K, id) := fun h => by have := HBI.out.2 h; cases this
      have HNO := Lib.hid hno
      have HPS : Hid (PutS base tb m w w2 l F (⟨A1, K.length, c1, K, id⟩ : MP) d 1 t) := Lib.hid ⟨Nat.le_trans HB.out (hE1.tr hE2).size, htb2, hG.ext (hE1.tr hE2), hND, by rw [← hF]; exact HT.out.nF, hW, .inl rfl, hfl ▸ HT.out.srt, fun q hq => (HT.out.key q (hfl ▸ hq)).ext (hE1.tr hE2), HKP.out.ext hE2, fun q hq e => hno ⟨q, hfl ▸ hq, e⟩, hfl, Mut.start' HT.out (hE1.tr hE2), fun x hx => .inl (by rw [hF]; exact hx), hll, HT.out.hb⟩
      have HPU := Lib.hid (PutS.put hm hm2 HPS.out)
      have HFL := Lib.hid hfl
      clear hbk htb2 hb2 HHA h0 hbi hno hG hND hW hfl hF
      go_wp2
      refine wp_region_T 6 (S := (fun w' => w'.cell? ⟨tb, 0, none⟩ = some (pt t.r) ∧ w'.cell? ⟨bx, 0, none⟩ = some (.slice A1 K.length c1) ∧ w'.cell? ⟨bx, 1, none⟩ = some (.int .i64 id))) (by kernel_rfl) (by simp [go_sem, ↓IntWalk.iteOmega, *]) (fun hHeld => ?_)
      refine wpAnyT_take (i := 0) (oi := ?oi501) (v := ?v501) ?hi501 (by kernel_rfl) (by kernel_rfl) (by kernel_rfl) (by kernel_rfl) (by kernel_rfl) ?hQ501 ?hy501 (by assumption) ?_
      case hi501 => (simp only [List.getElem?_toArray, List.getElem?_cons_succ, List.getElem?_cons_zero]; try rfl)
      case hQ501 => exact fun _ _ _ h => h
      case hy501 => (refine Or.inl ⟨by rfl, ?_⟩; intro wq hSw; (try dsimp only at hSw); go_simp; (try with_reducible rfl))
      (try simp only [Act.put, List.setIfInBounds_toArray, List.set_cons_zero, List.set_cons_succ])
      refine wpAnyT_take (i := 1) (oi := ?oi502) (v := ?v502) ?hi502 (by kernel_rfl) (by kernel_rfl) (by kernel_rfl) (by kernel_rfl) (by kernel_rfl) ?hQ502 ?hy502 (by assumption) ?_
      case hi502 => (simp only [List.getElem?_toArray, List.getElem?_cons_succ, List.getElem?_cons_zero]; try rfl)
      case hQ502 => exact fun _ _ _ h => h
      case hy502 => (refine Or.inl ⟨by rfl, ?_⟩; intro wq hSw; (try dsimp only at hSw); go_simp; (try with_reducible rfl))
      (try simp only [Act.put, List.setIfInBounds_toArray, List.set_cons_zero, List.set_cons_succ])
      refine wpAnyT_take (i := 2) (oi := ?oi503) (v := ?v503) ?hi503 (by kernel_rfl) (by kernel_rfl) (by kernel_rfl) (by kernel_rfl) (by kernel_rfl) ?hQ503 ?hy503 (by assumption) ?_
      case hi503 => (simp only [List.getElem?_toArray, List.getElem?_cons_succ, List.getElem?_cons_zero]; try rfl)
      case hQ503 => exact fun _ _ _ h => h
      case hy503 => (refine Or.inl ⟨by rfl, ?_⟩; intro wq hSw; (try dsimp only at hSw); go_simp; (try with_reducible rfl))
      (try simp only [Act.put, List.setIfInBounds_toArray, List.set_cons_zero, List.set_cons_succ])
      refine wpAnyT_take (i := 3) (oi := ?oi504) (v := ?v504) ?hi504 (by kernel_rfl) (by kernel_rfl) (by kernel_rfl) (by kernel_rfl) (by kernel_rfl) ?hQ504 ?hy504 (by assumption) ?_
      case hi504 => (simp only [List.getElem?_toArray, List.getElem?_cons_succ, List.getElem?_cons_zero]; try rfl)
      case hQ504 => exact fun _ _ _ h => h
      case hy504 => (refine Or.inl ⟨by rfl, ?_⟩; intro wq hSw; (try dsimp only at hSw); go_simp; (try with_reducible rfl))
      (try simp only [Act.put, List.setIfInBounds_toArray, List.set_cons_zero, List.set_cons_succ])
      refine wpAnyT_take (i := 4) (oi := ?oi505) (v := ?v505) ?hi505 (by kernel_rfl) (by kernel_rfl) (by kernel_rfl) (by kernel_rfl) (by kernel_rfl) ?hQ505 ?hy505 (by assumption) ?_
      case hi505 => (simp only [List.getElem?_toArray, List.getElem?_cons_succ, List.getElem?_cons_zero]; try rfl)
      case hQ505 => exact fun _ _ _ h => h
      case hy505 => (refine Or.inl ⟨by rfl, ?_⟩; intro wq hSw; (try dsimp only at hSw); go_simp; (try with_reducible rfl))
      (try simp only [Act.put, List.setIfInBounds_toArray, List.set_cons_zero, List.set_cons_succ])
      refine wpAnyT_take (i := 5) (oi := ?oi506) (v := ?v506) ?hi506 (by kernel_rfl) (by kernel_rfl) (by kernel_rfl) (by kernel_rfl) (by kernel_rfl) ?hQ506 ?hy506 (by assumption) ?_
      case hi506 => (simp only [List.getElem?_toArray, List.getElem?_cons_succ, List.getElem?_cons_zero]; try rfl)
      case hQ506 => exact fun _ _ _ h => h
      case hy506 => (refine Or.inl ⟨by rfl, ?_⟩; intro wq hSw; (try dsimp only at hSw); go_simp; (try with_reducible rfl))
      (try simp only [Act.put, List.setIfInBounds_toArray, List.set_cons_zero, List.set_cons_succ])
      refine wpAnyT_ready (rs := [6]) (by kernel_rfl) (by simp) ?_
      refine AllReadyT.last (o := ?oi507) ?hi507 ?ti507
      case hi507 => (simp only [List.getElem?_toArray, List.getElem?_cons_succ, List.getElem?_cons_zero]; try rfl)
      case ti507 =>
        intro KQ hKQ
        go_simp
        go_at_call 30
        refine Calls.mono (HPU.out _ (by repeat (first | exact Ext.refl' _ | assumption | apply Ext.ex' | apply Ext.al | apply Ext.drN | apply Ext.dr))) ?_
        rintro e w3 ⟨rfl, t1, hU, hI, hWf⟩
        refine hKQ.out _ _ ?_
        clear hKQ KQ hHeld
        (try simp only [Act.put, List.setIfInBounds_toArray, List.set_cons_zero, List.set_cons_succ])
        refine wpAnyT_done (by kernel_rfl) ?_ _
        have hU := Upd.pre HPS.out.good HPS.out.nd (by repeat (first | exact Ext.refl' _ | assumption | apply Ext.ex' | apply Ext.al | apply Ext.drN | apply Ext.dr)) hU
        have htb3 := hU.tur.block HPS.out.htb HPS.out.tn
        obtain ⟨Ak, ck, hkv, _, _, _⟩ := own_form2 hU.good.node.op
        have hkp := hU.good.node.hp
        have hr1 := hU.r
        rw [hkv] at hkp
        rw [← hr1] at htb3
        obtain ⟨nk, hnk⟩ : ∃ nk, t1.ps.length = nk := ⟨_, rfl⟩
        have hwl := (wf_iff.1 hWf).2.2
        rw [hnk] at hkp hwl
        have HNK := Lib.hid hnk
        have HU := Lib.hid hU
        have HI := Lib.hid hI
        have HWF := Lib.hid hWf
        have HTB3 := Lib.hid htb3
        clear c0 z0 z1 hbx
        obtain ⟨rb, c0, c1', c2, f0, f1, f2⟩ := three_cells htb3
        obtain ⟨rk, k0, _, _, _⟩ := two_cells hkp
        have hwll : IntKind.i64.wrap ((l.length : Int) + 1) = (l.length : Int) + 1 := IntWalk.i64_in _ (by omega)
        clear hU hI hWf htb3 hkp hkv hnk hr1
        by_cases hgt : m < nk
        · have hgtz : (m : Int) < (nk : Int) := by omega
          have hnm : nk = m + 1 := by omega
          obtain ⟨md, hmd⟩ : ∃ md, nk / 2 = md := ⟨_, rfl⟩
          obtain ⟨q, hq⟩ : ∃ q, t1.ps[md]? = some q := ⟨_, List.getElem?_eq_getElem (by have := HNK.out; omega)⟩
          have HQ := Lib.hid hq
          have HSP : Hid (∀ W, Ext w3 W → Calls Try.prog 31 #[pt t1.r] W fun e w' => ∃ l r : MT, e = .returned (.tuple #[pv q, pt r.r]) ∧ SplitR base W w' t1 l r md) := Lib.hid fun W hE =>
            split_any base t1 md q W (Nat.le_trans HPS.out.hb (Nat.le_trans HU.out.tur.size hE.size)) (HU.out.good.node.same fun b hb => hE.block b (HU.out.good.node.old b hb).2.1) (by have := HNK.out; omega) (by have := HNK.out; omega) (by rw [HNK.out]; exact hmd) HQ.out (by
              have h := (wf_iff.1 HWF.out).1
              cases d with
              | zero => exact .inl h
              | succ d => exact .inr h.1) (List.Nodup.sublist (by cases d; exact List.Sublist.refl _; exact List.sublist_append_left _ _) HU.out.nodup)
          have HMD := Lib.hid hmd
          have HNM := Lib.hid hnm
          clear hq hmd hnm
          go_wp2
          go_quiet (fail)
          go_wp2_with fail
          refine Calls.mono (HSP.out _ (by repeat (first | exact Ext.refl' _ | assumption | apply Ext.ex' | apply Ext.al | apply Ext.drN | apply Ext.dr))) ?_
          rintro e w4 ⟨x, y, rfl, hS⟩
          have htn1 : tb ∉ t1.own := fun e => by
            rcases HU.out.new tb (own_sub tb e) with h | h
            · exact HPS.out.tn h
            · have := (Array.getElem?_eq_some_iff.1 HPS.out.htb).1; omega
          have htb4 := hS.tur.block (HTB3.out : (w3.drewN nq).heap[tb]? = _) htn1
          have HS := Lib.hid hS
          have HTB4 := Lib.hid htb4
          clear hS HSP c0 c1' c2 f0 f1 f2 rb k0 rk htn1
          go_wp2
          have htb5 : (w4.alloc (.cells #[.slice q.A q.n q.c, .int .i64 q.id] TP)).heap[tb]? = _ := (Ext.al1 _ _ : Ext w4 _).at htb4
          have hbu5 := heap_alloc_new w4 (.cells #[.slice q.A q.n q.c, .int .i64 q.id] TP)
          have hM5 : Mut base [] w4 (w4.alloc (.cells #[.slice q.A q.n q.c, .int .i64 q.id] TP)) := Mut.ofExt (Ext.al1 _ _)
          obtain ⟨bu, hbu⟩ : ∃ bu, w4.heap.size = bu := ⟨_, rfl⟩
          rw [hbu] at hbu5 ⊢
          have HBU := Lib.hid hbu
          obtain ⟨ru, u0, u1, _, _⟩ := two_cells hbu5
          generalize w4.alloc (.cells #[.slice q.A q.n q.c, .int .i64 q.id] TP) = W5 at htb5 hbu5 hM5 u0 u1 ru ⊢
          obtain ⟨rb, c0, c1', c2, f0, f1, f2⟩ := three_cells htb5
          have HTB5 := Lib.hid htb5
          have HM5 := Lib.hid hM5
          clear htb4 htb5 hbu5 hM5 hbu
          refine wp_region_T 13 (S := (fun w' => w'.cell? ⟨tb, 0, none⟩ = some (pt t1.r) ∧ w'.cell? ⟨bu, 0, none⟩ = some (.slice q.A q.n q.c) ∧ w'.cell? ⟨bu, 1, none⟩ = some (.int .i64 q.id))) (by kernel_rfl) (by simp [go_sem, ↓IntWalk.iteOmega, *]) (fun hHeld => ?_)
          refine wpAnyT_take (i := 0) (oi := ?oi701) (v := ?v701) ?hi701 (by kernel_rfl) (by kernel_rfl) (by kernel_rfl) (by kernel_rfl) (by kernel_rfl) ?hQ701 ?hy701 (by assumption) ?_
          case hi701 => (simp only [List.getElem?_toArray, List.getElem?_cons_succ, List.getElem?_cons_zero]; try rfl)
          case hQ701 => exact fun _ _ _ h => h
          case hy701 => (refine Or.inl ⟨by rfl, ?_⟩; intro wq hSw; (try dsimp only at hSw); go_simp; (try with_reducible rfl))
          (try simp only [Act.put, List.setIfInBounds_toArray, List.set_cons_zero, List.set_cons_succ])
          refine wpAnyT_take (i := 1) (oi := ?oi702) (v := ?v702) ?hi702 (by kernel_rfl) (by kernel_rfl) (by kernel_rfl) (by kernel_rfl) (by kernel_rfl) ?hQ702 ?hy702 (by assumption) ?_
          case hi702 => (simp only [List.getElem?_toArray, List.getElem?_cons_succ, List.getElem?_cons_zero]; try rfl)
          case hQ702 => exact fun _ _ _ h => h
          case hy702 => (refine Or.inl ⟨by rfl, ?_⟩; intro wq hSw; (try dsimp only at hSw); go_simp; (try with_reducible rfl))
          (try simp only [Act.put, List.setIfInBounds_toArray, List.set_cons_zero, List.set_cons_succ])
          refine wpAnyT_take (i := 3) (oi := ?oi703) (v := ?v703) ?hi703 (by kernel_rfl) (by kernel_rfl) (by kernel_rfl) (by kernel_rfl) (by kernel_rfl) ?hQ703 ?hy703 (by assumption) ?_
          case hi703 => (simp only [List.getElem?_toArray, List.getElem?_cons_succ, List.getElem?_cons_zero]; try rfl)
          case hQ703 => exact fun _ _ _ h => h
          case hy703 => (refine Or.inl ⟨by rfl, ?_⟩; intro wq hSw; (try dsimp only at hSw); go_simp; (try with_reducible rfl))
          (try simp only [Act.put, List.setIfInBounds_toArray, List.set_cons_zero, List.set_cons_succ])
          refine wpAnyT_take (i := 4) (oi := ?oi704) (v := ?v704) ?hi704 (by kernel_rfl) (by kernel_rfl) (by kernel_rfl) (by kernel_rfl) (by kernel_rfl) ?hQ704 ?hy704 (by assumption) ?_
          case hi704 => (simp only [List.getElem?_toArray, List.getElem?_cons_succ, List.getElem?_cons_zero]; try rfl)
          case hQ704 => exact fun _ _ _ h => h
          case hy704 => (refine Or.inl ⟨by rfl, ?_⟩; intro wq hSw; (try dsimp only at hSw); go_simp; (try with_reducible rfl))
          (try simp only [Act.put, List.setIfInBounds_toArray, List.set_cons_zero, List.set_cons_succ])
          refine wpAnyT_take (i := 5) (oi := ?oi705) (v := ?v705) ?hi705 (by kernel_rfl) (by kernel_rfl) (by kernel_rfl) (by kernel_rfl) (by kernel_rfl) ?hQ705 ?hy705 (by assumption) ?_
          case hi705 => (simp only [List.getElem?_toArray, List.getElem?_cons_succ, List.getElem?_cons_zero]; try rfl)
          case hQ705 => exact fun _ _ _ h => h
          case hy705 => (refine Or.inl ⟨by rfl, ?_⟩; intro wq hSw; (try dsimp only at hSw); go_simp; (try with_reducible rfl))
          (try simp only [Act.put, List.setIfInBounds_toArray, List.set_cons_zero, List.set_cons_succ])
          refine wpAnyT_take (i := 6) (oi := ?oi706) (v := ?v706) ?hi706 (by kernel_rfl) (by kernel_rfl) (by kernel_rfl) (by kernel_rfl) (by kernel_rfl) ?hQ706 ?hy706 (by assumption) ?_
          case hi706 => (simp only [List.getElem?_toArray, List.getElem?_cons_succ, List.getElem?_cons_zero]; try rfl)
          case hQ706 => exact fun _ _ _ h => h
          case hy706 => (refine Or.inl ⟨by rfl, ?_⟩; intro wq hSw; (try dsimp only at hSw); go_simp; (try with_reducible rfl))
          (try simp only [Act.put, List.setIfInBounds_toArray, List.set_cons_zero, List.set_cons_succ])
          refine wpAnyT_take (i := 7) (oi := ?oi707) (v := ?v707) ?hi707 (by kernel_rfl) (by kernel_rfl) (by kernel_rfl) (by kernel_rfl) (by kernel_rfl) ?hQ707 ?hy707 (by assumption) ?_
          case hi707 => (simp only [List.getElem?_toArray, List.getElem?_cons_succ, List.getElem?_cons_zero]; try rfl)
          case hQ707 => exact fun _ _ _ h => h
          case hy707 => (refine Or.inl ⟨by rfl, ?_⟩; intro wq hSw; (try dsimp only at hSw); go_simp; (try with_reducible rfl))
          (try simp only [Act.put, List.setIfInBounds_toArray, List.set_cons_zero, List.set_cons_succ])
          refine wpAnyT_ready (rs := [2, 8]) (by kernel_rfl) (by simp) ?_
          refine AllReadyT.cons (o := ?oi708) ?hi708 ?ti708 ?ri708
          case hi708 => (simp only [List.getElem?_toArray, List.getElem?_cons_succ, List.getElem?_cons_zero]; try rfl)
          case ti708 =>
            intro KQ hKQ
            go_simp
            refine hKQ.out _ _ (by simp [go_sem, ↓IntWalk.iteOmega, *]) (fun hHeld2 => ?_)
            clear hHeld hKQ KQ; have hHeld := hHeld2; clear hHeld2
            (try simp only [Act.put, List.setIfInBounds_toArray, List.set_cons_zero, List.set_cons_succ])
            refine wpAnyT_ready (rs := [8]) (by kernel_rfl) (by simp) ?_
            refine AllReadyT.cons (o := ?oi709) ?hi709 ?ti709 AllReadyT.nil
            case hi709 => (simp only [List.getElem?_toArray, List.getElem?_cons_succ, List.getElem?_cons_zero]; try rfl)
            case ti709 =>
              intro KQ hKQ
              go_simp
              refine hKQ.out _ _ (by simp [go_sem, ↓IntWalk.iteOmega, *]) (fun hHeld2 => ?_)
              clear hHeld hKQ KQ; have hHeld := hHeld2; clear hHeld2
              (try simp only [Act.put, List.setIfInBounds_toArray, List.set_cons_zero, List.set_cons_succ])
              refine wpAnyT_take (i := 9) (oi := ?oi710) (v := ?v710) ?hi710 (by kernel_rfl) (by kernel_rfl) (by kernel_rfl) (by kernel_rfl) (by kernel_rfl) ?hQ710 ?hy710 (by assumption) ?_
              case hi710 => (simp only [List.getElem?_toArray, List.getElem?_cons_succ, List.getElem?_cons_zero]; try rfl)
              case hQ710 => exact fun _ _ _ h => h
              case hy710 => (refine Or.inl ⟨by rfl, ?_⟩; intro wq hSw; (try dsimp only at hSw); go_simp; (try with_reducible rfl))
              (try simp only [Act.put, List.setIfInBounds_toArray, List.set_cons_zero, List.set_cons_succ])
              refine wpAnyT_ready (rs := [10]) (by kernel_rfl) (by simp) ?_
              refine AllReadyT.cons (o := ?oi711) ?hi711 ?ti711 AllReadyT.nil
              case hi711 => (simp only [List.getElem?_toArray, List.getElem?_cons_succ, List.getElem?_cons_zero]; try rfl)
              case ti711 =>
                intro KQ hKQ
                go_simp
                refine hKQ.out _ _ (by simp [go_sem, ↓IntWalk.iteOmega, *]) (fun hHeld2 => ?_)
                clear hHeld hKQ KQ; have hHeld := hHeld2; clear hHeld2
                (try simp only [Act.put, List.setIfInBounds_toArray, List.set_cons_zero, List.set_cons_succ])
                refine wpAnyT_take (i := 11) (oi := ?oi712) (v := ?v712) ?hi712 (by kernel_rfl) (by kernel_rfl) (by kernel_rfl) (by kernel_rfl) (by kernel_rfl) ?hQ712 ?hy712 (by assumption) ?_
                case hi712 => (simp only [List.getElem?_toArray, List.getElem?_cons_succ, List.getElem?_cons_zero]; try rfl)
                case hQ712 => exact fun _ _ _ h => h
                case hy712 => (refine Or.inl ⟨by rfl, ?_⟩; intro wq hSw; (try dsimp only at hSw); go_simp; (try with_reducible rfl))
                (try simp only [Act.put, List.setIfInBounds_toArray, List.set_cons_zero, List.set_cons_succ])
                refine wpAnyT_take (i := 12) (oi := ?oi713) (v := ?v713) ?hi713 (by kernel_rfl) (by kernel_rfl) (by kernel_rfl) (by kernel_rfl) (by kernel_rfl) ?hQ713 ?hy713 (by assumption) ?_
                case hi713 => (simp only [List.getElem?_toArray, List.getElem?_cons_succ, List.getElem?_cons_zero]; try rfl)
                case hQ713 => exact fun _ _ _ h => h
                case hy713 => (refine Or.inl ⟨by rfl, ?_⟩; intro wq hSw; (try dsimp only at hSw); go_simp; (try with_reducible rfl))
                (try simp only [Act.put, List.setIfInBounds_toArray, List.set_cons_zero, List.set_cons_succ])
                refine wpAnyT_ready (rs := [13]) (by kernel_rfl) (by simp) ?_
                refine AllReadyT.last (o := ?oi714) ?hi714 ?ti714
                case hi714 => (simp only [List.getElem?_toArray, List.getElem?_cons_succ, List.getElem?_cons_zero]; try rfl)
                case ti714 =>
                  intro KQ hKQ
                  go_simp
                  refine hKQ.out _ _ ?_
                  clear hKQ KQ hHeld
                  (try simp only [Act.put, List.setIfInBounds_toArray, List.set_cons_zero, List.set_cons_succ])
                  refine wpAnyT_done (by kernel_rfl) ?_ _
                  have hxr : x.r = t1.r := HS.out.lr
                  have he0 := set_heap HTB5.out 0 (pt (W5.heap.size + 1 + 1))
                  have hsz := set_size W5 tb 0 (pt (W5.heap.size + 1 + 1))
                  have hM0 := mut_tb (tb := tb) (S := [tb]) (o := 0) (u := pt (W5.heap.size + 1 + 1)) (HM5.out.of_sub (T := [tb]) (by simp) (fun b hb => by
                    simp at hb; subst hb
                    exact ⟨HPS.out.hbt, fun c ty f e => by rw [HTB4.out] at e; simp at e; exact .inr (.inr (.inr e.2.1.symm))⟩)) (by simp)
                  obtain ⟨B0, hB0⟩ : ∃ B0, W5.setCell ⟨tb, 0, none⟩ (pt (W5.heap.size + 1 + 1)) = B0 := ⟨_, rfl⟩
                  have hB0' : W5.setCell ⟨tb, 0, none⟩ (Value.pointer (some ⟨W5.heap.size + 1 + 1, 0, none⟩)) = B0 := hB0
                  rw [hB0] at he0 hsz hM0
                  rw [hB0']
                  rw [← hxr]
                  have hE6 : Ext B0 ((((B0.alloc (.cells #[.slice q.A q.n q.c, .int .i64 q.id] TP)).alloc (.cells #[pt x.r, pt y.r] TQ)).alloc (.cells #[.slice (some ⟨W5.heap.size, 0, none⟩) 1 1, .slice (some ⟨W5.heap.size + 1, 0, none⟩) 2 2] TN)).drew) := Ext.dr (Ext.al (Ext.al (Ext.al (Ext.refl' _) _) _) _)
                  have g1 := al_at (w := B0) (o := (.cells #[.slice q.A q.n q.c, .int .i64 q.id] TP)) (W := ((((B0.alloc (.cells #[.slice q.A q.n q.c, .int .i64 q.id] TP)).alloc (.cells #[pt x.r, pt y.r] TQ)).alloc (.cells #[.slice (some ⟨W5.heap.size, 0, none⟩) 1 1, .slice (some ⟨W5.heap.size + 1, 0, none⟩) 2 2] TN)).drew)) (Ext.dr (Ext.al (Ext.al (Ext.refl' _) _) _))
                  have g2 := al_at (w := B0.alloc (.cells #[.slice q.A q.n q.c, .int .i64 q.id] TP)) (o := (.cells #[pt x.r, pt y.r] TQ)) (W := ((((B0.alloc (.cells #[.slice q.A q.n q.c, .int .i64 q.id] TP)).alloc (.cells #[pt x.r, pt y.r] TQ)).alloc (.cells #[.slice (some ⟨W5.heap.size, 0, none⟩) 1 1, .slice (some ⟨W5.heap.size + 1, 0, none⟩) 2 2] TN)).drew)) (Ext.dr (Ext.al (Ext.refl' _) _))
                  have g3 := al_at (w := (B0.alloc (.cells #[.slice q.A q.n q.c, .int .i64 q.id] TP)).alloc (.cells #[pt x.r, pt y.r] TQ)) (o := (.cells #[.slice (some ⟨W5.heap.size, 0, none⟩) 1 1, .slice (some ⟨W5.heap.size + 1, 0, none⟩) 2 2] TN)) (W := ((((B0.alloc (.cells #[.slice q.A q.n q.c, .int .i64 q.id] TP)).alloc (.cells #[pt x.r, pt y.r] TQ)).alloc (.cells #[.slice (some ⟨W5.heap.size, 0, none⟩) 1 1, .slice (some ⟨W5.heap.size + 1, 0, none⟩) 2 2] TN)).drew)) (Ext.dr (Ext.refl' _))
                  rw [show ((B0.alloc (.cells #[.slice q.A q.n q.c, .int .i64 q.id] TP)).alloc (.cells #[pt x.r, pt y.r] TQ)).heap.size = W5.heap.size + 1 + 1 by simp [hsz]] at g3
                  rw [show (B0.alloc (.cells #[.slice q.A q.n q.c, .int .i64 q.id] TP)).heap.size = W5.heap.size + 1 by simp [hsz]] at g2
                  rw [hsz] at g1
                  have g0 := hE6.at he0
                  have hM6 := hM0.step (T := []) hE6.os hE6.tape hE6.output hE6.size (fun b hb _ => hE6.block b hb) (by simp)
                  generalize ((((B0.alloc (.cells #[.slice q.A q.n q.c, .int .i64 q.id] TP)).alloc (.cells #[pt x.r, pt y.r] TQ)).alloc (.cells #[.slice (some ⟨W5.heap.size, 0, none⟩) 1 1, .slice (some ⟨W5.heap.size + 1, 0, none⟩) 2 2] TN)).drew) = W6 at g0 g1 g2 g3 hM6 ⊢
                  have G0 := Lib.hid g0
                  have G1 := Lib.hid g1
                  have G2 := Lib.hid g2
                  have G3 := Lib.hid g3
                  have HM6 := Lib.hid hM6
                  obtain ⟨rb, c0, c1', c2, f0, f1, f2⟩ := three_cells g0
                  clear g0 g1 g2 g3 hM6 hE6 hM0 he0 hsz hB0' hB0
                  go_wp2
                  go_ret
                  have htl5 := (Array.getElem?_eq_some_iff.1 HTB5.out).1
                  have hbu' := HBU.out
                  have e0 := set_heap G0.out 2 (.int .i64 ((l.length : Int) + 1))
                  have hfin := HPS.out.fin2 (rb := W5.heap.size + 1 + 1) (b1 := W5.heap.size) (b2 := W5.heap.size + 1) (HU.out.trans (Upd.refl HU.out.good HU.out.nodup (show Ext w3 (w3.drewN nq) from by repeat (first | exact Ext.refl' _ | assumption | apply Ext.ex' | apply Ext.al | apply Ext.drN | apply Ext.dr)))) HI.out HWF.out hm HS.out HQ.out (by rw [HNK.out]; exact HMD.out) (by rw [HNK.out]; have := HNM.out; omega) (by omega) (by omega) (by omega) (by omega) (by omega) (by omega) e0 ((set_other (by omega)).trans G1.out) ((set_other (by omega)).trans G2.out) ((set_other (by omega)).trans G3.out) (mut_tb (tb := tb) (S := [tb]) HM6.out (by simp))
                  obtain ⟨l', F', h1, h2, h3, h4⟩ := hfin
                  exact ⟨true, l', F', rfl, h1, h2, h3, .inr ⟨rfl, HNO.out, (⟨A1, K.length, c1, K, id⟩ : MP), rfl, HFL.out ▸ h4⟩⟩
          case ri708 =>
            refine AllReadyT.cons (o := ?oi715) ?hi715 ?ti715 AllReadyT.nil
            case hi715 => (simp only [List.getElem?_toArray, List.getElem?_cons_succ, List.getElem?_cons_zero]; try rfl)
            case ti715 =>
              intro KQ hKQ
              go_simp
              refine hKQ.out _ _ (by simp [go_sem, ↓IntWalk.iteOmega, *]) (fun hHeld2 => ?_)
              clear hHeld hKQ KQ; have hHeld := hHeld2; clear hHeld2
              (try simp only [Act.put, List.setIfInBounds_toArray, List.set_cons_zero, List.set_cons_succ])
              refine wpAnyT_ready (rs := [2]) (by kernel_rfl) (by simp) ?_
              refine AllReadyT.cons (o := ?oi716) ?hi716 ?ti716 AllReadyT.nil
              case hi716 => (simp only [List.getElem?_toArray, List.getElem?_cons_succ, List.getElem?_cons_zero]; try rfl)
              case ti716 =>
                intro KQ hKQ
                go_simp
                refine hKQ.out _ _ (by simp [go_sem, ↓IntWalk.iteOmega, *]) (fun hHeld2 => ?_)
                clear hHeld hKQ KQ; have hHeld := hHeld2; clear hHeld2
                (try simp only [Act.put, List.setIfInBounds_toArray, List.set_cons_zero, List.set_cons_succ])
                refine wpAnyT_take (i := 9) (oi := ?oi717) (v := ?v717) ?hi717 (by kernel_rfl) (by kernel_rfl) (by kernel_rfl) (by kernel_rfl) (by kernel_rfl) ?hQ717 ?hy717 (by assumption) ?_
                case hi717 => (simp only [List.getElem?_toArray, List.getElem?_cons_succ, List.getElem?_cons_zero]; try rfl)
                case hQ717 => exact fun _ _ _ h => h
                case hy717 => (refine Or.inl ⟨by rfl, ?_⟩; intro wq hSw; (try dsimp only at hSw); go_simp; (try with_reducible rfl))
                (try simp only [Act.put, List.setIfInBounds_toArray, List.set_cons_zero, List.set_cons_succ])
                refine wpAnyT_ready (rs := [10]) (by kernel_rfl) (by simp) ?_
                refine AllReadyT.cons (o := ?oi718) ?hi718 ?ti718 AllReadyT.nil
                case hi718 => (simp only [List.getElem?_toArray, List.getElem?_cons_succ, List.getElem?_cons_zero]; try rfl)
                case ti718 =>
                  intro KQ hKQ
                  go_simp
                  refine hKQ.out _ _ (by simp [go_sem, ↓IntWalk.iteOmega, *]) (fun hHeld2 => ?_)
                  clear hHeld hKQ KQ; have hHeld := hHeld2; clear hHeld2
                  (try simp only [Act.put, List.setIfInBounds_toArray, List.set_cons_zero, List.set_cons_succ])
                  refine wpAnyT_take (i := 11) (oi := ?oi719) (v := ?v719) ?hi719 (by kernel_rfl) (by kernel_rfl) (by kernel_rfl) (by kernel_rfl) (by kernel_rfl) ?hQ719 ?hy719 (by assumption) ?_
                  case hi719 => (simp only [List.getElem?_toArray, List.getElem?_cons_succ, List.getElem?_cons_zero]; try rfl)
                  case hQ719 => exact fun _ _ _ h => h
                  case hy719 => (refine Or.inl ⟨by rfl, ?_⟩; intro wq hSw; (try dsimp only at hSw); go_simp; (try with_reducible rfl))
                  (try simp only [Act.put, List.setIfInBounds_toArray, List.set_cons_zero, List.set_cons_succ])
                  refine wpAnyT_take (i := 12) (oi := ?oi720) (v := ?v720) ?hi720 (by kernel_rfl) (by kernel_rfl) (by kernel_rfl) (by kernel_rfl) (by kernel_rfl) ?hQ720 ?hy720 (by assumption) ?_
                  case hi720 => (simp only [List.getElem?_toArray, List.getElem?_cons_succ, List.getElem?_cons_zero]; try rfl)
                  case hQ720 => exact fun _ _ _ h => h
                  case hy720 => (refine Or.inl ⟨by rfl, ?_⟩; intro wq hSw; (try dsimp only at hSw); go_simp; (try with_reducible rfl))
                  (try simp only [Act.put, List.setIfInBounds_toArray, List.set_cons_zero, List.set_cons_succ])
                  refine wpAnyT_ready (rs := [13]) (by kernel_rfl) (by simp) ?_
                  refine AllReadyT.last (o := ?oi721) ?hi721 ?ti721
                  case hi721 => (simp only [List.getElem?_toArray, List.getElem?_cons_succ, List.getElem?_cons_zero]; try rfl)
                  case ti721 =>
                    intro KQ hKQ
                    go_simp
                    refine hKQ.out _ _ ?_
                    clear hKQ KQ hHeld
                    (try simp only [Act.put, List.setIfInBounds_toArray, List.set_cons_zero, List.set_cons_succ])
                    refine wpAnyT_done (by kernel_rfl) ?_ _
                    have hxr : x.r = t1.r := HS.out.lr
                    have he0 := set_heap HTB5.out 0 (pt (W5.heap.size + 1 + 1))
                    have hsz := set_size W5 tb 0 (pt (W5.heap.size + 1 + 1))
                    have hM0 := mut_tb (tb := tb) (S := [tb]) (o := 0) (u := pt (W5.heap.size + 1 + 1)) (HM5.out.of_sub (T := [tb]) (by simp) (fun b hb => by
                      simp at hb; subst hb
                      exact ⟨HPS.out.hbt, fun c ty f e => by rw [HTB4.out] at e; simp at e; exact .inr (.inr (.inr e.2.1.symm))⟩)) (by simp)
                    obtain ⟨B0, hB0⟩ : ∃ B0, W5.setCell ⟨tb, 0, none⟩ (pt (W5.heap.size + 1 + 1)) = B0 := ⟨_, rfl⟩
                    have hB0' : W5.setCell ⟨tb, 0, none⟩ (Value.pointer (some ⟨W5.heap.size + 1 + 1, 0, none⟩)) = B0 := hB0
                    rw [hB0] at he0 hsz hM0
                    rw [hB0']
                    rw [← hxr]
                    have hE6 : Ext B0 ((((B0.alloc (.cells #[pt x.r, pt y.r] TQ)).alloc (.cells #[.slice q.A q.n q.c, .int .i64 q.id] TP)).alloc (.cells #[.slice (some ⟨W5.heap.size + 1, 0, none⟩) 1 1, .slice (some ⟨W5.heap.size, 0, none⟩) 2 2] TN)).drew) := Ext.dr (Ext.al (Ext.al (Ext.al (Ext.refl' _) _) _) _)
                    have g1 := al_at (w := B0) (o := (.cells #[pt x.r, pt y.r] TQ)) (W := ((((B0.alloc (.cells #[pt x.r, pt y.r] TQ)).alloc (.cells #[.slice q.A q.n q.c, .int .i64 q.id] TP)).alloc (.cells #[.slice (some ⟨W5.heap.size + 1, 0, none⟩) 1 1, .slice (some ⟨W5.heap.size, 0, none⟩) 2 2] TN)).drew)) (Ext.dr (Ext.al (Ext.al (Ext.refl' _) _) _))
                    have g2 := al_at (w := B0.alloc (.cells #[pt x.r, pt y.r] TQ)) (o := (.cells #[.slice q.A q.n q.c, .int .i64 q.id] TP)) (W := ((((B0.alloc (.cells #[pt x.r, pt y.r] TQ)).alloc (.cells #[.slice q.A q.n q.c, .int .i64 q.id] TP)).alloc (.cells #[.slice (some ⟨W5.heap.size + 1, 0, none⟩) 1 1, .slice (some ⟨W5.heap.size, 0, none⟩) 2 2] TN)).drew)) (Ext.dr (Ext.al (Ext.refl' _) _))
                    have g3 := al_at (w := (B0.alloc (.cells #[pt x.r, pt y.r] TQ)).alloc (.cells #[.slice q.A q.n q.c, .int .i64 q.id] TP)) (o := (.cells #[.slice (some ⟨W5.heap.size + 1, 0, none⟩) 1 1, .slice (some ⟨W5.heap.size, 0, none⟩) 2 2] TN)) (W := ((((B0.alloc (.cells #[pt x.r, pt y.r] TQ)).alloc (.cells #[.slice q.A q.n q.c, .int .i64 q.id] TP)).alloc (.cells #[.slice (some ⟨W5.heap.size + 1, 0, none⟩) 1 1, .slice (some ⟨W5.heap.size, 0, none⟩) 2 2] TN)).drew)) (Ext.dr (Ext.refl' _))
                    rw [show ((B0.alloc (.cells #[pt x.r, pt y.r] TQ)).alloc (.cells #[.slice q.A q.n q.c, .int .i64 q.id] TP)).heap.size = W5.heap.size + 1 + 1 by simp [hsz]] at g3
                    rw [show (B0.alloc (.cells #[pt x.r, pt y.r] TQ)).heap.size = W5.heap.size + 1 by simp [hsz]] at g2
                    rw [hsz] at g1
                    have g0 := hE6.at he0
                    have hM6 := hM0.step (T := []) hE6.os hE6.tape hE6.output hE6.size (fun b hb _ => hE6.block b hb) (by simp)
                    generalize ((((B0.alloc (.cells #[pt x.r, pt y.r] TQ)).alloc (.cells #[.slice q.A q.n q.c, .int .i64 q.id] TP)).alloc (.cells #[.slice (some ⟨W5.heap.size + 1, 0, none⟩) 1 1, .slice (some ⟨W5.heap.size, 0, none⟩) 2 2] TN)).drew) = W6 at g0 g1 g2 g3 hM6 ⊢
                    have G0 := Lib.hid g0
                    have G1 := Lib.hid g1
                    have G2 := Lib.hid g2
                    have G3 := Lib.hid g3
                    have HM6 := Lib.hid hM6
                    obtain ⟨rb, c0, c1', c2, f0, f1, f2⟩ := three_cells g0
                    clear g0 g1 g2 g3 hM6 hE6 hM0 he0 hsz hB0' hB0
                    go_wp2
                    go_ret
                    have htl5 := (Array.getElem?_eq_some_iff.1 HTB5.out).1
                    have hbu' := HBU.out
                    have e0 := set_heap G0.out 2 (.int .i64 ((l.length : Int) + 1))
                    have hfin := HPS.out.fin2 (rb := W5.heap.size + 1 + 1) (b1 := W5.heap.size + 1) (b2 := W5.heap.size) (HU.out.trans (Upd.refl HU.out.good HU.out.nodup (show Ext w3 (w3.drewN nq) from by repeat (first | exact Ext.refl' _ | assumption | apply Ext.ex' | apply Ext.al | apply Ext.drN | apply Ext.dr)))) HI.out HWF.out hm HS.out HQ.out (by rw [HNK.out]; exact HMD.out) (by rw [HNK.out]; have := HNM.out; omega) (by omega) (by omega) (by omega) (by omega) (by omega) (by omega) e0 ((set_other (by omega)).trans G2.out) ((set_other (by omega)).trans G1.out) ((set_other (by omega)).trans G3.out) (mut_tb (tb := tb) (S := [tb]) HM6.out (by simp))
                    obtain ⟨l', F', h1, h2, h3, h4⟩ := hfin
                    exact ⟨true, l', F', rfl, h1, h2, h3, .inr ⟨rfl, HNO.out, (⟨A1, K.length, c1, K, id⟩ : MP), rfl, HFL.out ▸ h4⟩⟩
        · have hgtz : ¬ ((m : Int) < (nk : Int)) := by omega
          have HLE : Hid (t1.ps.length ≤ m) := Lib.hid (by have := HNK.out; omega)
          go_wp2
          go_quiet (fail)
          go_wp2
          go_ret
          have hfin := HPS.out.fin (W' := (w3.setCell ⟨tb, 2, none⟩ (.int .i64 ((l.length : Int) + 1))).drewN nq) HU.out HI.out HWF.out HLE.out (by repeat (first | exact Ext.refl' _ | assumption | apply Ext.ex' | apply Ext.al | apply Ext.drN | apply Ext.dr))
          exact ⟨true, _, _, rfl, hfin.1, hfin.2.1, hfin.2.2, .inr ⟨rfl, HNO.out, (⟨A1, K.length, c1, K, id⟩ : MP), rfl, HFL.out ▸ HI.out⟩⟩

end Go.Proofs.Ytdmbgimehepfaaa
