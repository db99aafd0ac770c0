/- Lemmas for the rows: BtZ BtVs. -/
import Derived.Test.YtdiaecgpjgdkdaaGreatThS22
import Derived.Test.YtdiaecgpjgdkdaaGreatThS07
import Derived.Deep.RegionHeld3
import Derived.Test.YtdiaecgpjgdkdaaGreatThS05
set_option linter.unusedSimpArgs false
set_option linter.unusedVariables false
namespace Go.Proofs.YtdiaecgpjgdkdaaGreat
open Go.RowKit

set_option maxRecDepth 100000 in
set_option maxHeartbeats 16000000 in
theorem Put_any (base m tb : Nat) (l : List MP) (F : List Nat) (A : Option Addr) (n c : Nat) (K : List Va) (id : Int) (w : World) (hm : 2 ≤ m) (hm2 : m ≤ 64) (hbw : base ≤ w.heap.size) (hT : TreeIs base w tb m l F) (hR : Rd w 3 A n (vcl K)) (hn : n = K.length) (hK : K.length ≤ 1048576) (hnil : A = none → n = 0 ∧ c = 0) (hll : l.length < 1048576) :
  Calls Tryz.prog 25 #[pt tb, .slice A n c, .int .i64 id] w fun e w' => ∃ b l' F', e = .returned (.bool b) ∧ TreeIs base w' tb m l' F' ∧ Mut base (tb :: F) w w' ∧ (∀ x ∈ F', x ∈ F ∨ w.heap.size ≤ x) ∧ ((b = false ∧ (∃ q ∈ l, q.kp = (K, id)) ∧ l' = l) ∨ (b = true ∧ (¬ ∃ q ∈ l, q.kp = (K, id)) ∧ ∃ p : MP, p.kp = (K, id) ∧ Ins p l l')) := by
 subst hn
 have HCV := Lib.hid (cloneV_any A K.length c (vcl K) w hR (oneCell_vcl K) (by omega) hnil)
 have HT := Lib.hid hT
 have HB := Lib.hid hbw
 have htl := (hT.old tb (by simp)).2.1
 clear hT hR hnil hbw
 go_enter Tryz.func25, Tryz.ntmps25
 go_wp2_with fail
 refine Calls.mono HCV.out ?_
 rintro e w1 ⟨v1, rfl, ho1, hb1⟩
 obtain ⟨A1, c1, rfl, _, _, _⟩ := own_form2 ho1
 have HKP : Hid (KOk base w1 (⟨A1, K.length, c1, K, id⟩ : MP)) := Lib.hid (KOk.of_own ho1 rfl hK)
 have hE1 : Ext w w1 := hb1
 clear ho1 hb1 HCV
 rcases HT.out.root with ⟨hl0, hF0, h0⟩ | ⟨d, t, h0, hG, hND, hW, hfl, hF⟩
 ·
  have HHA : Hid (∀ W, Ext w W → Calls Tryz.prog 47 #[pt tb, pv (⟨A1, K.length, c1, K, id⟩ : MP)] W fun e w' => e = .returned (.bool false) ∧ Ext W w') := Lib.hid fun W hE => has_none tb _ _ (⟨A1, K.length, c1, K, id⟩ : MP) W (hE.at h0)
  go_wp2_with fail
  refine Calls.mono (HHA.out _ (ex_)) ?_
  rintro e w2 ⟨rfl, hb2⟩
  have hE2 : Ext w1 w2 := (Ext.al1 _ _).tr hb2
  have hbk := al_at hb2
  obtain ⟨_, z0, z1, _, _⟩ := two_cells hbk
  have htb2 := (hE1.tr hE2).at h0
  obtain ⟨rb, c0, c1', c2, f0, f1, f2⟩ := three_cells htb2
  obtain ⟨bx, hbx⟩ : ∃ bx, w1.heap.size = bx := ⟨_, rfl⟩
  rw [hbx] at hbk z0 z1 ⊢
  have hbl := (Array.getElem?_eq_some_iff.1 hbk).1
  have hbt : tb < bx := by have := hE1.size; omega
  have HHB := Lib.hid hbk
  have HTB2 := Lib.hid htb2
  clear hbk htb2 hb2 HHA h0
  have hE12 := Lib.hid (hE1.tr hE2)
  go_wp2
  obtain ⟨nb, hnb⟩ : ∃ nb, w2.heap.size = nb := ⟨_, rfl⟩
  rw [hnb]
  have e0 := set_heap HTB2.out 0 (pt nb)
  have ebx : (w2.setCell ⟨tb, 0, none⟩ (pt nb)).heap[bx]? = _ := (set_other (by omega)).trans HHB.out
  have hM2 := mut_tb (tb := tb) (S := tb :: F) (o := 0) (u := pt nb) (Mut.start' HT.out hE12.out) (by simp)
  have hkp2 := (Mut.key (mut_tb (tb := tb) (S := [tb]) (o := 0) (u := pt nb) (Mut.start (w := w2) (fun b hb _ => by simp at hb; subst hb; exact HT.out.hb) (fun b hb c ty f e => by
   simp at hb; subst hb
   rw [HTB2.out] at e; simp at e; exact .inr (.inr (.inr e.2.1.symm)))) (by simp)) (HKP.out.ext hE2))
  have hs2 := set_size w2 tb 0 (pt nb)
  have hW0 : w2.setCell ⟨tb, 0, none⟩ (Value.pointer (some ⟨nb, 0, none⟩)) = w2.setCell ⟨tb, 0, none⟩ (pt nb) := rfl
  rw [hW0]
  generalize w2.setCell ⟨tb, 0, none⟩ (pt nb) = B0 at e0 ebx hM2 hkp2 hs2 ⊢
  have hE := Ext.al1 B0 (.cells #[.slice none 0 0, .slice none 0 0] TN)
  have e1 := heap_alloc_new B0 (.cells #[.slice none 0 0, .slice none 0 0] TN)
  rw [hs2, hnb] at e1
  have e0 := hE.at e0
  have ebx := hE.at ebx
  have hM := hM2.step (T := []) hE.os hE.tape hE.output hE.size (fun b hb _ => hE.block b hb) (by simp)
  have hkp := hkp2.ext hE
  have hszW := hE.size
  generalize B0.alloc (.cells #[.slice none 0 0, .slice none 0 0] TN) = W at e0 e1 ebx hM hkp hszW ⊢
  have hnbw : w.heap.size ≤ nb := by have := hE12.out.size; omega
  have hno : ¬ ∃ q ∈ l, q.kp = (K, id) := by rw [hl0]; simp
  have HNO := Lib.hid hno
  obtain ⟨t, htr, HTE⟩ : ∃ t : MT, t.r = nb ∧ Hid (t = .nd nb (.slice none 0 0) (.slice none 0 0) [] []) := ⟨.nd nb (.slice none 0 0) (.slice none 0 0) [] [], rfl, Lib.hid rfl⟩
  have HPS : Hid (PutS base tb m w W l F (⟨A1, K.length, c1, K, id⟩ : MP) 0 0 t) := Lib.hid (by
   have ht := HTE.out
   subst ht
   have hfl : flat 0 (.nd nb (.slice none 0 0) (.slice none 0 0) [] []) = [] := rfl
   have hft : foot 0 (.nd nb (.slice none 0 0) (.slice none 0 0) [] []) = [nb] := rfl
   refine ⟨by have := hM.size; have := HB.out; omega, by rw [hl0]; exact e0, ⟨by show base ≤ nb; have := HB.out; omega, e1, World.ownsRow_nil _ _ _ _, World.ownsRow_nil _ _ _ _⟩, by rw [hft]; simp, by rw [hft]; simp; omega, ⟨rfl, Nat.le_refl _, Nat.zero_le _⟩, .inr rfl, by rw [hfl]; exact List.Pairwise.nil, by rw [hfl]; simp, hkp, by rw [hfl]; simp, by rw [hfl, hl0], hM, by rw [hft]; intro x hx; simp at hx; subst hx; exact .inr hnbw, hll, HT.out.hb⟩)
  obtain ⟨d, HD⟩ : ∃ d, Hid (d = 0) := ⟨0, Lib.hid rfl⟩
  obtain ⟨lo, HLO⟩ : ∃ lo, Hid (lo = 0) := ⟨0, Lib.hid rfl⟩
  have HPS : Hid (PutS base tb m w W l F (⟨A1, K.length, c1, K, id⟩ : MP) d lo t) := Lib.hid (by rw [HD.out, HLO.out]; exact HPS.out)
  have HPU := Lib.hid (PutS.put hm hm2 HPS.out)
  have HFL := Lib.hid HPS.out.fl
  rw [← htr] at e0 ⊢
  obtain ⟨hbl2, z0, z1, _, _⟩ := two_cells ebx
  clear c0 c1' c2 f0 f1 f2 rb
  obtain ⟨rb, c0, c1', c2, f0, f1, f2⟩ := three_cells e0
  clear e0 e1 ebx hM hkp hszW hno htr hM2 hkp2 hs2 hnb hE hnbw hW0 hl0 hF0
  refine wp_region_T 6 (S := (fun w' => w'.cell? ⟨tb, 0, none⟩ = some (pt t.r) ∧ w'.cell? ⟨bx, 0, none⟩ = some (.slice A1 K.length c1) ∧ w'.cell? ⟨bx, 1, none⟩ = some (.int .i64 id))) (by kernel_rfl) (by simp [go_sem, ↓IntWalk.iteOmega, *]) (fun hHeld => ?_)
  refine tkT 0 ?oi2501 (?v2501) ?hi2501 ?hy2501 ?_
  case hi2501 => (simp only [gA, gS, gZ]; try rfl)
  case hy2501 => (refine Or.inl ⟨by rfl, ?_⟩; intro wq hSw; (try dsimp only at hSw); go_simp; (try with_reducible rfl))
  (try simp only [Act.put, pA, pZ, pS])
  refine tkT 1 ?oi2502 (?v2502) ?hi2502 ?hy2502 ?_
  case hi2502 => (simp only [gA, gS, gZ]; try rfl)
  case hy2502 => (refine Or.inl ⟨by rfl, ?_⟩; intro wq hSw; (try dsimp only at hSw); go_simp; (try with_reducible rfl))
  (try simp only [Act.put, pA, pZ, pS])
  refine tkT 2 ?oi2503 (?v2503) ?hi2503 ?hy2503 ?_
  case hi2503 => (simp only [gA, gS, gZ]; try rfl)
  case hy2503 => (refine Or.inl ⟨by rfl, ?_⟩; intro wq hSw; (try dsimp only at hSw); go_simp; (try with_reducible rfl))
  (try simp only [Act.put, pA, pZ, pS])
  refine tkT 3 ?oi2504 (?v2504) ?hi2504 ?hy2504 ?_
  case hi2504 => (simp only [gA, gS, gZ]; try rfl)
  case hy2504 => (refine Or.inl ⟨by rfl, ?_⟩; intro wq hSw; (try dsimp only at hSw); go_simp; (try with_reducible rfl))
  (try simp only [Act.put, pA, pZ, pS])
  refine tkT 4 ?oi2505 (?v2505) ?hi2505 ?hy2505 ?_
  case hi2505 => (simp only [gA, gS, gZ]; try rfl)
  case hy2505 => (refine Or.inl ⟨by rfl, ?_⟩; intro wq hSw; (try dsimp only at hSw); go_simp; (try with_reducible rfl))
  (try simp only [Act.put, pA, pZ, pS])
  refine tkT 5 ?oi2506 (?v2506) ?hi2506 ?hy2506 ?_
  case hi2506 => (simp only [gA, gS, gZ]; try rfl)
  case hy2506 => (refine Or.inl ⟨by rfl, ?_⟩; intro wq hSw; (try dsimp only at hSw); go_simp; (try with_reducible rfl))
  (try simp only [Act.put, pA, pZ, pS])
  refine wpAnyT_ready (rs := [6]) (by kernel_rfl) (by simp) ?_
  refine AllReadyT.last (o := ?oi2507) ?hi2507 ?ti2507
  case hi2507 => (simp only [gA, gS, gZ]; try rfl)
  case ti2507 =>
   intro KQ hKQ
   go_simp
   go_at_call 48
   refine Calls.mono (HPU.out _ (ex_)) ?_
   rintro e w3 ⟨rfl, t1, hU, hI, hWf⟩
   refine hKQ.out _ _ ?_
   clear hKQ KQ hHeld
   (try simp only [Act.put, pA, pZ, pS])
   refine wpAnyT_done (by kernel_rfl) ?_ _
   have hU := Upd.pre HPS.out.good HPS.out.nd (ex_) hU
   have htb3 := hU.tur.block HPS.out.htb HPS.out.tn
   obtain ⟨Ak, ck, hkv, _, _, _⟩ := own_form2 hU.good.node.op
   have hkp := hU.good.node.hp
   have hr1 := hU.r
   rw [hkv] at hkp
   rw [← hr1] at htb3
   obtain ⟨nk, hnk⟩ : ∃ nk, t1.ps.length = nk := ⟨_, rfl⟩
   have hwl := (wf_iff.1 hWf).2.2
   rw [hnk] at hkp hwl
   have HNK := Lib.hid hnk
   have HU := Lib.hid hU
   have HI := Lib.hid hI
   have HWF := Lib.hid hWf
   have HTB3 := Lib.hid htb3
   clear c0 z0 z1 hbx
   obtain ⟨rb, c0, c1', c2, f0, f1, f2⟩ := three_cells htb3
   obtain ⟨rk, k0, _, _, _⟩ := two_cells hkp
   have hwll : IntKind.i64.wrap ((l.length : Int) + 1) = (l.length : Int) + 1 := IntWalk.i64_in _ (by omega)
   clear hU hI hWf htb3 hkp hkv hnk hr1
   by_cases hgt : m < nk
   ·
    have hgtz : (m : Int) < (nk : Int) := by omega
    have hnm : nk = m + 1 := by omega
    obtain ⟨md, hmd⟩ : ∃ md, nk / 2 = md := ⟨_, rfl⟩
    obtain ⟨q, hq⟩ : ∃ q, t1.ps[md]? = some q := ⟨_, List.getElem?_eq_getElem (by have := HNK.out; omega)⟩
    have HQ := Lib.hid hq
    have HSP : Hid (∀ W, Ext w3 W → Calls Tryz.prog 49 #[pt t1.r] W fun e w' => ∃ l r : MT, e = .returned (.tuple #[pv q, pt r.r]) ∧ SplitR base W w' t1 l r md) := Lib.hid fun W hE =>
     split_any base t1 md q W (Nat.le_trans HPS.out.hb (Nat.le_trans HU.out.tur.size hE.size)) (HU.out.good.node.same fun b hb => hE.block b (HU.out.good.node.old b hb).2.1) (by have := HNK.out; omega) (by have := HNK.out; omega) (by rw [HNK.out]; exact hmd) HQ.out (by
      have h := (wf_iff.1 HWF.out).1
      cases d with
      | zero => exact .inl h
      | succ d => exact .inr h.1) (List.Nodup.sublist (by cases d; exact List.Sublist.refl _; exact List.sublist_append_left _ _) HU.out.nodup)
    have HMD := Lib.hid hmd
    have HNM := Lib.hid hnm
    clear hq hmd hnm
    go_wp2
    go_quiet (fail)
    go_wp2_with fail
    refine Calls.mono (HSP.out _ (ex_)) ?_
    rintro e w4 ⟨x, y, rfl, hS⟩
    have htn1 : tb ∉ t1.own := fun e => by
     rcases HU.out.new tb (own_sub tb e) with h | h
     ·
      exact HPS.out.tn h
     ·
      have := (Array.getElem?_eq_some_iff.1 HPS.out.htb).1; omega
    have htb4 := hS.tur.block (HTB3.out : (w3.drewN nq).heap[tb]? = _) htn1
    have HS := Lib.hid hS
    have HTB4 := Lib.hid htb4
    clear hS HSP c0 c1' c2 f0 f1 f2 rb k0 rk htn1
    go_wp2
    have htb5 : (w4.alloc (.cells #[.slice q.A q.n q.c, .int .i64 q.id] TP)).heap[tb]? = _ := (Ext.al1 _ _ : Ext w4 _).at htb4
    have hbu5 := heap_alloc_new w4 (.cells #[.slice q.A q.n q.c, .int .i64 q.id] TP)
    have hM5 : Mut base [] w4 (w4.alloc (.cells #[.slice q.A q.n q.c, .int .i64 q.id] TP)) := Mut.ofExt (Ext.al1 _ _)
    obtain ⟨bu, hbu⟩ : ∃ bu, w4.heap.size = bu := ⟨_, rfl⟩
    rw [hbu] at hbu5 ⊢
    have HBU := Lib.hid hbu
    obtain ⟨ru, u0, u1, _, _⟩ := two_cells hbu5
    generalize w4.alloc (.cells #[.slice q.A q.n q.c, .int .i64 q.id] TP) = W5 at htb5 hbu5 hM5 u0 u1 ru ⊢
    obtain ⟨rb, c0, c1', c2, f0, f1, f2⟩ := three_cells htb5
    have HTB5 := Lib.hid htb5
    have HM5 := Lib.hid hM5
    clear htb4 htb5 hbu5 hM5 hbu
    refine wp_region_T 13 (S := (fun w' => w'.cell? ⟨tb, 0, none⟩ = some (pt t1.r) ∧ w'.cell? ⟨bu, 0, none⟩ = some (.slice q.A q.n q.c) ∧ w'.cell? ⟨bu, 1, none⟩ = some (.int .i64 q.id))) (by kernel_rfl) (by simp [go_sem, ↓IntWalk.iteOmega, *]) (fun hHeld => ?_)
    refine tkT 0 ?oi2701 (?v2701) ?hi2701 ?hy2701 ?_
    case hi2701 => (simp only [gA, gS, gZ]; try rfl)
    case hy2701 => (refine Or.inl ⟨by rfl, ?_⟩; intro wq hSw; (try dsimp only at hSw); go_simp; (try with_reducible rfl))
    (try simp only [Act.put, pA, pZ, pS])
    refine tkT 1 ?oi2702 (?v2702) ?hi2702 ?hy2702 ?_
    case hi2702 => (simp only [gA, gS, gZ]; try rfl)
    case hy2702 => (refine Or.inl ⟨by rfl, ?_⟩; intro wq hSw; (try dsimp only at hSw); go_simp; (try with_reducible rfl))
    (try simp only [Act.put, pA, pZ, pS])
    refine tkT 3 ?oi2703 (?v2703) ?hi2703 ?hy2703 ?_
    case hi2703 => (simp only [gA, gS, gZ]; try rfl)
    case hy2703 => (refine Or.inl ⟨by rfl, ?_⟩; intro wq hSw; (try dsimp only at hSw); go_simp; (try with_reducible rfl))
    (try simp only [Act.put, pA, pZ, pS])
    refine tkT 4 ?oi2704 (?v2704) ?hi2704 ?hy2704 ?_
    case hi2704 => (simp only [gA, gS, gZ]; try rfl)
    case hy2704 => (refine Or.inl ⟨by rfl, ?_⟩; intro wq hSw; (try dsimp only at hSw); go_simp; (try with_reducible rfl))
    (try simp only [Act.put, pA, pZ, pS])
    refine tkT 5 ?oi2705 (?v2705) ?hi2705 ?hy2705 ?_
    case hi2705 => (simp only [gA, gS, gZ]; try rfl)
    case hy2705 => (refine Or.inl ⟨by rfl, ?_⟩; intro wq hSw; (try dsimp only at hSw); go_simp; (try with_reducible rfl))
    (try simp only [Act.put, pA, pZ, pS])
    refine tkT 6 ?oi2706 (?v2706) ?hi2706 ?hy2706 ?_
    case hi2706 => (simp only [gA, gS, gZ]; try rfl)
    case hy2706 => (refine Or.inl ⟨by rfl, ?_⟩; intro wq hSw; (try dsimp only at hSw); go_simp; (try with_reducible rfl))
    (try simp only [Act.put, pA, pZ, pS])
    refine tkT 7 ?oi2707 (?v2707) ?hi2707 ?hy2707 ?_
    case hi2707 => (simp only [gA, gS, gZ]; try rfl)
    case hy2707 => (refine Or.inl ⟨by rfl, ?_⟩; intro wq hSw; (try dsimp only at hSw); go_simp; (try with_reducible rfl))
    (try simp only [Act.put, pA, pZ, pS])
    refine wpAnyT_ready (rs := [2, 8]) (by kernel_rfl) (by simp) ?_
    refine AllReadyT.cons (o := ?oi2708) ?hi2708 ?ti2708 ?ri2708
    case hi2708 => (simp only [gA, gS, gZ]; try rfl)
    case ti2708 =>
     intro KQ hKQ
     go_simp
     refine hKQ.out _ _ (by simp [go_sem, ↓IntWalk.iteOmega, *]) (fun hHeld2 => ?_)
     clear hHeld hKQ KQ; have hHeld := hHeld2; clear hHeld2
     (try simp only [Act.put, pA, pZ, pS])
     refine wpAnyT_ready (rs := [8]) (by kernel_rfl) (by simp) ?_
     refine AllReadyT.cons (o := ?oi2709) ?hi2709 ?ti2709 AllReadyT.nil
     case hi2709 => (simp only [gA, gS, gZ]; try rfl)
     case ti2709 =>
      intro KQ hKQ
      go_simp
      refine hKQ.out _ _ (by simp [go_sem, ↓IntWalk.iteOmega, *]) (fun hHeld2 => ?_)
      clear hHeld hKQ KQ; have hHeld := hHeld2; clear hHeld2
      (try simp only [Act.put, pA, pZ, pS])
      refine tkT 9 ?oi2710 (?v2710) ?hi2710 ?hy2710 ?_
      case hi2710 => (simp only [gA, gS, gZ]; try rfl)
      case hy2710 => (refine Or.inl ⟨by rfl, ?_⟩; intro wq hSw; (try dsimp only at hSw); go_simp; (try with_reducible rfl))
      (try simp only [Act.put, pA, pZ, pS])
      refine wpAnyT_ready (rs := [10]) (by kernel_rfl) (by simp) ?_
      refine AllReadyT.cons (o := ?oi2711) ?hi2711 ?ti2711 AllReadyT.nil
      case hi2711 => (simp only [gA, gS, gZ]; try rfl)
      case ti2711 =>
       intro KQ hKQ
       go_simp
       refine hKQ.out _ _ (by simp [go_sem, ↓IntWalk.iteOmega, *]) (fun hHeld2 => ?_)
       clear hHeld hKQ KQ; have hHeld := hHeld2; clear hHeld2
       (try simp only [Act.put, pA, pZ, pS])
       refine tkT 11 ?oi2712 (?v2712) ?hi2712 ?hy2712 ?_
       case hi2712 => (simp only [gA, gS, gZ]; try rfl)
       case hy2712 => (refine Or.inl ⟨by rfl, ?_⟩; intro wq hSw; (try dsimp only at hSw); go_simp; (try with_reducible rfl))
       (try simp only [Act.put, pA, pZ, pS])
       refine tkT 12 ?oi2713 (?v2713) ?hi2713 ?hy2713 ?_
       case hi2713 => (simp only [gA, gS, gZ]; try rfl)
       case hy2713 => (refine Or.inl ⟨by rfl, ?_⟩; intro wq hSw; (try dsimp only at hSw); go_simp; (try with_reducible rfl))
       (try simp only [Act.put, pA, pZ, pS])
       refine wpAnyT_ready (rs := [13]) (by kernel_rfl) (by simp) ?_
       refine AllReadyT.last (o := ?oi2714) ?hi2714 ?ti2714
       case hi2714 => (simp only [gA, gS, gZ]; try rfl)
       case ti2714 =>
        intro KQ hKQ
        go_simp
        refine hKQ.out _ _ ?_
        clear hKQ KQ hHeld
        (try simp only [Act.put, pA, pZ, pS])
        refine wpAnyT_done (by kernel_rfl) ?_ _
        have hxr : x.r = t1.r := HS.out.lr
        have he0 := set_heap HTB5.out 0 (pt (W5.heap.size + 1 + 1))
        have hsz := set_size W5 tb 0 (pt (W5.heap.size + 1 + 1))
        have hM0 := mut_tb (tb := tb) (S := [tb]) (o := 0) (u := pt (W5.heap.size + 1 + 1)) (HM5.out.of_sub (T := [tb]) (by simp) (fun b hb => by
         simp at hb; subst hb
         exact ⟨HPS.out.hbt, fun c ty f e => by rw [HTB4.out] at e; simp at e; exact .inr (.inr (.inr e.2.1.symm))⟩)) (by simp)
        obtain ⟨B0, hB0⟩ : ∃ B0, W5.setCell ⟨tb, 0, none⟩ (pt (W5.heap.size + 1 + 1)) = B0 := ⟨_, rfl⟩
        have hB0' : W5.setCell ⟨tb, 0, none⟩ (Value.pointer (some ⟨W5.heap.size + 1 + 1, 0, none⟩)) = B0 := hB0
        rw [hB0] at he0 hsz hM0
        rw [hB0']
        rw [← hxr]
        have hE6 : Ext B0 ((((B0.alloc (.cells #[.slice q.A q.n q.c, .int .i64 q.id] TP)).alloc (.cells #[pt x.r, pt y.r] TQ)).alloc (.cells #[.slice (some ⟨W5.heap.size, 0, none⟩) 1 1, .slice (some ⟨W5.heap.size + 1, 0, none⟩) 2 2] TN)).drew) := Ext.dr (Ext.al (Ext.al (Ext.al (Ext.refl' _) _) _) _)
        have g1 := al_at (w := B0) (o := (.cells #[.slice q.A q.n q.c, .int .i64 q.id] TP)) (W := ((((B0.alloc (.cells #[.slice q.A q.n q.c, .int .i64 q.id] TP)).alloc (.cells #[pt x.r, pt y.r] TQ)).alloc (.cells #[.slice (some ⟨W5.heap.size, 0, none⟩) 1 1, .slice (some ⟨W5.heap.size + 1, 0, none⟩) 2 2] TN)).drew)) (Ext.dr (Ext.al (Ext.al (Ext.refl' _) _) _))
        have g2 := al_at (w := B0.alloc (.cells #[.slice q.A q.n q.c, .int .i64 q.id] TP)) (o := (.cells #[pt x.r, pt y.r] TQ)) (W := ((((B0.alloc (.cells #[.slice q.A q.n q.c, .int .i64 q.id] TP)).alloc (.cells #[pt x.r, pt y.r] TQ)).alloc (.cells #[.slice (some ⟨W5.heap.size, 0, none⟩) 1 1, .slice (some ⟨W5.heap.size + 1, 0, none⟩) 2 2] TN)).drew)) (Ext.dr (Ext.al (Ext.refl' _) _))
        have g3 := al_at (w := (B0.alloc (.cells #[.slice q.A q.n q.c, .int .i64 q.id] TP)).alloc (.cells #[pt x.r, pt y.r] TQ)) (o := (.cells #[.slice (some ⟨W5.heap.size, 0, none⟩) 1 1, .slice (some ⟨W5.heap.size + 1, 0, none⟩) 2 2] TN)) (W := ((((B0.alloc (.cells #[.slice q.A q.n q.c, .int .i64 q.id] TP)).alloc (.cells #[pt x.r, pt y.r] TQ)).alloc (.cells #[.slice (some ⟨W5.heap.size, 0, none⟩) 1 1, .slice (some ⟨W5.heap.size + 1, 0, none⟩) 2 2] TN)).drew)) (Ext.dr (Ext.refl' _))
        rw [show ((B0.alloc (.cells #[.slice q.A q.n q.c, .int .i64 q.id] TP)).alloc (.cells #[pt x.r, pt y.r] TQ)).heap.size = W5.heap.size + 1 + 1 by simp [hsz]] at g3
        rw [show (B0.alloc (.cells #[.slice q.A q.n q.c, .int .i64 q.id] TP)).heap.size = W5.heap.size + 1 by simp [hsz]] at g2
        rw [hsz] at g1
        have g0 := hE6.at he0
        have hM6 := hM0.step (T := []) hE6.os hE6.tape hE6.output hE6.size (fun b hb _ => hE6.block b hb) (by simp)
        generalize ((((B0.alloc (.cells #[.slice q.A q.n q.c, .int .i64 q.id] TP)).alloc (.cells #[pt x.r, pt y.r] TQ)).alloc (.cells #[.slice (some ⟨W5.heap.size, 0, none⟩) 1 1, .slice (some ⟨W5.heap.size + 1, 0, none⟩) 2 2] TN)).drew) = W6 at g0 g1 g2 g3 hM6 ⊢
        have G0 := Lib.hid g0
        have G1 := Lib.hid g1
        have G2 := Lib.hid g2
        have G3 := Lib.hid g3
        have HM6 := Lib.hid hM6
        obtain ⟨rb, c0, c1', c2, f0, f1, f2⟩ := three_cells g0
        clear g0 g1 g2 g3 hM6 hE6 hM0 he0 hsz hB0' hB0
        go_wp2
        go_ret
        have htl5 := (Array.getElem?_eq_some_iff.1 HTB5.out).1
        have hbu' := HBU.out
        have e0 := set_heap G0.out 2 (.int .i64 ((l.length : Int) + 1))
        have hfin := HPS.out.fin2 (rb := W5.heap.size + 1 + 1) (b1 := W5.heap.size) (b2 := W5.heap.size + 1) (HU.out.trans (Upd.refl HU.out.good HU.out.nodup (show Ext w3 (w3.drewN nq) from ex_))) HI.out HWF.out hm HS.out HQ.out (by rw [HNK.out]; exact HMD.out) (by rw [HNK.out]; have := HNM.out; omega) (by omega) (by omega) (by omega) (by omega) (by omega) (by omega) e0 ((set_other (by omega)).trans G1.out) ((set_other (by omega)).trans G2.out) ((set_other (by omega)).trans G3.out) (mut_tb (tb := tb) (S := [tb]) HM6.out (by simp))
        obtain ⟨l', F', h1, h2, h3, h4⟩ := hfin
        exact ⟨true, l', F', rfl, h1, h2, h3, .inr ⟨rfl, HNO.out, (⟨A1, K.length, c1, K, id⟩ : MP), rfl, HFL.out ▸ h4⟩⟩
    case ri2708 =>
     refine AllReadyT.cons (o := ?oi2715) ?hi2715 ?ti2715 AllReadyT.nil
     case hi2715 => (simp only [gA, gS, gZ]; try rfl)
     case ti2715 =>
      intro KQ hKQ
      go_simp
      refine hKQ.out _ _ (by simp [go_sem, ↓IntWalk.iteOmega, *]) (fun hHeld2 => ?_)
      clear hHeld hKQ KQ; have hHeld := hHeld2; clear hHeld2
      (try simp only [Act.put, pA, pZ, pS])
      refine wpAnyT_ready (rs := [2]) (by kernel_rfl) (by simp) ?_
      refine AllReadyT.cons (o := ?oi2716) ?hi2716 ?ti2716 AllReadyT.nil
      case hi2716 => (simp only [gA, gS, gZ]; try rfl)
      case ti2716 =>
       intro KQ hKQ
       go_simp
       refine hKQ.out _ _ (by simp [go_sem, ↓IntWalk.iteOmega, *]) (fun hHeld2 => ?_)
       clear hHeld hKQ KQ; have hHeld := hHeld2; clear hHeld2
       (try simp only [Act.put, pA, pZ, pS])
       refine tkT 9 ?oi2717 (?v2717) ?hi2717 ?hy2717 ?_
       case hi2717 => (simp only [gA, gS, gZ]; try rfl)
       case hy2717 => (refine Or.inl ⟨by rfl, ?_⟩; intro wq hSw; (try dsimp only at hSw); go_simp; (try with_reducible rfl))
       (try simp only [Act.put, pA, pZ, pS])
       refine wpAnyT_ready (rs := [10]) (by kernel_rfl) (by simp) ?_
       refine AllReadyT.cons (o := ?oi2718) ?hi2718 ?ti2718 AllReadyT.nil
       case hi2718 => (simp only [gA, gS, gZ]; try rfl)
       case ti2718 =>
        intro KQ hKQ
        go_simp
        refine hKQ.out _ _ (by simp [go_sem, ↓IntWalk.iteOmega, *]) (fun hHeld2 => ?_)
        clear hHeld hKQ KQ; have hHeld := hHeld2; clear hHeld2
        (try simp only [Act.put, pA, pZ, pS])
        refine tkT 11 ?oi2719 (?v2719) ?hi2719 ?hy2719 ?_
        case hi2719 => (simp only [gA, gS, gZ]; try rfl)
        case hy2719 => (refine Or.inl ⟨by rfl, ?_⟩; intro wq hSw; (try dsimp only at hSw); go_simp; (try with_reducible rfl))
        (try simp only [Act.put, pA, pZ, pS])
        refine tkT 12 ?oi2720 (?v2720) ?hi2720 ?hy2720 ?_
        case hi2720 => (simp only [gA, gS, gZ]; try rfl)
        case hy2720 => (refine Or.inl ⟨by rfl, ?_⟩; intro wq hSw; (try dsimp only at hSw); go_simp; (try with_reducible rfl))
        (try simp only [Act.put, pA, pZ, pS])
        refine wpAnyT_ready (rs := [13]) (by kernel_rfl) (by simp) ?_
        refine AllReadyT.last (o := ?oi2721) ?hi2721 ?ti2721
        case hi2721 => (simp only [gA, gS, gZ]; try rfl)
        case ti2721 =>
         intro KQ hKQ
         go_simp
         refine hKQ.out _ _ ?_
         clear hKQ KQ hHeld
         (try simp only [Act.put, pA, pZ, pS])
         refine wpAnyT_done (by kernel_rfl) ?_ _
         have hxr : x.r = t1.r := HS.out.lr
         have he0 := set_heap HTB5.out 0 (pt (W5.heap.size + 1 + 1))
         have hsz := set_size W5 tb 0 (pt (W5.heap.size + 1 + 1))
         have hM0 := mut_tb (tb := tb) (S := [tb]) (o := 0) (u := pt (W5.heap.size + 1 + 1)) (HM5.out.of_sub (T := [tb]) (by simp) (fun b hb => by
          simp at hb; subst hb
          exact ⟨HPS.out.hbt, fun c ty f e => by rw [HTB4.out] at e; simp at e; exact .inr (.inr (.inr e.2.1.symm))⟩)) (by simp)
         obtain ⟨B0, hB0⟩ : ∃ B0, W5.setCell ⟨tb, 0, none⟩ (pt (W5.heap.size + 1 + 1)) = B0 := ⟨_, rfl⟩
         have hB0' : W5.setCell ⟨tb, 0, none⟩ (Value.pointer (some ⟨W5.heap.size + 1 + 1, 0, none⟩)) = B0 := hB0
         rw [hB0] at he0 hsz hM0
         rw [hB0']
         rw [← hxr]
         have hE6 : Ext B0 ((((B0.alloc (.cells #[pt x.r, pt y.r] TQ)).alloc (.cells #[.slice q.A q.n q.c, .int .i64 q.id] TP)).alloc (.cells #[.slice (some ⟨W5.heap.size + 1, 0, none⟩) 1 1, .slice (some ⟨W5.heap.size, 0, none⟩) 2 2] TN)).drew) := Ext.dr (Ext.al (Ext.al (Ext.al (Ext.refl' _) _) _) _)
         have g1 := al_at (w := B0) (o := (.cells #[pt x.r, pt y.r] TQ)) (W := ((((B0.alloc (.cells #[pt x.r, pt y.r] TQ)).alloc (.cells #[.slice q.A q.n q.c, .int .i64 q.id] TP)).alloc (.cells #[.slice (some ⟨W5.heap.size + 1, 0, none⟩) 1 1, .slice (some ⟨W5.heap.size, 0, none⟩) 2 2] TN)).drew)) (Ext.dr (Ext.al (Ext.al (Ext.refl' _) _) _))
         have g2 := al_at (w := B0.alloc (.cells #[pt x.r, pt y.r] TQ)) (o := (.cells #[.slice q.A q.n q.c, .int .i64 q.id] TP)) (W := ((((B0.alloc (.cells #[pt x.r, pt y.r] TQ)).alloc (.cells #[.slice q.A q.n q.c, .int .i64 q.id] TP)).alloc (.cells #[.slice (some ⟨W5.heap.size + 1, 0, none⟩) 1 1, .slice (some ⟨W5.heap.size, 0, none⟩) 2 2] TN)).drew)) (Ext.dr (Ext.al (Ext.refl' _) _))
         have g3 := al_at (w := (B0.alloc (.cells #[pt x.r, pt y.r] TQ)).alloc (.cells #[.slice q.A q.n q.c, .int .i64 q.id] TP)) (o := (.cells #[.slice (some ⟨W5.heap.size + 1, 0, none⟩) 1 1, .slice (some ⟨W5.heap.size, 0, none⟩) 2 2] TN)) (W := ((((B0.alloc (.cells #[pt x.r, pt y.r] TQ)).alloc (.cells #[.slice q.A q.n q.c, .int .i64 q.id] TP)).alloc (.cells #[.slice (some ⟨W5.heap.size + 1, 0, none⟩) 1 1, .slice (some ⟨W5.heap.size, 0, none⟩) 2 2] TN)).drew)) (Ext.dr (Ext.refl' _))
         rw [show ((B0.alloc (.cells #[pt x.r, pt y.r] TQ)).alloc (.cells #[.slice q.A q.n q.c, .int .i64 q.id] TP)).heap.size = W5.heap.size + 1 + 1 by simp [hsz]] at g3
         rw [show (B0.alloc (.cells #[pt x.r, pt y.r] TQ)).heap.size = W5.heap.size + 1 by simp [hsz]] at g2
         rw [hsz] at g1
         have g0 := hE6.at he0
         have hM6 := hM0.step (T := []) hE6.os hE6.tape hE6.output hE6.size (fun b hb _ => hE6.block b hb) (by simp)
         generalize ((((B0.alloc (.cells #[pt x.r, pt y.r] TQ)).alloc (.cells #[.slice q.A q.n q.c, .int .i64 q.id] TP)).alloc (.cells #[.slice (some ⟨W5.heap.size + 1, 0, none⟩) 1 1, .slice (some ⟨W5.heap.size, 0, none⟩) 2 2] TN)).drew) = W6 at g0 g1 g2 g3 hM6 ⊢
         have G0 := Lib.hid g0
         have G1 := Lib.hid g1
         have G2 := Lib.hid g2
         have G3 := Lib.hid g3
         have HM6 := Lib.hid hM6
         obtain ⟨rb, c0, c1', c2, f0, f1, f2⟩ := three_cells g0
         clear g0 g1 g2 g3 hM6 hE6 hM0 he0 hsz hB0' hB0
         go_wp2
         go_ret
         have htl5 := (Array.getElem?_eq_some_iff.1 HTB5.out).1
         have hbu' := HBU.out
         have e0 := set_heap G0.out 2 (.int .i64 ((l.length : Int) + 1))
         have hfin := HPS.out.fin2 (rb := W5.heap.size + 1 + 1) (b1 := W5.heap.size + 1) (b2 := W5.heap.size) (HU.out.trans (Upd.refl HU.out.good HU.out.nodup (show Ext w3 (w3.drewN nq) from ex_))) HI.out HWF.out hm HS.out HQ.out (by rw [HNK.out]; exact HMD.out) (by rw [HNK.out]; have := HNM.out; omega) (by omega) (by omega) (by omega) (by omega) (by omega) (by omega) e0 ((set_other (by omega)).trans G2.out) ((set_other (by omega)).trans G1.out) ((set_other (by omega)).trans G3.out) (mut_tb (tb := tb) (S := [tb]) HM6.out (by simp))
         obtain ⟨l', F', h1, h2, h3, h4⟩ := hfin
         exact ⟨true, l', F', rfl, h1, h2, h3, .inr ⟨rfl, HNO.out, (⟨A1, K.length, c1, K, id⟩ : MP), rfl, HFL.out ▸ h4⟩⟩
   ·
    have hgtz : ¬ ((m : Int) < (nk : Int)) := by omega
    have HLE : Hid (t1.ps.length ≤ m) := Lib.hid (by have := HNK.out; omega)
    go_wp2
    go_quiet (fail)
    go_wp2
    go_ret
    have hfin := HPS.out.fin (W' := (w3.setCell ⟨tb, 2, none⟩ (.int .i64 ((l.length : Int) + 1))).drewN nq) HU.out HI.out HWF.out HLE.out (ex_)
    exact ⟨true, _, _, rfl, hfin.1, hfin.2.1, hfin.2.2, .inr ⟨rfl, HNO.out, (⟨A1, K.length, c1, K, id⟩ : MP), rfl, HFL.out ▸ HI.out⟩⟩
 ·
  have HHA : Hid (∀ W, Ext w1 W → Calls Tryz.prog 47 #[pt tb, pv (⟨A1, K.length, c1, K, id⟩ : MP)] W fun e w' => ∃ b : Bool, (b = true ↔ ∃ q ∈ flat d t, q.kp = (K, id)) ∧ e = .returned (.bool b) ∧ Ext W w') := Lib.hid fun W hE => has_any base m tb d _ _ t (⟨A1, K.length, c1, K, id⟩ : MP) W hm hm2 ((hE1.tr hE).at h0) (hG.ext (hE1.tr hE)) hW (hfl ▸ HT.out.srt) (fun q hq => (HT.out.key q (hfl ▸ hq)).ext (hE1.tr hE)) (HKP.out.kr.ext hE)
  go_wp2_with fail
  refine Calls.mono (HHA.out _ (ex_)) ?_
  rintro e w2 ⟨b, hbi, rfl, hb2⟩
  have hE2 : Ext w1 w2 := (Ext.al1 _ _).tr hb2
  have hbk := al_at hb2
  obtain ⟨_, z0, z1, _, _⟩ := two_cells hbk
  have htb2 := (hE1.tr hE2).at h0
  obtain ⟨rb, c0, c1', c2, f0, f1, f2⟩ := three_cells htb2
  obtain ⟨bx, hbx⟩ : ∃ bx, w1.heap.size = bx := ⟨_, rfl⟩
  rw [hbx] at hbk z0 z1 ⊢
  have hbl := (Array.getElem?_eq_some_iff.1 hbk).1
  have hbt : tb < bx := by have := hE1.size; omega
  rw [hfl] at hbi
  have HBI := Lib.hid hbi
  cases b with
  | true =>
   have hE12 := hE1.tr hE2
   clear hbk htb2 hb2 HHA h0 hbi
   go_wp2
   go_ret
   exact ⟨false, l, F, rfl, HT.out.ext (ex_), Mut.start' HT.out (ex_), fun x hx => .inl hx, .inl ⟨rfl, by simpa using HBI.out, rfl⟩⟩
  | false =>
   have hno : ¬ ∃ q ∈ l, q.kp = (K, id) := fun h => by have := HBI.out.2 h; cases this
   have HNO := Lib.hid hno
   have HPS : Hid (PutS base tb m w w2 l F (⟨A1, K.length, c1, K, id⟩ : MP) d 1 t) := Lib.hid ⟨Nat.le_trans HB.out (hE1.tr hE2).size, htb2, hG.ext (hE1.tr hE2), hND, by rw [← hF]; exact HT.out.nF, hW, .inl rfl, hfl ▸ HT.out.srt, fun q hq => (HT.out.key q (hfl ▸ hq)).ext (hE1.tr hE2), HKP.out.ext hE2, fun q hq e => hno ⟨q, hfl ▸ hq, e⟩, hfl, Mut.start' HT.out (hE1.tr hE2), fun x hx => .inl (by rw [hF]; exact hx), hll, HT.out.hb⟩
   have HPU := Lib.hid (PutS.put hm hm2 HPS.out)
   have HFL := Lib.hid hfl
   clear hbk htb2 hb2 HHA h0 hbi hno hG hND hW hfl hF
   go_wp2
   refine wp_region_T 6 (S := (fun w' => w'.cell? ⟨tb, 0, none⟩ = some (pt t.r) ∧ w'.cell? ⟨bx, 0, none⟩ = some (.slice A1 K.length c1) ∧ w'.cell? ⟨bx, 1, none⟩ = some (.int .i64 id))) (by kernel_rfl) (by simp [go_sem, ↓IntWalk.iteOmega, *]) (fun hHeld => ?_)
   refine tkT 0 ?oi501 (?v501) ?hi501 ?hy501 ?_
   case hi501 => (simp only [gA, gS, gZ]; try rfl)
   case hy501 => (refine Or.inl ⟨by rfl, ?_⟩; intro wq hSw; (try dsimp only at hSw); go_simp; (try with_reducible rfl))
   (try simp only [Act.put, pA, pZ, pS])
   refine tkT 1 ?oi502 (?v502) ?hi502 ?hy502 ?_
   case hi502 => (simp only [gA, gS, gZ]; try rfl)
   case hy502 => (refine Or.inl ⟨by rfl, ?_⟩; intro wq hSw; (try dsimp only at hSw); go_simp; (try with_reducible rfl))
   (try simp only [Act.put, pA, pZ, pS])
   refine tkT 2 ?oi503 (?v503) ?hi503 ?hy503 ?_
   case hi503 => (simp only [gA, gS, gZ]; try rfl)
   case hy503 => (refine Or.inl ⟨by rfl, ?_⟩; intro wq hSw; (try dsimp only at hSw); go_simp; (try with_reducible rfl))
   (try simp only [Act.put, pA, pZ, pS])
   refine tkT 3 ?oi504 (?v504) ?hi504 ?hy504 ?_
   case hi504 => (simp only [gA, gS, gZ]; try rfl)
   case hy504 => (refine Or.inl ⟨by rfl, ?_⟩; intro wq hSw; (try dsimp only at hSw); go_simp; (try with_reducible rfl))
   (try simp only [Act.put, pA, pZ, pS])
   refine tkT 4 ?oi505 (?v505) ?hi505 ?hy505 ?_
   case hi505 => (simp only [gA, gS, gZ]; try rfl)
   case hy505 => (refine Or.inl ⟨by rfl, ?_⟩; intro wq hSw; (try dsimp only at hSw); go_simp; (try with_reducible rfl))
   (try simp only [Act.put, pA, pZ, pS])
   refine tkT 5 ?oi506 (?v506) ?hi506 ?hy506 ?_
   case hi506 => (simp only [gA, gS, gZ]; try rfl)
   case hy506 => (refine Or.inl ⟨by rfl, ?_⟩; intro wq hSw; (try dsimp only at hSw); go_simp; (try with_reducible rfl))
   (try simp only [Act.put, pA, pZ, pS])
   refine wpAnyT_ready (rs := [6]) (by kernel_rfl) (by simp) ?_
   refine AllReadyT.last (o := ?oi507) ?hi507 ?ti507
   case hi507 => (simp only [gA, gS, gZ]; try rfl)
   case ti507 =>
    intro KQ hKQ
    go_simp
    go_at_call 48
    refine Calls.mono (HPU.out _ (ex_)) ?_
    rintro e w3 ⟨rfl, t1, hU, hI, hWf⟩
    refine hKQ.out _ _ ?_
    clear hKQ KQ hHeld
    (try simp only [Act.put, pA, pZ, pS])
    refine wpAnyT_done (by kernel_rfl) ?_ _
    have hU := Upd.pre HPS.out.good HPS.out.nd (ex_) hU
    have htb3 := hU.tur.block HPS.out.htb HPS.out.tn
    obtain ⟨Ak, ck, hkv, _, _, _⟩ := own_form2 hU.good.node.op
    have hkp := hU.good.node.hp
    have hr1 := hU.r
    rw [hkv] at hkp
    rw [← hr1] at htb3
    obtain ⟨nk, hnk⟩ : ∃ nk, t1.ps.length = nk := ⟨_, rfl⟩
    have hwl := (wf_iff.1 hWf).2.2
    rw [hnk] at hkp hwl
    have HNK := Lib.hid hnk
    have HU := Lib.hid hU
    have HI := Lib.hid hI
    have HWF := Lib.hid hWf
    have HTB3 := Lib.hid htb3
    clear c0 z0 z1 hbx
    obtain ⟨rb, c0, c1', c2, f0, f1, f2⟩ := three_cells htb3
    obtain ⟨rk, k0, _, _, _⟩ := two_cells hkp
    have hwll : IntKind.i64.wrap ((l.length : Int) + 1) = (l.length : Int) + 1 := IntWalk.i64_in _ (by omega)
    clear hU hI hWf htb3 hkp hkv hnk hr1
    by_cases hgt : m < nk
    ·
     have hgtz : (m : Int) < (nk : Int) := by omega
     have hnm : nk = m + 1 := by omega
     obtain ⟨md, hmd⟩ : ∃ md, nk / 2 = md := ⟨_, rfl⟩
     obtain ⟨q, hq⟩ : ∃ q, t1.ps[md]? = some q := ⟨_, List.getElem?_eq_getElem (by have := HNK.out; omega)⟩
     have HQ := Lib.hid hq
     have HSP : Hid (∀ W, Ext w3 W → Calls Tryz.prog 49 #[pt t1.r] W fun e w' => ∃ l r : MT, e = .returned (.tuple #[pv q, pt r.r]) ∧ SplitR base W w' t1 l r md) := Lib.hid fun W hE =>
      split_any base t1 md q W (Nat.le_trans HPS.out.hb (Nat.le_trans HU.out.tur.size hE.size)) (HU.out.good.node.same fun b hb => hE.block b (HU.out.good.node.old b hb).2.1) (by have := HNK.out; omega) (by have := HNK.out; omega) (by rw [HNK.out]; exact hmd) HQ.out (by
       have h := (wf_iff.1 HWF.out).1
       cases d with
       | zero => exact .inl h
       | succ d => exact .inr h.1) (List.Nodup.sublist (by cases d; exact List.Sublist.refl _; exact List.sublist_append_left _ _) HU.out.nodup)
     have HMD := Lib.hid hmd
     have HNM := Lib.hid hnm
     clear hq hmd hnm
     go_wp2
     go_quiet (fail)
     go_wp2_with fail
     refine Calls.mono (HSP.out _ (ex_)) ?_
     rintro e w4 ⟨x, y, rfl, hS⟩
     have htn1 : tb ∉ t1.own := fun e => by
      rcases HU.out.new tb (own_sub tb e) with h | h
      ·
       exact HPS.out.tn h
      ·
       have := (Array.getElem?_eq_some_iff.1 HPS.out.htb).1; omega
     have htb4 := hS.tur.block (HTB3.out : (w3.drewN nq).heap[tb]? = _) htn1
     have HS := Lib.hid hS
     have HTB4 := Lib.hid htb4
     clear hS HSP c0 c1' c2 f0 f1 f2 rb k0 rk htn1
     go_wp2
     have htb5 : (w4.alloc (.cells #[.slice q.A q.n q.c, .int .i64 q.id] TP)).heap[tb]? = _ := (Ext.al1 _ _ : Ext w4 _).at htb4
     have hbu5 := heap_alloc_new w4 (.cells #[.slice q.A q.n q.c, .int .i64 q.id] TP)
     have hM5 : Mut base [] w4 (w4.alloc (.cells #[.slice q.A q.n q.c, .int .i64 q.id] TP)) := Mut.ofExt (Ext.al1 _ _)
     obtain ⟨bu, hbu⟩ : ∃ bu, w4.heap.size = bu := ⟨_, rfl⟩
     rw [hbu] at hbu5 ⊢
     have HBU := Lib.hid hbu
     obtain ⟨ru, u0, u1, _, _⟩ := two_cells hbu5
     generalize w4.alloc (.cells #[.slice q.A q.n q.c, .int .i64 q.id] TP) = W5 at htb5 hbu5 hM5 u0 u1 ru ⊢
     obtain ⟨rb, c0, c1', c2, f0, f1, f2⟩ := three_cells htb5
     have HTB5 := Lib.hid htb5
     have HM5 := Lib.hid hM5
     clear htb4 htb5 hbu5 hM5 hbu
     refine wp_region_T 13 (S := (fun w' => w'.cell? ⟨tb, 0, none⟩ = some (pt t1.r) ∧ w'.cell? ⟨bu, 0, none⟩ = some (.slice q.A q.n q.c) ∧ w'.cell? ⟨bu, 1, none⟩ = some (.int .i64 q.id))) (by kernel_rfl) (by simp [go_sem, ↓IntWalk.iteOmega, *]) (fun hHeld => ?_)
     refine tkT 0 ?oi701 (?v701) ?hi701 ?hy701 ?_
     case hi701 => (simp only [gA, gS, gZ]; try rfl)
     case hy701 => (refine Or.inl ⟨by rfl, ?_⟩; intro wq hSw; (try dsimp only at hSw); go_simp; (try with_reducible rfl))
     (try simp only [Act.put, pA, pZ, pS])
     refine tkT 1 ?oi702 (?v702) ?hi702 ?hy702 ?_
     case hi702 => (simp only [gA, gS, gZ]; try rfl)
     case hy702 => (refine Or.inl ⟨by rfl, ?_⟩; intro wq hSw; (try dsimp only at hSw); go_simp; (try with_reducible rfl))
     (try simp only [Act.put, pA, pZ, pS])
     refine tkT 3 ?oi703 (?v703) ?hi703 ?hy703 ?_
     case hi703 => (simp only [gA, gS, gZ]; try rfl)
     case hy703 => (refine Or.inl ⟨by rfl, ?_⟩; intro wq hSw; (try dsimp only at hSw); go_simp; (try with_reducible rfl))
     (try simp only [Act.put, pA, pZ, pS])
     refine tkT 4 ?oi704 (?v704) ?hi704 ?hy704 ?_
     case hi704 => (simp only [gA, gS, gZ]; try rfl)
     case hy704 => (refine Or.inl ⟨by rfl, ?_⟩; intro wq hSw; (try dsimp only at hSw); go_simp; (try with_reducible rfl))
     (try simp only [Act.put, pA, pZ, pS])
     refine tkT 5 ?oi705 (?v705) ?hi705 ?hy705 ?_
     case hi705 => (simp only [gA, gS, gZ]; try rfl)
     case hy705 => (refine Or.inl ⟨by rfl, ?_⟩; intro wq hSw; (try dsimp only at hSw); go_simp; (try with_reducible rfl))
     (try simp only [Act.put, pA, pZ, pS])
     refine tkT 6 ?oi706 (?v706) ?hi706 ?hy706 ?_
     case hi706 => (simp only [gA, gS, gZ]; try rfl)
     case hy706 => (refine Or.inl ⟨by rfl, ?_⟩; intro wq hSw; (try dsimp only at hSw); go_simp; (try with_reducible rfl))
     (try simp only [Act.put, pA, pZ, pS])
     refine tkT 7 ?oi707 (?v707) ?hi707 ?hy707 ?_
     case hi707 => (simp only [gA, gS, gZ]; try rfl)
     case hy707 => (refine Or.inl ⟨by rfl, ?_⟩; intro wq hSw; (try dsimp only at hSw); go_simp; (try with_reducible rfl))
     (try simp only [Act.put, pA, pZ, pS])
     refine wpAnyT_ready (rs := [2, 8]) (by kernel_rfl) (by simp) ?_
     refine AllReadyT.cons (o := ?oi708) ?hi708 ?ti708 ?ri708
     case hi708 => (simp only [gA, gS, gZ]; try rfl)
     case ti708 =>
      intro KQ hKQ
      go_simp
      refine hKQ.out _ _ (by simp [go_sem, ↓IntWalk.iteOmega, *]) (fun hHeld2 => ?_)
      clear hHeld hKQ KQ; have hHeld := hHeld2; clear hHeld2
      (try simp only [Act.put, pA, pZ, pS])
      refine wpAnyT_ready (rs := [8]) (by kernel_rfl) (by simp) ?_
      refine AllReadyT.cons (o := ?oi709) ?hi709 ?ti709 AllReadyT.nil
      case hi709 => (simp only [gA, gS, gZ]; try rfl)
      case ti709 =>
       intro KQ hKQ
       go_simp
       refine hKQ.out _ _ (by simp [go_sem, ↓IntWalk.iteOmega, *]) (fun hHeld2 => ?_)
       clear hHeld hKQ KQ; have hHeld := hHeld2; clear hHeld2
       (try simp only [Act.put, pA, pZ, pS])
       refine tkT 9 ?oi710 (?v710) ?hi710 ?hy710 ?_
       case hi710 => (simp only [gA, gS, gZ]; try rfl)
       case hy710 => (refine Or.inl ⟨by rfl, ?_⟩; intro wq hSw; (try dsimp only at hSw); go_simp; (try with_reducible rfl))
       (try simp only [Act.put, pA, pZ, pS])
       refine wpAnyT_ready (rs := [10]) (by kernel_rfl) (by simp) ?_
       refine AllReadyT.cons (o := ?oi711) ?hi711 ?ti711 AllReadyT.nil
       case hi711 => (simp only [gA, gS, gZ]; try rfl)
       case ti711 =>
        intro KQ hKQ
        go_simp
        refine hKQ.out _ _ (by simp [go_sem, ↓IntWalk.iteOmega, *]) (fun hHeld2 => ?_)
        clear hHeld hKQ KQ; have hHeld := hHeld2; clear hHeld2
        (try simp only [Act.put, pA, pZ, pS])
        refine tkT 11 ?oi712 (?v712) ?hi712 ?hy712 ?_
        case hi712 => (simp only [gA, gS, gZ]; try rfl)
        case hy712 => (refine Or.inl ⟨by rfl, ?_⟩; intro wq hSw; (try dsimp only at hSw); go_simp; (try with_reducible rfl))
        (try simp only [Act.put, pA, pZ, pS])
        refine tkT 12 ?oi713 (?v713) ?hi713 ?hy713 ?_
        case hi713 => (simp only [gA, gS, gZ]; try rfl)
        case hy713 => (refine Or.inl ⟨by rfl, ?_⟩; intro wq hSw; (try dsimp only at hSw); go_simp; (try with_reducible rfl))
        (try simp only [Act.put, pA, pZ, pS])
        refine wpAnyT_ready (rs := [13]) (by kernel_rfl) (by simp) ?_
        refine AllReadyT.last (o := ?oi714) ?hi714 ?ti714
        case hi714 => (simp only [gA, gS, gZ]; try rfl)
        case ti714 =>
         intro KQ hKQ
         go_simp
         refine hKQ.out _ _ ?_
         clear hKQ KQ hHeld
         (try simp only [Act.put, pA, pZ, pS])
         refine wpAnyT_done (by kernel_rfl) ?_ _
         have hxr : x.r = t1.r := HS.out.lr
         have he0 := set_heap HTB5.out 0 (pt (W5.heap.size + 1 + 1))
         have hsz := set_size W5 tb 0 (pt (W5.heap.size + 1 + 1))
         have hM0 := mut_tb (tb := tb) (S := [tb]) (o := 0) (u := pt (W5.heap.size + 1 + 1)) (HM5.out.of_sub (T := [tb]) (by simp) (fun b hb => by
          simp at hb; subst hb
          exact ⟨HPS.out.hbt, fun c ty f e => by rw [HTB4.out] at e; simp at e; exact .inr (.inr (.inr e.2.1.symm))⟩)) (by simp)
         obtain ⟨B0, hB0⟩ : ∃ B0, W5.setCell ⟨tb, 0, none⟩ (pt (W5.heap.size + 1 + 1)) = B0 := ⟨_, rfl⟩
         have hB0' : W5.setCell ⟨tb, 0, none⟩ (Value.pointer (some ⟨W5.heap.size + 1 + 1, 0, none⟩)) = B0 := hB0
         rw [hB0] at he0 hsz hM0
         rw [hB0']
         rw [← hxr]
         have hE6 : Ext B0 ((((B0.alloc (.cells #[.slice q.A q.n q.c, .int .i64 q.id] TP)).alloc (.cells #[pt x.r, pt y.r] TQ)).alloc (.cells #[.slice (some ⟨W5.heap.size, 0, none⟩) 1 1, .slice (some ⟨W5.heap.size + 1, 0, none⟩) 2 2] TN)).drew) := Ext.dr (Ext.al (Ext.al (Ext.al (Ext.refl' _) _) _) _)
         have g1 := al_at (w := B0) (o := (.cells #[.slice q.A q.n q.c, .int .i64 q.id] TP)) (W := ((((B0.alloc (.cells #[.slice q.A q.n q.c, .int .i64 q.id] TP)).alloc (.cells #[pt x.r, pt y.r] TQ)).alloc (.cells #[.slice (some ⟨W5.heap.size, 0, none⟩) 1 1, .slice (some ⟨W5.heap.size + 1, 0, none⟩) 2 2] TN)).drew)) (Ext.dr (Ext.al (Ext.al (Ext.refl' _) _) _))
         have g2 := al_at (w := B0.alloc (.cells #[.slice q.A q.n q.c, .int .i64 q.id] TP)) (o := (.cells #[pt x.r, pt y.r] TQ)) (W := ((((B0.alloc (.cells #[.slice q.A q.n q.c, .int .i64 q.id] TP)).alloc (.cells #[pt x.r, pt y.r] TQ)).alloc (.cells #[.slice (some ⟨W5.heap.size, 0, none⟩) 1 1, .slice (some ⟨W5.heap.size + 1, 0, none⟩) 2 2] TN)).drew)) (Ext.dr (Ext.al (Ext.refl' _) _))
         have g3 := al_at (w := (B0.alloc (.cells #[.slice q.A q.n q.c, .int .i64 q.id] TP)).alloc (.cells #[pt x.r, pt y.r] TQ)) (o := (.cells #[.slice (some ⟨W5.heap.size, 0, none⟩) 1 1, .slice (some ⟨W5.heap.size + 1, 0, none⟩) 2 2] TN)) (W := ((((B0.alloc (.cells #[.slice q.A q.n q.c, .int .i64 q.id] TP)).alloc (.cells #[pt x.r, pt y.r] TQ)).alloc (.cells #[.slice (some ⟨W5.heap.size, 0, none⟩) 1 1, .slice (some ⟨W5.heap.size + 1, 0, none⟩) 2 2] TN)).drew)) (Ext.dr (Ext.refl' _))
         rw [show ((B0.alloc (.cells #[.slice q.A q.n q.c, .int .i64 q.id] TP)).alloc (.cells #[pt x.r, pt y.r] TQ)).heap.size = W5.heap.size + 1 + 1 by simp [hsz]] at g3
         rw [show (B0.alloc (.cells #[.slice q.A q.n q.c, .int .i64 q.id] TP)).heap.size = W5.heap.size + 1 by simp [hsz]] at g2
         rw [hsz] at g1
         have g0 := hE6.at he0
         have hM6 := hM0.step (T := []) hE6.os hE6.tape hE6.output hE6.size (fun b hb _ => hE6.block b hb) (by simp)
         generalize ((((B0.alloc (.cells #[.slice q.A q.n q.c, .int .i64 q.id] TP)).alloc (.cells #[pt x.r, pt y.r] TQ)).alloc (.cells #[.slice (some ⟨W5.heap.size, 0, none⟩) 1 1, .slice (some ⟨W5.heap.size + 1, 0, none⟩) 2 2] TN)).drew) = W6 at g0 g1 g2 g3 hM6 ⊢
         have G0 := Lib.hid g0
         have G1 := Lib.hid g1
         have G2 := Lib.hid g2
         have G3 := Lib.hid g3
         have HM6 := Lib.hid hM6
         obtain ⟨rb, c0, c1', c2, f0, f1, f2⟩ := three_cells g0
         clear g0 g1 g2 g3 hM6 hE6 hM0 he0 hsz hB0' hB0
         go_wp2
         go_ret
         have htl5 := (Array.getElem?_eq_some_iff.1 HTB5.out).1
         have hbu' := HBU.out
         have e0 := set_heap G0.out 2 (.int .i64 ((l.length : Int) + 1))
         have hfin := HPS.out.fin2 (rb := W5.heap.size + 1 + 1) (b1 := W5.heap.size) (b2 := W5.heap.size + 1) (HU.out.trans (Upd.refl HU.out.good HU.out.nodup (show Ext w3 (w3.drewN nq) from ex_))) HI.out HWF.out hm HS.out HQ.out (by rw [HNK.out]; exact HMD.out) (by rw [HNK.out]; have := HNM.out; omega) (by omega) (by omega) (by omega) (by omega) (by omega) (by omega) e0 ((set_other (by omega)).trans G1.out) ((set_other (by omega)).trans G2.out) ((set_other (by omega)).trans G3.out) (mut_tb (tb := tb) (S := [tb]) HM6.out (by simp))
         obtain ⟨l', F', h1, h2, h3, h4⟩ := hfin
         exact ⟨true, l', F', rfl, h1, h2, h3, .inr ⟨rfl, HNO.out, (⟨A1, K.length, c1, K, id⟩ : MP), rfl, HFL.out ▸ h4⟩⟩
     case ri708 =>
      refine AllReadyT.cons (o := ?oi715) ?hi715 ?ti715 AllReadyT.nil
      case hi715 => (simp only [gA, gS, gZ]; try rfl)
      case ti715 =>
       intro KQ hKQ
       go_simp
       refine hKQ.out _ _ (by simp [go_sem, ↓IntWalk.iteOmega, *]) (fun hHeld2 => ?_)
       clear hHeld hKQ KQ; have hHeld := hHeld2; clear hHeld2
       (try simp only [Act.put, pA, pZ, pS])
       refine wpAnyT_ready (rs := [2]) (by kernel_rfl) (by simp) ?_
       refine AllReadyT.cons (o := ?oi716) ?hi716 ?ti716 AllReadyT.nil
       case hi716 => (simp only [gA, gS, gZ]; try rfl)
       case ti716 =>
        intro KQ hKQ
        go_simp
        refine hKQ.out _ _ (by simp [go_sem, ↓IntWalk.iteOmega, *]) (fun hHeld2 => ?_)
        clear hHeld hKQ KQ; have hHeld := hHeld2; clear hHeld2
        (try simp only [Act.put, pA, pZ, pS])
        refine tkT 9 ?oi717 (?v717) ?hi717 ?hy717 ?_
        case hi717 => (simp only [gA, gS, gZ]; try rfl)
        case hy717 => (refine Or.inl ⟨by rfl, ?_⟩; intro wq hSw; (try dsimp only at hSw); go_simp; (try with_reducible rfl))
        (try simp only [Act.put, pA, pZ, pS])
        refine wpAnyT_ready (rs := [10]) (by kernel_rfl) (by simp) ?_
        refine AllReadyT.cons (o := ?oi718) ?hi718 ?ti718 AllReadyT.nil
        case hi718 => (simp only [gA, gS, gZ]; try rfl)
        case ti718 =>
         intro KQ hKQ
         go_simp
         refine hKQ.out _ _ (by simp [go_sem, ↓IntWalk.iteOmega, *]) (fun hHeld2 => ?_)
         clear hHeld hKQ KQ; have hHeld := hHeld2; clear hHeld2
         (try simp only [Act.put, pA, pZ, pS])
         refine tkT 11 ?oi719 (?v719) ?hi719 ?hy719 ?_
         case hi719 => (simp only [gA, gS, gZ]; try rfl)
         case hy719 => (refine Or.inl ⟨by rfl, ?_⟩; intro wq hSw; (try dsimp only at hSw); go_simp; (try with_reducible rfl))
         (try simp only [Act.put, pA, pZ, pS])
         refine tkT 12 ?oi720 (?v720) ?hi720 ?hy720 ?_
         case hi720 => (simp only [gA, gS, gZ]; try rfl)
         case hy720 => (refine Or.inl ⟨by rfl, ?_⟩; intro wq hSw; (try dsimp only at hSw); go_simp; (try with_reducible rfl))
         (try simp only [Act.put, pA, pZ, pS])
         refine wpAnyT_ready (rs := [13]) (by kernel_rfl) (by simp) ?_
         refine AllReadyT.last (o := ?oi721) ?hi721 ?ti721
         case hi721 => (simp only [gA, gS, gZ]; try rfl)
         case ti721 =>
          intro KQ hKQ
          go_simp
          refine hKQ.out _ _ ?_
          clear hKQ KQ hHeld
          (try simp only [Act.put, pA, pZ, pS])
          refine wpAnyT_done (by kernel_rfl) ?_ _
          have hxr : x.r = t1.r := HS.out.lr
          have he0 := set_heap HTB5.out 0 (pt (W5.heap.size + 1 + 1))
          have hsz := set_size W5 tb 0 (pt (W5.heap.size + 1 + 1))
          have hM0 := mut_tb (tb := tb) (S := [tb]) (o := 0) (u := pt (W5.heap.size + 1 + 1)) (HM5.out.of_sub (T := [tb]) (by simp) (fun b hb => by
           simp at hb; subst hb
           exact ⟨HPS.out.hbt, fun c ty f e => by rw [HTB4.out] at e; simp at e; exact .inr (.inr (.inr e.2.1.symm))⟩)) (by simp)
          obtain ⟨B0, hB0⟩ : ∃ B0, W5.setCell ⟨tb, 0, none⟩ (pt (W5.heap.size + 1 + 1)) = B0 := ⟨_, rfl⟩
          have hB0' : W5.setCell ⟨tb, 0, none⟩ (Value.pointer (some ⟨W5.heap.size + 1 + 1, 0, none⟩)) = B0 := hB0
          rw [hB0] at he0 hsz hM0
          rw [hB0']
          rw [← hxr]
          have hE6 : Ext B0 ((((B0.alloc (.cells #[pt x.r, pt y.r] TQ)).alloc (.cells #[.slice q.A q.n q.c, .int .i64 q.id] TP)).alloc (.cells #[.slice (some ⟨W5.heap.size + 1, 0, none⟩) 1 1, .slice (some ⟨W5.heap.size, 0, none⟩) 2 2] TN)).drew) := Ext.dr (Ext.al (Ext.al (Ext.al (Ext.refl' _) _) _) _)
          have g1 := al_at (w := B0) (o := (.cells #[pt x.r, pt y.r] TQ)) (W := ((((B0.alloc (.cells #[pt x.r, pt y.r] TQ)).alloc (.cells #[.slice q.A q.n q.c, .int .i64 q.id] TP)).alloc (.cells #[.slice (some ⟨W5.heap.size + 1, 0, none⟩) 1 1, .slice (some ⟨W5.heap.size, 0, none⟩) 2 2] TN)).drew)) (Ext.dr (Ext.al (Ext.al (Ext.refl' _) _) _))
          have g2 := al_at (w := B0.alloc (.cells #[pt x.r, pt y.r] TQ)) (o := (.cells #[.slice q.A q.n q.c, .int .i64 q.id] TP)) (W := ((((B0.alloc (.cells #[pt x.r, pt y.r] TQ)).alloc (.cells #[.slice q.A q.n q.c, .int .i64 q.id] TP)).alloc (.cells #[.slice (some ⟨W5.heap.size + 1, 0, none⟩) 1 1, .slice (some ⟨W5.heap.size, 0, none⟩) 2 2] TN)).drew)) (Ext.dr (Ext.al (Ext.refl' _) _))
          have g3 := al_at (w := (B0.alloc (.cells #[pt x.r, pt y.r] TQ)).alloc (.cells #[.slice q.A q.n q.c, .int .i64 q.id] TP)) (o := (.cells #[.slice (some ⟨W5.heap.size + 1, 0, none⟩) 1 1, .slice (some ⟨W5.heap.size, 0, none⟩) 2 2] TN)) (W := ((((B0.alloc (.cells #[pt x.r, pt y.r] TQ)).alloc (.cells #[.slice q.A q.n q.c, .int .i64 q.id] TP)).alloc (.cells #[.slice (some ⟨W5.heap.size + 1, 0, none⟩) 1 1, .slice (some ⟨W5.heap.size, 0, none⟩) 2 2] TN)).drew)) (Ext.dr (Ext.refl' _))
          rw [show ((B0.alloc (.cells #[pt x.r, pt y.r] TQ)).alloc (.cells #[.slice q.A q.n q.c, .int .i64 q.id] TP)).heap.size = W5.heap.size + 1 + 1 by simp [hsz]] at g3
          rw [show (B0.alloc (.cells #[pt x.r, pt y.r] TQ)).heap.size = W5.heap.size + 1 by simp [hsz]] at g2
          rw [hsz] at g1
          have g0 := hE6.at he0
          have hM6 := hM0.step (T := []) hE6.os hE6.tape hE6.output hE6.size (fun b hb _ => hE6.block b hb) (by simp)
          generalize ((((B0.alloc (.cells #[pt x.r, pt y.r] TQ)).alloc (.cells #[.slice q.A q.n q.c, .int .i64 q.id] TP)).alloc (.cells #[.slice (some ⟨W5.heap.size + 1, 0, none⟩) 1 1, .slice (some ⟨W5.heap.size, 0, none⟩) 2 2] TN)).drew) = W6 at g0 g1 g2 g3 hM6 ⊢
          have G0 := Lib.hid g0
          have G1 := Lib.hid g1
          have G2 := Lib.hid g2
          have G3 := Lib.hid g3
          have HM6 := Lib.hid hM6
          obtain ⟨rb, c0, c1', c2, f0, f1, f2⟩ := three_cells g0
          clear g0 g1 g2 g3 hM6 hE6 hM0 he0 hsz hB0' hB0
          go_wp2
          go_ret
          have htl5 := (Array.getElem?_eq_some_iff.1 HTB5.out).1
          have hbu' := HBU.out
          have e0 := set_heap G0.out 2 (.int .i64 ((l.length : Int) + 1))
          have hfin := HPS.out.fin2 (rb := W5.heap.size + 1 + 1) (b1 := W5.heap.size + 1) (b2 := W5.heap.size) (HU.out.trans (Upd.refl HU.out.good HU.out.nodup (show Ext w3 (w3.drewN nq) from ex_))) HI.out HWF.out hm HS.out HQ.out (by rw [HNK.out]; exact HMD.out) (by rw [HNK.out]; have := HNM.out; omega) (by omega) (by omega) (by omega) (by omega) (by omega) (by omega) e0 ((set_other (by omega)).trans G2.out) ((set_other (by omega)).trans G1.out) ((set_other (by omega)).trans G3.out) (mut_tb (tb := tb) (S := [tb]) HM6.out (by simp))
          obtain ⟨l', F', h1, h2, h3, h4⟩ := hfin
          exact ⟨true, l', F', rfl, h1, h2, h3, .inr ⟨rfl, HNO.out, (⟨A1, K.length, c1, K, id⟩ : MP), rfl, HFL.out ▸ h4⟩⟩
    ·
     have hgtz : ¬ ((m : Int) < (nk : Int)) := by omega
     have HLE : Hid (t1.ps.length ≤ m) := Lib.hid (by have := HNK.out; omega)
     go_wp2
     go_quiet (fail)
     go_wp2
     go_ret
     have hfin := HPS.out.fin (W' := (w3.setCell ⟨tb, 2, none⟩ (.int .i64 ((l.length : Int) + 1))).drewN nq) HU.out HI.out HWF.out HLE.out (ex_)
     exact ⟨true, _, _, rfl, hfin.1, hfin.2.1, hfin.2.2, .inr ⟨rfl, HNO.out, (⟨A1, K.length, c1, K, id⟩ : MP), rfl, HFL.out ▸ HI.out⟩⟩

end Go.Proofs.YtdiaecgpjgdkdaaGreat

namespace Go.Proofs.YtdiaecgpjgdkdaaGreat
open Go.RowKit

structure Trn (M : Nat → TypeId → Prop) (W W' : World) : Prop where
 os : W'.os = W.os
 tape : W'.tape = W.tape
 output : W'.output = W.output
 size : W.heap.size ≤ W'.heap.size
 same : ∀ b, b < W.heap.size → (∀ c ty f, W.heap[b]? = some (.cells c ty f) → ¬ M b ty) → W'.heap[b]? = W.heap[b]?
section
variable {M : Nat → TypeId → Prop} {w W W' W'' : World}
theorem Trn.ofExt (h : Ext W W') : Trn M W W' := ⟨h.os, h.tape, h.output, h.size, fun b hb _ => h.block b hb⟩
theorem Trn.refl : Trn M W W := Trn.ofExt (Ext.refl' _)
theorem Trn.trans (h : Trn M W W') (k : Trn M W' W'') : Trn M W W'' :=
 ⟨k.os.trans h.os, k.tape.trans h.tape, k.output.trans h.output, Nat.le_trans h.size k.size, fun b hb hn => by
  have e := h.same b hb hn
  exact (k.same b (Nat.lt_of_lt_of_le hb h.size) (fun c ty f hc => hn c ty f (e ▸ hc))).trans e⟩
theorem Trn.block (h : Trn M W W') {b : Nat} {c : Array Value} {ty : TypeId} {f : Nat × Nat} (hb : W.heap[b]? = some (.cells c ty f)) (hn : ¬ M b ty) : W'.heap[b]? = some (.cells c ty f) :=
 (h.same b (Array.getElem?_eq_some_iff.1 hb).1 (fun c' ty' f' e => by rw [hb] at e; simp at e; rw [← e.2.1]; exact hn)).trans hb
theorem Trn.ext (h : Trn M W W') (e : Ext w W) (hM : ∀ b ty, M b ty → w.heap.size ≤ b) : Ext w W' :=
 ⟨h.os.trans e.os, h.tape.trans e.tape, h.output.trans e.output, Nat.le_trans e.size h.size, fun b hb => (h.same b (Nat.lt_of_lt_of_le hb e.size) (fun c ty f _ hm => by have := hM b ty hm; omega)).trans (e.block b hb)⟩
end
def geB (p : Kp) (q : MP) : Bool := !decide (cmpP q.kp p < 0)
theorem geB_true {p : Kp} {q : MP} (h : ¬ ltP q.kp p) : geB p q = true := by unfold geB; rw [decide_eq_false (fun e => h (cmpP_lt.1 e))]; rfl
theorem geB_false {p : Kp} {q : MP} (h : ltP q.kp p) : geB p q = false := by unfold geB; rw [decide_eq_true (cmpP_lt.2 h)]; rfl
def VQB (cont : MP → Bool) (I : List MP → World → Prop) (ds L : List MP) (b : Bool) (W : World) : Prop :=
 (b = true ∧ (∀ q ∈ L, cont q = true) ∧ I (ds ++ L) W) ∨ (b = false ∧ ∃ A q B, L = A ++ q :: B ∧ (∀ x ∈ A, cont x = true) ∧ cont q = false ∧ I (ds ++ (A ++ [q])) W)
def VisPB (M : Nat → TypeId → Prop) (cont : MP → Bool) (I : List MP → World → Prop) (W : World) (ds L : List MP) (e : Ending) (W' : World) : Prop := ∃ b, e = .returned (.bool b) ∧ Trn M W W' ∧ VQB cont I ds L b W'
theorem VisPB.mk {M : Nat → TypeId → Prop} {cont : MP → Bool} {I : List MP → World → Prop} {W W' : World} {ds L : List MP} {e : Ending} (b : Bool) (h1 : e = .returned (.bool b)) (h2 : Trn M W W') (h3 : VQB cont I ds L b W') : VisPB M cont I W ds L e W' := ⟨b, h1, h2, h3⟩
theorem VQB.more {cont : MP → Bool} {I : List MP → World → Prop} {ds D L X R : List MP} {W : World} (h : VQB cont I (ds ++ D) X false W) (hL : D ++ (X ++ R) = L) (hD : ∀ q ∈ D, cont q = true) : VQB cont I ds L false W := by
 rcases h with ⟨h, _⟩ | ⟨_, A, q, B, rfl, h1, h2, h3⟩
 ·
  cases h
 ·
  exact .inr ⟨rfl, D ++ A, q, B ++ R, by rw [← hL]; simp, fun x hx => (List.mem_append.1 hx).elim (hD x) (h1 x), h2, by simpa [List.append_assoc] using h3⟩
def restAt (ps : List MP) (ks : List (List MP)) (j : Nat) : List MP := inter (ps.drop j) (ks.drop j)
theorem restAt_leaf {ps : List MP} {j : Nat} {x : MP} (h : ps[j]? = some x) : restAt ps [] j = x :: restAt ps [] (j + 1) := by
 obtain ⟨hi, rfl⟩ := List.getElem?_eq_some_iff.1 h
 unfold restAt
 rw [List.drop_eq_getElem_cons hi, List.drop_nil, List.drop_nil]
 simp [inter]
theorem restAt_end {ps : List MP} {ks : List (List MP)} (h : ks.length ≤ ps.length + 1) : restAt ps ks (ps.length + 1) = [] := by
 unfold restAt
 rw [List.drop_eq_nil_of_le (by omega), List.drop_eq_nil_of_le h]
 rfl
theorem restAt_leafend {ps : List MP} : restAt ps [] ps.length = [] := by
 unfold restAt
 rw [List.drop_eq_nil_of_le (Nat.le_refl _), List.drop_nil]
 rfl
theorem restAt_kid {ps : List MP} {ks : List (List MP)} {j : Nat} {k : List MP} {x : MP} (hk : ks[j]? = some k) (hx : ps[j]? = some x) (hl : ks.length = ps.length + 1) : restAt ps ks j = k ++ x :: restAt ps ks (j + 1) := by
 obtain ⟨hi, rfl⟩ := List.getElem?_eq_some_iff.1 hk
 obtain ⟨hi2, rfl⟩ := List.getElem?_eq_some_iff.1 hx
 unfold restAt
 rw [List.drop_eq_getElem_cons hi, List.drop_eq_getElem_cons hi2]
 rfl
theorem restAt_last {ps : List MP} {ks : List (List MP)} {k : List MP} (hk : ks[ps.length]? = some k) (hl : ks.length = ps.length + 1) : restAt ps ks ps.length = k := by
 obtain ⟨hi, rfl⟩ := List.getElem?_eq_some_iff.1 hk
 unfold restAt
 rw [List.drop_eq_nil_of_le (Nat.le_refl _), List.drop_eq_getElem_cons hi, List.drop_eq_nil_of_le (by omega)]
 rfl
theorem rest_start {d i : Nat} {t : MT} {p : Kp} (hl : d = 0 ∧ t.ks = [] ∨ ∃ e, d = e + 1 ∧ t.ks.length = t.ps.length + 1) (hs : SrtB (flat d t)) (hi : i ≤ t.ps.length) (h1 : ∀ q ∈ t.ps.take i, ltP q.kp p) (h2 : ∀ q ∈ t.ps.drop i, ¬ ltP q.kp p) :
  (flat d t).filter (geB p) = (restAt t.ps (t.ks.map (flat (d - 1))) i).filter (geB p) := by
 rcases hl with ⟨rfl, hk⟩ | ⟨e, rfl, hk⟩
 ·
  rw [hk]
  show t.ps.filter _ = (inter (t.ps.drop i) (([] : List (List MP)).drop i)).filter _
  have e : inter (t.ps.drop i) (([] : List (List MP)).drop i) = t.ps.drop i := by rw [List.drop_nil]; cases t.ps.drop i <;> rfl
  have e2 : t.ps.filter (geB p) = (t.ps.take i).filter (geB p) ++ (t.ps.drop i).filter (geB p) := by rw [← List.filter_append, List.take_append_drop]
  rw [e, e2, List.filter_eq_nil_iff.2 (fun q hq => by rw [geB_false (h1 q hq)]; simp), List.nil_append]
 ·
  obtain ⟨k, hkk⟩ : ∃ k, t.ks[i]? = some k := ⟨_, List.getElem?_eq_getElem (by omega)⟩
  obtain ⟨h3, _⟩ := around_kid hk hkk hs h1 h2
  rw [flat_kid hk hkk, List.filter_append, List.filter_eq_nil_iff.2 (fun q hq => by rw [geB_false (h3 q hq)]; simp), List.nil_append]
  congr 1
  show _ = inter (t.ps.drop i) ((t.ks.map (flat e)).drop i)
  rw [← List.map_drop]
  have hlt := (List.getElem?_eq_some_iff.1 hkk).1
  rw [List.drop_eq_getElem_cons hlt, List.map_cons]
  have e1 : t.ks[i] = k := (List.getElem?_eq_some_iff.1 hkk).2
  rw [e1]
  have := inter_split (p1 := []) (k1 := []) rfl (t.ps.drop i) (flat e k) ((t.ks.drop (i + 1)).map (flat e))
  simpa [pre] using this.symm

set_option maxRecDepth 100000 in
set_option maxHeartbeats 16000000 in
theorem visitF_any (base m : Nat) (c1 c2 : Nat) (M : Nat → TypeId → Prop) (cont : MP → Bool) (N : Nat) (I : List MP → World → Prop) (p : MP) (w : World) (hm : 2 ≤ m) (hm2 : m ≤ 64) (hM : ∀ b ty, M b ty → w.heap.size ≤ b) (w2 : World) (hw2 : Ext w w2) (hM2 : ∀ b, w2.heap.size ≤ b → ¬ M b TP)
  (hIx : ∀ ds W W', I ds W → Ext W W' → I ds W') (hp : KR w p)
  (hf : ∀ q ds W, KOk base w q → Ext w W → w2.heap.size ≤ W.heap.size → ds.length + 1 ≤ N → I ds W → Calls Tryz.prog 199 #[pv q, pt c1, pt c2] W fun e W' => e = .returned (.bool (cont q)) ∧ Trn M W W' ∧ I (ds ++ [q]) W') :
  ∀ (d lo : Nat) (t : MT) (ds : List MP) (W : World), GoodB base w d t → Wf m d lo m t → SrtB (flat d t) → (∀ q ∈ flat d t, KOk base w q) → Ext w W → w2.heap.size ≤ W.heap.size → ds.length + ((flat d t).filter (geB p.kp)).length ≤ N → I ds W →
  Calls Tryz.prog 198 #[pt t.r, pv p, .func (.func 199) #[] #[pt c1, pt c2]] W (VisPB M cont I W ds ((flat d t).filter (geB p.kp))) := by
 intro d
 induction d with
 | zero =>
  intro lo t ds W hG hW hs hk hE0 hs2 hN hI
  have HNN := Lib.hid hN
  clear hN
  obtain ⟨hks, hlo, hhi⟩ := hW
  have HFI : Hid (∀ W', Ext W W' → Calls Tryz.prog 86 #[pt t.r, pv p] W' fun e w' => ∃ i : Nat, i ≤ t.ps.length ∧ (∀ q ∈ t.ps.take i, ltP q.kp p.kp) ∧ (∀ q ∈ t.ps.drop i, ¬ ltP q.kp p.kp) ∧ e = .returned (.tuple #[.int .i64 i, .bool (foundB t.ps i p.kp)]) ∧ Ext W' w') := Lib.hid fun W' hE => find_anyB base t p W' (GoodB.ext (d := 0) hG (hE0.tr hE)) (by omega) hs (fun q hq => ((hk q hq).kr).ext (hE0.tr hE)) (hp.ext (hE0.tr hE))
  have HS := Lib.hid hs
  have HK := Lib.hid hk
  have HG := Lib.hid hG
  have HKS := Lib.hid hks
  have HF := Lib.hid hf
  have HIX := Lib.hid hIx
  have HM := Lib.hid hM
  have HE0 := Lib.hid hE0
  have HI := Lib.hid hI
  obtain ⟨PA, pc, hpv, _, _, _⟩ := own_form2 (GoodB.node (d := 0) hG).op
  obtain ⟨KA, kc, hkv, _, _, _⟩ := own_form2 (GoodB.node (d := 0) hG).ok
  have hnp := (GoodB.node (d := 0) hG).hp
  have hop := (GoodB.node (d := 0) hG).op
  rw [hpv, hkv, hks] at hnp
  rw [hpv] at hop
  obtain ⟨np, hnpl⟩ : ∃ np, t.ps.length = np := ⟨_, rfl⟩
  rw [hnpl] at hnp hop hhi
  have HNP := Lib.hid hnpl
  have HND := Lib.hid hnp
  have HOP := Lib.hid hop
  clear hs hk hG hks hf hIx hp hI hpv hkv hnp hop hnpl hM2
  go_enter Tryz.func198, Tryz.ntmps198
  go_wp2_with fail
  refine Calls.mono (HFI.out _ (ex_)) ?_
  rintro e w1 ⟨i, hi, hlt, hge, rfl, hb1⟩
  have hE1 : Ext W w1 := (Ext.al1 _ _).tr hb1
  have HST := Lib.hid (rest_start (d := 0) (t := t) (p := p.kp) (.inl ⟨rfl, HKS.out⟩) HS.out hi hlt hge)
  have HGE := Lib.hid hge
  rw [HNP.out] at hi
  have HE1 := Lib.hid hE1
  have HI1 := Lib.hid (HIX.out _ _ _ HI.out hE1)
  clear hb1 hlt hge
  generalize foundB t.ps i p.kp = fb
  go_wp2
  go_loopw [7] (fun x wr => ∃ (j : Nat) (D : List MP), x = .int .i64 j ∧ i ≤ j ∧ j ≤ np + 1 ∧ Hid (D ++ (restAt t.ps [] j).filter (geB p.kp) = (flat 0 t).filter (geB p.kp)) ∧ Hid (∀ q ∈ D, cont q = true) ∧ Hid (I (ds ++ D) wr) ∧ Hid (Ext w wr) ∧ Hid (Trn M w1 wr)) (fun x _ => np + 1 - (intOf x).toNat)
  case atStart => exact ⟨i, [], rfl, Nat.le_refl _, by omega, Lib.hid (by rw [HST.out, HKS.out]; rfl), Lib.hid (by simp), Lib.hid (by simpa using HI1.out), Lib.hid (HE0.out.tr HE1.out), Lib.hid Trn.refl⟩
  case round =>
   obtain ⟨j, D, rfl, hij, hjn, HD, HC, HII, HE, HKP⟩ := hrel
   obtain ⟨rt, t0, t1, _, _⟩ := two_cells (HE.out.at HND.out)
   by_cases hjl : j < np
   ·
    obtain ⟨q, hq⟩ : ∃ q, t.ps[j]? = some q := ⟨_, List.getElem?_eq_getElem (by have := HNP.out; omega)⟩
    have hop := ownsRow_extB HOP.out HE.out
    obtain ⟨pb, o', rfl, hpb, q0, q1⟩ := (Rd.of_own hop).pr HNP.out.symm (by have := HNP.out; omega : j < t.ps.length)
    have hqq : t.ps[j]'(by have := HNP.out; omega) = q := (List.getElem?_eq_some_iff.1 hq).2
    rw [hqq] at q0 q1
    have HQM := Lib.hid (List.mem_of_getElem? hq)
    have hge : geB p.kp q = true := geB_true (HGE.out q (List.mem_of_getElem? (i := j - i) (by rw [List.getElem?_drop, show i + (j - i) = j by omega]; exact hq)))
    have HR := Lib.hid (restAt_leaf hq)
    have HGQ := Lib.hid hge
    have HFQ : Hid (∀ W', Ext wr W' → Calls Tryz.prog 199 #[pv q, pt c1, pt c2] W' fun e W'' => e = .returned (.bool (cont q)) ∧ Trn M W' W'' ∧ I ((ds ++ D) ++ [q]) W'') := Lib.hid fun W' hE => HF.out q _ W' (HK.out q HQM.out) (HE.out.tr hE) (Nat.le_trans hs2 (Nat.le_trans HE1.out.size (Nat.le_trans HKP.out.size hE.size))) (by
     have h1 := congrArg List.length HD.out
     have h2 := HNN.out
     rw [HR.out, List.filter_cons, if_pos HGQ.out] at h1
     simp only [List.length_append, List.length_cons] at h1 ⊢
     omega) (HIX.out _ _ _ HII.out hE)
    have hjz : (j : Int) ≤ (np : Int) := by omega
    have hjz2 : (j : Int) < (np : Int) := by omega
    have hwj : IntKind.i64.wrap ((j : Int) + 1) = (j : Int) + 1 := IntWalk.i64_in _ (by omega)
    clear hge hq hqq hop hs2
    go_wp2
    go_quiet (fail)
    go_wp2_with fail
    refine Calls.mono (HFQ.out _ (ex_)) ?_
    rintro e w5 ⟨rfl, hK5, hI5⟩
    have hK5 := Lib.hid hK5
    have hI5 := Lib.hid hI5
    have HWN : Hid (Trn M w1 w5) := Lib.hid (HKP.out.trans ((Trn.ofExt (ex_)).trans hK5.out))
    have HEN : Hid (Ext w w5) := Lib.hid (HWN.out.ext (HE0.out.tr HE1.out) HM.out)
    cases hc : cont q with
    | false =>
     have HC2 := Lib.hid hc
     clear hc
     go_wp2
     go_ret
     refine VisPB.mk false rfl ((Trn.ofExt HE1.out).trans (HWN.out.trans (Trn.ofExt (ex_)))) (.inr ⟨rfl, D, q, (restAt t.ps [] (j + 1)).filter (geB p.kp), ?_, HC.out, HC2.out, HIX.out _ _ _ (by rw [← List.append_assoc]; exact hI5.out) (ex_)⟩)
     rw [← HD.out, HR.out, List.filter_cons, if_pos HGQ.out]
    | true =>
     have HC2 := Lib.hid hc
     clear hc
     go_wp2
     go_roundw
     case rel => exact ⟨j + 1, D ++ [q], by go_num, by omega, by omega, Lib.hid (by rw [← HD.out, HR.out, List.filter_cons, if_pos HGQ.out]; simp), Lib.hid (fun x hx => by rcases List.mem_append.1 hx with hx | hx; exact HC.out x hx; simp at hx; subst hx; exact HC2.out), Lib.hid (HIX.out _ _ _ (by rw [← List.append_assoc]; exact hI5.out) (ex_)), Lib.hid (HEN.out.tr (ex_)), Lib.hid (HWN.out.trans (Trn.ofExt (ex_)))⟩
     case measure => simp [intOf]; omega
   ·
    by_cases hje : j = np
    ·
     have HR : Hid (restAt t.ps [] j = []) := Lib.hid (by rw [hje, ← HNP.out]; exact restAt_leafend)
     have HR2 : Hid (restAt t.ps [] (j + 1) = []) := Lib.hid (by rw [hje, ← HNP.out]; exact restAt_end (by simp))
     have hjz : (j : Int) ≤ (np : Int) := by omega
     have hjz2 : ¬ ((j : Int) < (np : Int)) := by omega
     have hwj : IntKind.i64.wrap ((j : Int) + 1) = (j : Int) + 1 := IntWalk.i64_in _ (by omega)
     have hjm : j ≤ 64 := by omega
     clear hje hjl hjn
     have HJ := Lib.hid hij
     obtain ⟨hj1, hj2⟩ : j + 1 ≤ np + 1 ∧ np ≤ j := by omega
     go_wp2
     go_quiet (fail)
     go_wp2
     go_roundw
     case rel => exact ⟨j + 1, D, by go_num, by omega, by omega, Lib.hid (by rw [HR2.out, ← HD.out, HR.out]), HC, Lib.hid (HIX.out _ _ _ HII.out (ex_)), Lib.hid (HE.out.tr (ex_)), Lib.hid (HKP.out.trans (Trn.ofExt (ex_)))⟩
     case measure => simp [intOf]; omega
    ·
     have hjz : ¬ ((j : Int) ≤ (np : Int)) := by omega
     have HR : Hid (restAt t.ps [] j = []) := Lib.hid (by rw [show j = t.ps.length + 1 by have := HNP.out; omega]; exact restAt_end (by simp))
     go_wp2
     go_ret
     refine VisPB.mk true rfl ((Trn.ofExt HE1.out).trans (HKP.out.trans (Trn.ofExt (ex_)))) (.inl ⟨rfl, ?_, ?_⟩)
     ·
      rw [← HD.out, HR.out]; simpa using HC.out
     ·
      rw [← HD.out, HR.out]; simpa using HIX.out _ _ _ HII.out (ex_)
 | succ d ih =>
  intro lo t ds W hG hW hs hk hE0 hs2 hN hI
  have HNN := Lib.hid hN
  clear hN
  obtain ⟨hkl, hlo, hhi, hkw⟩ := hW
  have HFI : Hid (∀ W', Ext W W' → Calls Tryz.prog 86 #[pt t.r, pv p] W' fun e w' => ∃ i : Nat, i ≤ t.ps.length ∧ (∀ q ∈ t.ps.take i, ltP q.kp p.kp) ∧ (∀ q ∈ t.ps.drop i, ¬ ltP q.kp p.kp) ∧ e = .returned (.tuple #[.int .i64 i, .bool (foundB t.ps i p.kp)]) ∧ Ext W' w') := Lib.hid fun W' hE => find_anyB base t p W' (hG.ext (hE0.tr hE)).1 (by omega) (List.Pairwise.sublist ps_sub hs) (fun q hq => ((hk q (ps_sub.subset hq)).kr).ext (hE0.tr hE)) (hp.ext (hE0.tr hE))
  have HS := Lib.hid hs
  have HK := Lib.hid hk
  have HG := Lib.hid hG
  have HKL := Lib.hid hkl
  have HKW := Lib.hid hkw
  have HF := Lib.hid hf
  have HIX := Lib.hid hIx
  have HM := Lib.hid hM
  have HM2 := Lib.hid hM2
  have HE0 := Lib.hid hE0
  have HI := Lib.hid hI
  have HS2 := Lib.hid hs2
  have IH := Lib.hid ih
  obtain ⟨PA, pc, hpv, _, _, _⟩ := own_form2 hG.1.op
  obtain ⟨kb, kc, hkv, _, _⟩ := own_ne0 hG.1.ok (by omega)
  have hnp := hG.1.hp
  have hop := hG.1.op
  have hok := hG.1.ok
  rw [hpv, hkv] at hnp
  rw [hpv] at hop
  rw [hkv] at hok
  obtain ⟨np, hnpl⟩ : ∃ np, t.ps.length = np := ⟨_, rfl⟩
  obtain ⟨nk, hnkl⟩ : ∃ nk, t.ks.length = nk := ⟨_, rfl⟩
  rw [hnpl, hnkl] at hnp
  rw [hnpl] at hop hhi
  rw [hnkl] at hok
  have hnk1 : nk = np + 1 := by omega
  have HNP := Lib.hid hnpl
  have HNK := Lib.hid hnkl
  have HN1 := Lib.hid hnk1
  have HND := Lib.hid hnp
  have HOP := Lib.hid hop
  have HOK := Lib.hid hok
  have hnk0 : ¬ (nk = 0) := by omega
  have hnk00 : (0 : Int) < (nk : Int) := by omega
  have hnkp : 0 < nk := by omega
  clear hs hk hG hf hIx hp hI hpv hkv hnp hop hok hnpl hM2 hkl hkw ih hnkl hnk1
  go_enter Tryz.func198, Tryz.ntmps198
  go_wp2_with fail
  refine Calls.mono (HFI.out _ (ex_)) ?_
  rintro e w1 ⟨i, hi, hlt, hge, rfl, hb1⟩
  have hE1 : Ext W w1 := (Ext.al1 _ _).tr hb1
  have hbk := al_at hb1
  obtain ⟨bx, hbx⟩ : ∃ bx, W.heap.size = bx := ⟨_, rfl⟩
  rw [hbx] at hbk ⊢
  have HBK := Lib.hid hbk
  have HBM : Hid (¬ M bx TP) := Lib.hid (HM2.out bx (by rw [← hbx]; exact HS2.out))
  have hbl := (Array.getElem?_eq_some_iff.1 hbk).1
  have HST := Lib.hid (rest_start (d := d + 1) (t := t) (p := p.kp) (.inr ⟨d, rfl, HKL.out⟩) HS.out hi hlt hge)
  have HGE := Lib.hid hge
  rw [HNP.out] at hi
  have HE1 := Lib.hid hE1
  have HI1 := Lib.hid (HIX.out _ _ _ HI.out hE1)
  clear hb1 hlt hge hbk hs2
  generalize foundB t.ps i p.kp = fb
  go_wp2
  go_loopw [7] (fun x wr => ∃ (j : Nat) (D : List MP), x = .int .i64 j ∧ i ≤ j ∧ j ≤ np + 1 ∧ Hid (D ++ (restAt t.ps (t.ks.map (flat d)) j).filter (geB p.kp) = (flat (d + 1) t).filter (geB p.kp)) ∧ Hid (∀ q ∈ D, cont q = true) ∧ Hid (I (ds ++ D) wr) ∧ Hid (Ext w wr) ∧ Hid (Trn M w1 wr)) (fun x _ => np + 1 - (intOf x).toNat)
  case atStart => exact ⟨i, [], rfl, Nat.le_refl _, by omega, Lib.hid (by rw [HST.out]; rfl), Lib.hid (by simp), Lib.hid (by simpa using HI1.out), Lib.hid (HE0.out.tr HE1.out), Lib.hid Trn.refl⟩
  case round =>
   obtain ⟨j, D, rfl, hij, hjn, HD, HC, HII, HE, HKP⟩ := hrel
   obtain ⟨rt, t0, t1, _, _⟩ := two_cells (HE.out.at HND.out)
   have hbk := HKP.out.block HBK.out HBM.out
   obtain ⟨rx, z0, z1, _, _⟩ := two_cells hbk
   by_cases hjl : j ≤ np
   ·
    obtain ⟨k, hkk⟩ : ∃ k, t.ks[j]? = some k := ⟨_, List.getElem?_eq_getElem (by have := HNK.out; have := HN1.out; omega)⟩
    obtain ⟨hkb, k0⟩ := ownQ_at (ownsRow_extB HOK.out HE.out) hkk
    have hkm := List.mem_of_getElem? hkk
    have HKK := Lib.hid hkk
    have HLK : Hid (∃ R, D ++ ((flat d k).filter (geB p.kp) ++ R) = (flat (d + 1) t).filter (geB p.kp)) := Lib.hid (by
     by_cases hjl2 : j < np
     ·
      obtain ⟨x, hx⟩ : ∃ x, t.ps[j]? = some x := ⟨_, List.getElem?_eq_getElem (by have := HNP.out; omega)⟩
      exact ⟨_, by rw [← HD.out, restAt_kid (k := flat d k) (by rw [List.getElem?_map, hkk]; rfl) hx (by simpa using HKL.out), List.filter_append]⟩
     ·
      have hje : j = t.ps.length := by have := HNP.out; omega
      exact ⟨[], by rw [← HD.out, hje, restAt_last (k := flat d k) (by rw [← hje, List.getElem?_map, hkk]; rfl) (by simpa using HKL.out)]; simp⟩)
    have HIH : Hid (∀ W', Ext wr W' → Calls Tryz.prog 198 #[pt k.r, pv p, .func (.func 199) #[] #[pt c1, pt c2]] W' (VisPB M cont I W' (ds ++ D) ((flat d k).filter (geB p.kp)))) := Lib.hid fun W' hE => IH.out (m / 2) k (ds ++ D) W' (HG.out.2 k hkm) (HKW.out k hkm) (List.Pairwise.sublist (kid_sub HKL.out hkk) HS.out) (fun q hq => HK.out q ((kid_sub HKL.out hkk).subset hq)) (HE.out.tr hE) (Nat.le_trans HS2.out (Nat.le_trans HE1.out.size (Nat.le_trans HKP.out.size hE.size))) (by
     obtain ⟨R, hL⟩ := HLK.out
     have h1 := congrArg List.length hL
     have h2 := HNN.out
     simp only [List.length_append] at h1 ⊢
     omega) (HIX.out _ _ _ HII.out hE)
    have hjz : (j : Int) ≤ (np : Int) := by omega
    have hjk : (j : Int) < (nk : Int) := by have := HN1.out; omega
    have hwj : IntKind.i64.wrap ((j : Int) + 1) = (j : Int) + 1 := IntWalk.i64_in _ (by omega)
    have HJ := Lib.hid hjl
    clear hkk hkm hbk hjl
    go_wp2
    refine wp_region_held_drew (S := (fun w' => w'.cell? ⟨t.r, 1, none⟩ = some (.slice (some ⟨kb, 0, none⟩) nk kc) ∧ w'.cell? ⟨kb, j, none⟩ = some (pt k.r) ∧ w'.cell? ⟨bx, 0, none⟩ = some (.slice p.A p.n p.c) ∧ w'.cell? ⟨bx, 1, none⟩ = some (.int .i64 p.id))) (by kernel_rfl) (by simp [go_sem, ↓IntWalk.iteOmega, *]) (fun hHeld => ?_)
    refine tkH 0 ?oi1 (?v1) ?hi1 ?hy1 ?_
    case hi1 => (simp only [gA, gS, gZ]; try rfl)
    case hy1 => (refine Or.inl ⟨by rfl, ?_⟩; intro wq hSw; (try dsimp only at hSw); go_simp; (try with_reducible rfl))
    (try simp only [Act.put, pA, pZ, pS])
    refine tkH 1 ?oi2 (?v2) ?hi2 ?hy2 ?_
    case hi2 => (simp only [gA, gS, gZ]; try rfl)
    case hy2 => (refine Or.inl ⟨by rfl, ?_⟩; intro wq hSw; (try dsimp only at hSw); go_simp; (try with_reducible rfl))
    (try simp only [Act.put, pA, pZ, pS])
    refine tkH 2 ?oi3 (?v3) ?hi3 ?hy3 ?_
    case hi3 => (simp only [gA, gS, gZ]; try rfl)
    case hy3 => (refine Or.inl ⟨by rfl, ?_⟩; intro wq hSw; (try dsimp only at hSw); go_simp; (try with_reducible rfl))
    (try simp only [Act.put, pA, pZ, pS])
    refine tkH 3 ?oi4 (?v4) ?hi4 ?hy4 ?_
    case hi4 => (simp only [gA, gS, gZ]; try rfl)
    case hy4 => (refine Or.inl ⟨by rfl, ?_⟩; intro wq hSw; (try dsimp only at hSw); go_simp; (try with_reducible rfl))
    (try simp only [Act.put, pA, pZ, pS])
    refine tkH 4 ?oi5 (?v5) ?hi5 ?hy5 ?_
    case hi5 => (simp only [gA, gS, gZ]; try rfl)
    case hy5 => (refine Or.inl ⟨by rfl, ?_⟩; intro wq hSw; (try dsimp only at hSw); go_simp; (try with_reducible rfl))
    (try simp only [Act.put, pA, pZ, pS])
    refine tkH 5 ?oi6 (?v6) ?hi6 ?hy6 ?_
    case hi6 => (simp only [gA, gS, gZ]; try rfl)
    case hy6 => (refine Or.inl ⟨by rfl, ?_⟩; intro wq hSw; (try dsimp only at hSw); go_simp; (try with_reducible rfl))
    (try simp only [Act.put, pA, pZ, pS])
    refine tkH 6 ?oi7 (?v7) ?hi7 ?hy7 ?_
    case hi7 => (simp only [gA, gS, gZ]; try rfl)
    case hy7 => (refine Or.inl ⟨by rfl, ?_⟩; intro wq hSw; (try dsimp only at hSw); go_simp; (try with_reducible rfl))
    (try simp only [Act.put, pA, pZ, pS])
    refine tkH 7 ?oi8 (?v8) ?hi8 ?hy8 ?_
    case hi8 => (simp only [gA, gS, gZ]; try rfl)
    case hy8 => (refine Or.inl ⟨by rfl, ?_⟩; intro wq hSw; (try dsimp only at hSw); go_simp; (try with_reducible rfl))
    (try simp only [Act.put, pA, pZ, pS])
    refine tkH 8 ?oi9 (?v9) ?hi9 ?hy9 ?_
    case hi9 => (simp only [gA, gS, gZ]; try rfl)
    case hy9 => (refine Or.inl ⟨by rfl, ?_⟩; intro wq hSw; (try dsimp only at hSw); go_simp; (try with_reducible rfl))
    (try simp only [Act.put, pA, pZ, pS])
    refine tkH 9 ?oi10 (?v10) ?hi10 ?hy10 ?_
    case hi10 => (simp only [gA, gS, gZ]; try rfl)
    case hy10 => (refine Or.inl ⟨by rfl, ?_⟩; intro wq hSw; (try dsimp only at hSw); go_simp; (try with_reducible rfl))
    (try simp only [Act.put, pA, pZ, pS])
    refine tkH 10 ?oi11 (?v11) ?hi11 ?hy11 ?_
    case hi11 => (simp only [gA, gS, gZ]; try rfl)
    case hy11 => (refine Or.inl ⟨by rfl, ?_⟩; intro wq hSw; (try dsimp only at hSw); go_simp; (try with_reducible rfl))
    (try simp only [Act.put, pA, pZ, pS])
    refine tkH 11 ?oi12 (?v12) ?hi12 ?hy12 ?_
    case hi12 => (simp only [gA, gS, gZ]; try rfl)
    case hy12 => (refine Or.inl ⟨by rfl, ?_⟩; intro wq hSw; (try dsimp only at hSw); go_simp; (try with_reducible rfl))
    (try simp only [Act.put, pA, pZ, pS])
    refine tkH 12 ?oi13 (?v13) ?hi13 ?hy13 ?_
    case hi13 => (simp only [gA, gS, gZ]; try rfl)
    case hy13 => (refine Or.inl ⟨by rfl, ?_⟩; intro wq hSw; (try dsimp only at hSw); go_simp; (try with_reducible rfl))
    (try simp only [Act.put, pA, pZ, pS])
    refine tkH 13 ?oi14 (?v14) ?hi14 ?hy14 ?_
    case hi14 => (simp only [gA, gS, gZ]; try rfl)
    case hy14 => (refine Or.inl ⟨by rfl, ?_⟩; intro wq hSw; (try dsimp only at hSw); go_simp; (try with_reducible rfl))
    (try simp only [Act.put, pA, pZ, pS])
    refine tkH 14 ?oi15 (?v15) ?hi15 ?hy15 ?_
    case hi15 => (simp only [gA, gS, gZ]; try rfl)
    case hy15 => (refine Or.inl ⟨by rfl, ?_⟩; intro wq hSw; (try dsimp only at hSw); go_simp; (try with_reducible rfl))
    (try simp only [Act.put, pA, pZ, pS])
    refine tkH 15 ?oi16 (?v16) ?hi16 ?hy16 ?_
    case hi16 => (simp only [gA, gS, gZ]; try rfl)
    case hy16 => (refine Or.inl ⟨by rfl, ?_⟩; intro wq hSw; (try dsimp only at hSw); go_simp; (try with_reducible rfl))
    (try simp only [Act.put, pA, pZ, pS])
    refine wpAnyH_ready (rs := [16]) (by kernel_rfl) (by simp) ?_
    refine AllReadyH.cons (o := ?oi17) ?hi17 ?ti17 AllReadyH.nil
    case hi17 => (simp only [gA, gS, gZ]; try rfl)
    case ti17 =>
     intro KQ hKQ
     go_simp
     go_at_call 198
     refine Calls.mono (HIH.out _ (ex_)) ?_
     rintro e w5 ⟨b, rfl, hK5, hV⟩
     have HV := Lib.hid hV
     have HWN : Hid (Trn M w1 w5) := Lib.hid (HKP.out.trans ((Trn.ofExt (ex_)).trans hK5))
     have HEN : Hid (Ext w w5) := Lib.hid (HWN.out.ext (HE0.out.tr HE1.out) HM.out)
     clear rt t0 t1 hbl rx z0 z1 hkb k0 hK5 hV
     obtain ⟨rt, t0, t1, _, _⟩ := two_cells (HEN.out.at HND.out)
     obtain ⟨rx, z0, z1, _, _⟩ := two_cells (HWN.out.block HBK.out HBM.out)
     obtain ⟨hkb, k0⟩ := ownQ_at (ownsRow_extB HOK.out HEN.out) HKK.out
     refine hKQ.out _ _ (by simp [go_sem, ↓IntWalk.iteOmega, *]) (fun hHeld2 => ?_)
     clear hHeld hKQ KQ; have hHeld := hHeld2; clear hHeld2
     (try simp only [Act.put, pA, pZ, pS])
     refine tkH 17 ?oi18 (?v18) ?hi18 ?hy18 ?_
     case hi18 => (simp only [gA, gS, gZ]; try rfl)
     case hy18 => (refine Or.inl ⟨by rfl, ?_⟩; intro wq hSw; (try dsimp only at hSw); go_simp; (try with_reducible rfl))
     (try simp only [Act.put, pA, pZ, pS])
     refine tkH 18 ?oi19 (?v19) ?hi19 ?hy19 ?_
     case hi19 => (simp only [gA, gS, gZ]; try rfl)
     case hy19 => (refine Or.inl ⟨by rfl, ?_⟩; intro wq hSw; (try dsimp only at hSw); go_simp; (try with_reducible rfl))
     (try simp only [Act.put, pA, pZ, pS])
     refine wpAnyH_done (by kernel_rfl) ?_ _
     cases b with
     | false =>
      go_wp2
      go_ret
      refine VisPB.mk false rfl ((Trn.ofExt HE1.out).trans (HWN.out.trans (Trn.ofExt (ex_)))) ?_
      have hL := HLK.out
      obtain ⟨R, hL⟩ := hL
      have hV := HV.out
      rcases hV with ⟨h, _⟩ | ⟨_, A, q, B, h1, h2, h3, h4⟩
      ·
       cases h
      ·
       exact VQB.more (.inr ⟨rfl, A, q, B, h1, h2, h3, HIX.out _ _ _ h4 (ex_)⟩) hL HC.out
     | true =>
      have HV1 : Hid ((∀ q ∈ (flat d k).filter (geB p.kp), cont q = true) ∧ I ((ds ++ D) ++ (flat d k).filter (geB p.kp)) w5) := Lib.hid (by
       rcases HV.out with ⟨_, h1, h2⟩ | ⟨h, _⟩
       ·
        exact ⟨h1, h2⟩
       ·
        cases h)
      by_cases hjl : j < np
      ·
       obtain ⟨q, hq⟩ : ∃ q, t.ps[j]? = some q := ⟨_, List.getElem?_eq_getElem (by have := HNP.out; omega)⟩
       have hop := ownsRow_extB HOP.out HEN.out
       obtain ⟨pb, o', rfl, hpb, q0, q1⟩ := (Rd.of_own hop).pr HNP.out.symm (by have := HNP.out; omega : j < t.ps.length)
       have hqq : t.ps[j]'(by have := HNP.out; omega) = q := (List.getElem?_eq_some_iff.1 hq).2
       rw [hqq] at q0 q1
       have HQM := Lib.hid (List.mem_of_getElem? hq)
       have hge : geB p.kp q = true := geB_true (HGE.out q (List.mem_of_getElem? (i := j - i) (by rw [List.getElem?_drop, show i + (j - i) = j by omega]; exact hq)))
       have HR : Hid ((restAt t.ps (t.ks.map (flat d)) j).filter (geB p.kp) = (flat d k).filter (geB p.kp) ++ q :: (restAt t.ps (t.ks.map (flat d)) (j + 1)).filter (geB p.kp)) := Lib.hid (by
        rw [restAt_kid (k := flat d k) (by rw [List.getElem?_map, HKK.out]; rfl) hq (by simpa using HKL.out), List.filter_append, List.filter_cons, if_pos hge])
       have HFQ : Hid (∀ W', Ext w5 W' → Calls Tryz.prog 199 #[pv q, pt c1, pt c2] W' fun e W'' => e = .returned (.bool (cont q)) ∧ Trn M W' W'' ∧ I (((ds ++ D) ++ (flat d k).filter (geB p.kp)) ++ [q]) W'') := Lib.hid fun W' hE => HF.out q _ W' (HK.out q (ps_sub.subset HQM.out)) (HEN.out.tr hE) (Nat.le_trans HS2.out (Nat.le_trans HE1.out.size (Nat.le_trans HWN.out.size hE.size))) (by
        have h1 := congrArg List.length HD.out
        have h2 := HNN.out
        rw [HR.out] at h1
        simp only [List.length_append, List.length_cons] at h1 ⊢
        omega) (HIX.out _ _ _ HV1.out.2 hE)
       have hjz2 : (j : Int) < (np : Int) := by omega
       clear hge hq hqq hop
       go_wp2_with fail
       refine Calls.mono (HFQ.out _ (ex_)) ?_
       rintro e w6 ⟨rfl, hK6, hI6⟩
       have HI6 := Lib.hid hI6
       have HWN2 : Hid (Trn M w1 w6) := Lib.hid (HWN.out.trans ((Trn.ofExt (ex_)).trans hK6))
       have HEN2 : Hid (Ext w w6) := Lib.hid (HWN2.out.ext (HE0.out.tr HE1.out) HM.out)
       clear hK6 hI6
       cases hc : cont q with
       | false =>
        have HC2 := Lib.hid hc
        clear hc
        go_wp2
        go_ret
        refine VisPB.mk false rfl ((Trn.ofExt HE1.out).trans (HWN2.out.trans (Trn.ofExt (ex_)))) (.inr ⟨rfl, D ++ (flat d k).filter (geB p.kp), q, (restAt t.ps (t.ks.map (flat d)) (j + 1)).filter (geB p.kp), ?_, fun x hx => ?_, HC2.out, HIX.out _ _ _ (by have := HI6.out; simpa [List.append_assoc] using this) (ex_)⟩)
        ·
         rw [← HD.out, HR.out]; simp
        ·
         rcases List.mem_append.1 hx with hx | hx
         ·
          exact HC.out x hx
         ·
          exact HV1.out.1 x hx
       | true =>
        have HC2 := Lib.hid hc
        clear hc
        go_wp2
        go_roundw
        case rel => exact ⟨j + 1, D ++ ((flat d k).filter (geB p.kp) ++ [q]), by go_num, by omega, by omega, Lib.hid (by rw [← HD.out, HR.out]; simp), Lib.hid (fun x hx => by
         rcases List.mem_append.1 hx with hx | hx
         ·
          exact HC.out x hx
         ·
          rcases List.mem_append.1 hx with hx | hx
          ·
           exact HV1.out.1 x hx
          ·
           simp at hx; subst hx; exact HC2.out), Lib.hid (HIX.out _ _ _ (by have := HI6.out; simpa [List.append_assoc] using this) (ex_)), Lib.hid (HEN2.out.tr (ex_)), Lib.hid (HWN2.out.trans (Trn.ofExt (ex_)))⟩
        case measure => simp [intOf]; omega
      ·
       have hje : j = np := by have := HJ.out; omega
       have HR : Hid (restAt t.ps (t.ks.map (flat d)) j = flat d k) := Lib.hid (by rw [hje, ← HNP.out]; exact restAt_last (by rw [HNP.out, ← hje, List.getElem?_map, HKK.out]; rfl) (by simpa using HKL.out))
       have HR2 : Hid (restAt t.ps (t.ks.map (flat d)) (j + 1) = []) := Lib.hid (by rw [hje, ← HNP.out]; exact restAt_end (by simp; have := HKL.out; omega))
       have hjz2 : ¬ ((j : Int) < (np : Int)) := by omega
       obtain ⟨hj1, hj2⟩ : j + 1 ≤ np + 1 ∧ np ≤ j := by omega
       clear hje hjl
       go_wp2
       go_roundw
       case rel => exact ⟨j + 1, D ++ (flat d k).filter (geB p.kp), by go_num, by omega, by omega, Lib.hid (by rw [HR2.out, ← HD.out, HR.out]; simp), Lib.hid (fun x hx => by
        rcases List.mem_append.1 hx with hx | hx
        ·
         exact HC.out x hx
        ·
         exact HV1.out.1 x hx), Lib.hid (HIX.out _ _ _ (by have := HV1.out.2; simpa [List.append_assoc] using this) (ex_)), Lib.hid (HEN.out.tr (ex_)), Lib.hid (HWN.out.trans (Trn.ofExt (ex_)))⟩
       case measure => simp [intOf]; omega
   ·
    have hjz : ¬ ((j : Int) ≤ (np : Int)) := by omega
    have HR : Hid (restAt t.ps (t.ks.map (flat d)) j = []) := Lib.hid (by rw [show j = t.ps.length + 1 by have := HNP.out; omega]; exact restAt_end (by simp; have := HKL.out; omega))
    clear hbk
    go_wp2
    go_ret
    refine VisPB.mk true rfl ((Trn.ofExt HE1.out).trans (HKP.out.trans (Trn.ofExt (ex_)))) (.inl ⟨rfl, ?_, ?_⟩)
    ·
     rw [← HD.out, HR.out]; simpa using HC.out
    ·
     rw [← HD.out, HR.out]; simpa using HIX.out _ _ _ HII.out (ex_)

set_option maxHeartbeats 2000000 in
theorem visit_nil (p : MP) (f : Value) (w : World) : Calls Tryz.prog 198 #[.pointer none, pv p, f] w fun e w' => e = .returned (.bool true) ∧ Ext w w' := by
 go_enter Tryz.func198, Tryz.ntmps198
 go_wp2
 go_ret
 exact ⟨rfl, ex_⟩

end Go.Proofs.YtdiaecgpjgdkdaaGreat
