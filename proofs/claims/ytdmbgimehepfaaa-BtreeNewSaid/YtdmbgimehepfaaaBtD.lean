/- Delete. -/
import Derived.Test.YtdmbgimehepfaaaBtZ
set_option linter.unusedSimpArgs false
set_option linter.unusedVariables false
namespace Go.Proofs.Ytdmbgimehepfaaa
open Go.RowKit


structure DelS (base tb m : Nat) (w W : World) (l : List MP) (F : List Nat) (p : MP) (d : Nat) (t : MT) : Prop where
  hb : base ≤ W.heap.size
  htb : W.heap[tb]? = some (.cells #[pt t.r, .int .i64 m, .int .i64 l.length] TT (0, 0))
  good : Good base W d t
  nd : (foot d t).Nodup
  tn : tb ∉ foot d t
  wf : Wf m d 1 m t
  srt : Srt (flat d t)
  key : ∀ q ∈ flat d t, KOk base W q
  kr : KR W p
  ex : ∃ q ∈ flat d t, q.kp = p.kp
  fl : flat d t = l
  mt : Mut base (tb :: F) w W
  new : ∀ x ∈ foot d t, x ∈ F ∨ w.heap.size ≤ x
  ll : l.length ≤ 1048576
  hbt : base ≤ tb
theorem DelS.rem {base tb m : Nat} {w W : World} {l : List MP} {F : List Nat} {p : MP} {d : Nat} {t : MT} (hm : 2 ≤ m) (hm2 : m ≤ 64) (h : DelS base tb m w W l F p d t) : ∀ W', Ext W W' → Calls Try.prog 32 #[pt tb, pt t.r, pv p] W' fun e w' => e = .returned (.tuple #[]) ∧ ∃ t', Upd base d W' w' t t' ∧ Rem p.kp (flat d t) (flat d t') ∧ Wf m d 0 m t' := fun W' hE =>
  remove_any base m tb hm hm2 d 1 t p W' (Nat.le_refl _) (Nat.le_trans h.hb hE.size) (hE.cell' (three_cells h.htb).2.2.1) h.tn (h.good.ext hE) h.nd h.wf h.srt (fun q hq => (h.key q hq).ext hE) (h.kr.ext hE) h.ex
/-- the end: the subtree u of t1 is the tree now -/
theorem DelS.fin {base tb m e : Nat} {w W w3 W' : World} {l : List MP} {F : List Nat} {p : MP} {d : Nat} {t t1 u : MT} (h : DelS base tb m w W l F p d t) (hU : Upd base d W w3 t t1) (hI : Rem p.kp (flat d t) (flat d t1)) (hM' : Mut base [tb] w3 W')
    (hg : Good base w3 e u) (hs : ∀ b ∈ foot e u, b ∈ foot d t1) (hnd : (foot e u).Nodup) (hw : Wf m e 1 m u) (hf : flat e u = flat d t1) (e0 : W'.heap[tb]? = some (.cells #[pt u.r, .int .i64 m, .int .i64 ((flat d t1).length : Nat)] TT (0, 0))) :
    TreeIs base W' tb m (flat d t1) (foot e u) ∧ Mut base (tb :: F) w W' ∧ (∀ x ∈ foot e u, x ∈ F ∨ w.heap.size ≤ x) := by
  have htl := (Array.getElem?_eq_some_iff.1 h.htb).1
  have hn : tb ∉ foot e u := fun e => (hU.new tb (hs tb e)).elim h.tn fun e => by omega
  have hM : Mut base (tb :: F) w w3 := h.mt.trans hU.tur fun b hb => (h.new b hb).imp (fun e => List.mem_cons_of_mem _ e) id
  have hlen := hI.length
  refine ⟨⟨h.hbt, hn, hI.sorted h.srt, fun q hq => hM'.key (hU.tur.key (h.key q (hI.mem hq))), by have := h.ll; rw [h.fl] at hlen; omega, .inr ⟨e, u, e0, hg.mut hM' fun b hb e => by simp at e; subst e; exact hn hb, hnd, hw, hf, rfl⟩⟩, hM.trans hM' fun b hb => by simp at hb; subst hb; exact .inl (by simp), fun x hx => ?_⟩
  rcases hU.new x (hs x hx) with e | e
  · exact h.new x e
  · exact .inr (Nat.le_trans h.mt.size e)
theorem DelS.fin0 {base tb m : Nat} {w W w3 W' : World} {l : List MP} {F : List Nat} {p : MP} {d : Nat} {t t1 : MT} (h : DelS base tb m w W l F p d t) (hU : Upd base d W w3 t t1) (hM' : Mut base [tb] w3 W') (e0 : W'.heap[tb]? = some (.cells #[.pointer none, .int .i64 m, .int .i64 0] TT (0, 0))) :
    TreeIs base W' tb m [] [] ∧ Mut base (tb :: F) w W' := by
  have hM : Mut base (tb :: F) w w3 := h.mt.trans hU.tur fun b hb => (h.new b hb).imp (fun e => List.mem_cons_of_mem _ e) id
  exact ⟨⟨h.hbt, by simp, List.Pairwise.nil, by simp, by simp, .inl ⟨rfl, rfl, e0⟩⟩, hM.trans hM' fun b hb => by simp at hb; subst hb; exact .inl (by simp)⟩
theorem mut_one {base tb : Nat} {w : World} (hb : base ≤ tb) {c : Array Value} (e : w.heap[tb]? = some (.cells c TT (0, 0))) : Mut base [tb] w w :=
  Mut.start (fun b hb' _ => by simp at hb'; subst hb'; exact hb) fun b hb' c ty f e' => by
    simp at hb'; subst hb'
    rw [e] at e'; simp at e'; exact .inr (.inr (.inr e'.2.1.symm))


set_option maxRecDepth 100000 in
set_option maxHeartbeats 16000000 in
theorem Delete_any (base m tb : Nat) (l : List MP) (F : List Nat) (A : Option Addr) (n c : Nat) (K : List Va) (id : Int) (w : World) (hm : 2 ≤ m) (hm2 : m ≤ 64) (hbw : base ≤ w.heap.size) (hT : TreeIs base w tb m l F) (hR : Rd w 3 A n (vcl K)) (hn : n = K.length) (hK : K.length ≤ 1048576) :
    Calls Try.prog 11 #[pt tb, .slice A n c, .int .i64 id] w fun e w' => ∃ b l' F', e = .returned (.bool b) ∧ TreeIs base w' tb m l' F' ∧ Mut base (tb :: F) w w' ∧ (∀ x ∈ F', x ∈ F ∨ w.heap.size ≤ x) ∧ ((b = false ∧ (¬ ∃ q ∈ l, q.kp = (K, id)) ∧ l' = l) ∨ (b = true ∧ Rem (K, id) l l')) := by
  subst hn
  have HT := Lib.hid hT
  have HB := Lib.hid hbw
  have htl := (hT.old tb (by simp)).2.1
  have HKR : Hid (KR w (⟨A, K.length, c, K, id⟩ : MP)) := Lib.hid ⟨rfl, hR, hK⟩
  clear hT hR hbw
  rcases HT.out.root with ⟨hl0, hF0, h0⟩ | ⟨d, t, h0, hG, hND, hW, hfl, hF⟩
  · have HHA : Hid (∀ W, Ext w W → Calls Try.prog 29 #[pt tb, pv (⟨A, K.length, c, K, id⟩ : MP)] W fun e w' => e = .returned (.bool false) ∧ Ext W w') := Lib.hid fun W hE => has_none tb _ _ (⟨A, K.length, c, K, id⟩ : MP) W (hE.at h0)
    have HNO : Hid (¬ ∃ q ∈ l, q.kp = (K, id)) := Lib.hid (by rw [hl0]; simp)
    clear hl0 hF0 h0
    go_enter Try.func11, Try.ntmps11
    go_wp2_with fail
    refine Calls.mono (HHA.out _ (by repeat (first | exact Ext.refl' _ | assumption | apply Ext.ex' | apply Ext.al | apply Ext.drN | apply Ext.dr))) ?_
    rintro e w2 ⟨rfl, hb2⟩
    have hE2 : Ext w w2 := (Ext.al1 _ _).tr hb2
    clear hb2
    go_wp2
    go_ret
    exact ⟨false, l, F, rfl, HT.out.ext (by repeat (first | exact Ext.refl' _ | assumption | apply Ext.ex' | apply Ext.al | apply Ext.drN | apply Ext.dr)), Mut.start' HT.out (by repeat (first | exact Ext.refl' _ | assumption | apply Ext.ex' | apply Ext.al | apply Ext.drN | apply Ext.dr)), fun x hx => .inl hx, .inl ⟨rfl, HNO.out, rfl⟩⟩
  · have HHA : Hid (∀ W, Ext w W → Calls Try.prog 29 #[pt tb, pv (⟨A, K.length, c, K, id⟩ : MP)] W fun e w' => ∃ b : Bool, (b = true ↔ ∃ q ∈ flat d t, q.kp = (K, id)) ∧ e = .returned (.bool b) ∧ Ext W w') := Lib.hid fun W hE => has_any base m tb d _ _ t (⟨A, K.length, c, K, id⟩ : MP) W hm hm2 (hE.at h0) (hG.ext hE) hW (hfl ▸ HT.out.srt) (fun q hq => (HT.out.key q (hfl ▸ hq)).ext hE) (HKR.out.ext hE)
    go_enter Try.func11, Try.ntmps11
    go_wp2_with fail
    refine Calls.mono (HHA.out _ (by repeat (first | exact Ext.refl' _ | assumption | apply Ext.ex' | apply Ext.al | apply Ext.drN | apply Ext.dr))) ?_
    rintro e w2 ⟨b, hbi, rfl, hb2⟩
    have hE2 : Ext w w2 := (Ext.al1 _ _).tr hb2
    have hbk := al_at hb2
    obtain ⟨_, z0, z1, _, _⟩ := two_cells hbk
    have htb2 := hE2.at h0
    obtain ⟨rb, c0, c1', c2, f0, f1, f2⟩ := three_cells htb2
    obtain ⟨bx, hbx⟩ : ∃ bx, w.heap.size = bx := ⟨_, rfl⟩
    rw [hbx] at hbk z0 z1 ⊢
    rw [hfl] at hbi
    have HBI := Lib.hid hbi
    cases b with
    | false =>
      clear hbk htb2 hb2 HHA h0 hbi
      go_wp2
      go_ret
      exact ⟨false, l, F, rfl, HT.out.ext (by repeat (first | exact Ext.refl' _ | assumption | apply Ext.ex' | apply Ext.al | apply Ext.drN | apply Ext.dr)), Mut.start' HT.out (by repeat (first | exact Ext.refl' _ | assumption | apply Ext.ex' | apply Ext.al | apply Ext.drN | apply Ext.dr)), fun x hx => .inl hx, .inl ⟨rfl, by simpa using HBI.out, rfl⟩⟩
    | true =>
      have hyes : ∃ q ∈ l, q.kp = (K, id) := HBI.out.1 rfl
      obtain ⟨j, hlj⟩ : ∃ j, l.length = j + 1 := by
        obtain ⟨q, hq, _⟩ := hyes
        exact ⟨l.length - 1, by have := List.length_pos_of_mem hq; omega⟩
      have hjl : j ≤ 1048576 := by have := HT.out.len; omega
      have HDS : Hid (DelS base tb m w w2 l F (⟨A, K.length, c, K, id⟩ : MP) d t) := Lib.hid ⟨Nat.le_trans HB.out hE2.size, htb2, hG.ext hE2, hND, by rw [← hF]; exact HT.out.nF, hW, hfl ▸ HT.out.srt, fun q hq => (HT.out.key q (hfl ▸ hq)).ext hE2, HKR.out.ext hE2, by rw [hfl]; exact hyes, hfl, Mut.start' HT.out hE2, fun x hx => .inl (by rw [hF]; exact hx), HT.out.len, HT.out.hb⟩
      have HRM := Lib.hid (DelS.rem hm hm2 HDS.out)
      have HFL := Lib.hid hfl
      rw [hlj] at c2
      clear hbk htb2 hb2 HHA h0 hbi hyes hG hND hW hfl hF
      go_wp2
      refine wp_region_T 6 (S := (fun w' => w'.cell? ⟨tb, 0, none⟩ = some (pt t.r) ∧ w'.cell? ⟨bx, 0, none⟩ = some (.slice A K.length c) ∧ w'.cell? ⟨bx, 1, none⟩ = some (.int .i64 id))) (by kernel_rfl) (by simp [go_sem, ↓IntWalk.iteOmega, *]) (fun hHeld => ?_)
      refine wpAnyT_take (i := 0) (oi := ?oi1) (v := ?v1) ?hi1 (by kernel_rfl) (by kernel_rfl) (by kernel_rfl) (by kernel_rfl) (by kernel_rfl) ?hQ1 ?hy1 (by assumption) ?_
      case hi1 => (simp only [List.getElem?_toArray, List.getElem?_cons_succ, List.getElem?_cons_zero]; try rfl)
      case hQ1 => exact fun _ _ _ h => h
      case hy1 => (refine Or.inl ⟨by rfl, ?_⟩; intro wq hSw; (try dsimp only at hSw); go_simp; (try with_reducible rfl))
      (try simp only [Act.put, List.setIfInBounds_toArray, List.set_cons_zero, List.set_cons_succ])
      refine wpAnyT_take (i := 1) (oi := ?oi2) (v := ?v2) ?hi2 (by kernel_rfl) (by kernel_rfl) (by kernel_rfl) (by kernel_rfl) (by kernel_rfl) ?hQ2 ?hy2 (by assumption) ?_
      case hi2 => (simp only [List.getElem?_toArray, List.getElem?_cons_succ, List.getElem?_cons_zero]; try rfl)
      case hQ2 => exact fun _ _ _ h => h
      case hy2 => (refine Or.inl ⟨by rfl, ?_⟩; intro wq hSw; (try dsimp only at hSw); go_simp; (try with_reducible rfl))
      (try simp only [Act.put, List.setIfInBounds_toArray, List.set_cons_zero, List.set_cons_succ])
      refine wpAnyT_take (i := 2) (oi := ?oi3) (v := ?v3) ?hi3 (by kernel_rfl) (by kernel_rfl) (by kernel_rfl) (by kernel_rfl) (by kernel_rfl) ?hQ3 ?hy3 (by assumption) ?_
      case hi3 => (simp only [List.getElem?_toArray, List.getElem?_cons_succ, List.getElem?_cons_zero]; try rfl)
      case hQ3 => exact fun _ _ _ h => h
      case hy3 => (refine Or.inl ⟨by rfl, ?_⟩; intro wq hSw; (try dsimp only at hSw); go_simp; (try with_reducible rfl))
      (try simp only [Act.put, List.setIfInBounds_toArray, List.set_cons_zero, List.set_cons_succ])
      refine wpAnyT_take (i := 3) (oi := ?oi4) (v := ?v4) ?hi4 (by kernel_rfl) (by kernel_rfl) (by kernel_rfl) (by kernel_rfl) (by kernel_rfl) ?hQ4 ?hy4 (by assumption) ?_
      case hi4 => (simp only [List.getElem?_toArray, List.getElem?_cons_succ, List.getElem?_cons_zero]; try rfl)
      case hQ4 => exact fun _ _ _ h => h
      case hy4 => (refine Or.inl ⟨by rfl, ?_⟩; intro wq hSw; (try dsimp only at hSw); go_simp; (try with_reducible rfl))
      (try simp only [Act.put, List.setIfInBounds_toArray, List.set_cons_zero, List.set_cons_succ])
      refine wpAnyT_take (i := 4) (oi := ?oi5) (v := ?v5) ?hi5 (by kernel_rfl) (by kernel_rfl) (by kernel_rfl) (by kernel_rfl) (by kernel_rfl) ?hQ5 ?hy5 (by assumption) ?_
      case hi5 => (simp only [List.getElem?_toArray, List.getElem?_cons_succ, List.getElem?_cons_zero]; try rfl)
      case hQ5 => exact fun _ _ _ h => h
      case hy5 => (refine Or.inl ⟨by rfl, ?_⟩; intro wq hSw; (try dsimp only at hSw); go_simp; (try with_reducible rfl))
      (try simp only [Act.put, List.setIfInBounds_toArray, List.set_cons_zero, List.set_cons_succ])
      refine wpAnyT_take (i := 5) (oi := ?oi6) (v := ?v6) ?hi6 (by kernel_rfl) (by kernel_rfl) (by kernel_rfl) (by kernel_rfl) (by kernel_rfl) ?hQ6 ?hy6 (by assumption) ?_
      case hi6 => (simp only [List.getElem?_toArray, List.getElem?_cons_succ, List.getElem?_cons_zero]; try rfl)
      case hQ6 => exact fun _ _ _ h => h
      case hy6 => (refine Or.inl ⟨by rfl, ?_⟩; intro wq hSw; (try dsimp only at hSw); go_simp; (try with_reducible rfl))
      (try simp only [Act.put, List.setIfInBounds_toArray, List.set_cons_zero, List.set_cons_succ])
      refine wpAnyT_ready (rs := [6]) (by kernel_rfl) (by simp) ?_
      refine AllReadyT.last (o := ?oi7) ?hi7 ?ti7
      case hi7 => (simp only [List.getElem?_toArray, List.getElem?_cons_succ, List.getElem?_cons_zero]; try rfl)
      case ti7 =>
        intro KQ hKQ
        go_simp
        go_at_call 32
        refine Calls.mono (HRM.out _ (by repeat (first | exact Ext.refl' _ | assumption | apply Ext.ex' | apply Ext.al | apply Ext.drN | apply Ext.dr))) ?_
        rintro e w3 ⟨rfl, t1, hU, hI, hWf⟩
        refine hKQ.out _ _ ?_
        clear hKQ KQ hHeld
        (try simp only [Act.put, List.setIfInBounds_toArray, List.set_cons_zero, List.set_cons_succ])
        refine wpAnyT_done (by kernel_rfl) ?_ _
        have hU := Upd.pre HDS.out.good HDS.out.nd (by repeat (first | exact Ext.refl' _ | assumption | apply Ext.ex' | apply Ext.al | apply Ext.drN | apply Ext.dr)) hU
        have htb3 := hU.tur.block HDS.out.htb HDS.out.tn
        have hr1 := hU.r
        rw [← hr1, hlj] at htb3
        have HU := Lib.hid hU
        have HI := Lib.hid hI
        have HWF := Lib.hid hWf
        have HTB3 := Lib.hid htb3
        have hlen := hI.length
        rw [HFL.out, hlj] at hlen
        have HLEN : Hid ((flat d t1).length = j) := Lib.hid (by omega)
        have hnode := hU.good.node
        obtain ⟨Ap, cp, hpv, _, _, _⟩ := own_form2 hnode.op
        have hnp := hnode.hp
        rw [hpv] at hnp
        clear c0 c1' c2 f0 f1 f2 rb z0 z1 hlj hlen
        have HLJ : Hid True := Lib.hid trivial
        obtain ⟨rb, c0, c1', c2, f0, f1, f2⟩ := three_cells htb3
        obtain ⟨rk, k0, k1, _, _⟩ := two_cells hnp
        have HM0 := Lib.hid (mut_one HDS.out.hbt htb3)
        have HM1 := Lib.hid (mut_tb (tb := tb) (S := [tb]) (o := 2) (u := .int .i64 (j : Int)) HM0.out (by simp))
        have HE1 := Lib.hid (set_heap htb3 2 (.int .i64 (j : Int)))
        have hne : t1.r ≠ tb := fun e => by
          rcases hU.new t1.r (own_sub _ (by simp [MT.own])) with h | h
          · exact HDS.out.tn (e ▸ h)
          · have := (Array.getElem?_eq_some_iff.1 HDS.out.htb).1; omega
        clear hU hI hWf htb3 hr1 hnode hnp
        have hwj : IntKind.i64.wrap (j : Int) = (j : Int) := IntWalk.i64_in _ (by omega)
        obtain ⟨np, hnpl⟩ : ∃ np, t1.ps.length = np := ⟨_, rfl⟩
        rw [hnpl] at k0
        have HNP := Lib.hid hnpl
        clear hnpl
        by_cases hp0 : np = 0
        · subst hp0
          cases d with
          | zero =>
            have hks : t1.ks = [] := HWF.out.1
            obtain ⟨Ak, ck, hkv, _, _, _⟩ := own_form2 (HU.out.good.node).ok
            rw [hkv, hks] at k1
            have hj0 : j = 0 := by have := HLEN.out; have e : (flat 0 t1).length = t1.ps.length := rfl; have := HNP.out; omega
            have HF0 : Hid (flat 0 t1 = []) := Lib.hid (List.eq_nil_of_length_eq_zero (by have := HLEN.out; omega))
            have HM2 := Lib.hid (mut_tb (tb := tb) (S := [tb]) (o := 0) (u := .pointer none) HM1.out (by simp))
            have HE2 := Lib.hid (set_heap HE1.out 0 (.pointer none))
            have HJ0 := Lib.hid hj0
            clear hks hkv hj0
            go_wp2
            go_ret
            have hI2 := HI.out
            rw [HFL.out, HF0.out] at hI2
            have hf := DelS.fin0 HDS.out HU.out HM2.out (by have := HE2.out; rw [HJ0.out] at this ⊢; exact this)
            first
            | exact ⟨true, [], [], rfl, hf.1, hf.2, by simp, .inr ⟨rfl, hI2⟩⟩
            | exact ⟨true, [], [], rfl, hf.1.ext (by repeat (first | exact Ext.refl' _ | assumption | apply Ext.ex' | apply Ext.al | apply Ext.drN | apply Ext.dr)), hf.2.step (T := []) rfl rfl rfl (Nat.le_refl _) (fun _ _ _ => rfl) (by simp), by simp, .inr ⟨rfl, hI2⟩⟩
          | succ d =>
            obtain ⟨e1, _, _, e4⟩ := HWF.out
            obtain ⟨k, hk⟩ : ∃ k, t1.ks[0]? = some k := ⟨_, List.getElem?_eq_getElem (by have := HNP.out; omega)⟩
            have hkl : t1.ks.length = 1 := by have := HNP.out; omega
            obtain ⟨kb, ck, hkv, _, _⟩ := own_ne0 (HU.out.good.node).ok (by omega)
            rw [hkv, hkl] at k1
            have hop := (HU.out.good.node).ok
            rw [hkv, hkl] at hop
            obtain ⟨hkb, q0⟩ := ownQ_at hop hk
            have hkne : kb ≠ tb := fun e => by
              have hin : kb ∈ t1.own := by simp [MT.own, hkv, ob, Value.ownBlock]
              rcases HU.out.new kb (own_sub _ hin) with h | h
              · exact HDS.out.tn (e ▸ h)
              · have := (Array.getElem?_eq_some_iff.1 HDS.out.htb).1; omega
            have HM2 := Lib.hid (mut_tb (tb := tb) (S := [tb]) (o := 0) (u := pt k.r) HM1.out (by simp))
            have HE2 := Lib.hid (set_heap HE1.out 0 (pt k.r))
            have HKM := Lib.hid (List.mem_of_getElem? hk)
            have HWK := Lib.hid (e4 k (List.mem_of_getElem? hk))
            have hks : t1.ks = [k] := by
              cases h : t1.ks with
              | nil => rw [h] at hkl; cases hkl
              | cons a r => rw [h] at hkl hk; simp at hkl hk; subst hk; rw [hkl]
            have HFK : Hid (flat d k = flat (d + 1) t1) := Lib.hid (by
              show _ = inter t1.ps (t1.ks.map (flat d))
              rw [hks, List.eq_nil_of_length_eq_zero HNP.out]
              rfl)
            clear e1 e4 hk hkl hkv hop hks
            go_wp2
            go_ret
            have hf := DelS.fin (e := d) (u := k) HDS.out HU.out HI.out HM2.out (HU.out.good.kid HKM.out) (fun b hb => foot_kid HKM.out b hb) (foot_of_kid HU.out.nodup HKM.out) (HWK.out.le (by omega) (Nat.le_refl _)) HFK.out (by have := HE2.out; rw [HLEN.out]; exact this)
            exact ⟨true, _, _, rfl, hf.1, hf.2.1, hf.2.2, .inr ⟨rfl, HFL.out ▸ HI.out⟩⟩
        · have hp1 : ¬ ((np : Int) = 0) := by omega
          have HNP0 := Lib.hid hp0
          go_wp2
          go_ret
          have hf := DelS.fin (e := d) (u := t1) HDS.out HU.out HI.out HM1.out HU.out.good (fun b hb => hb) HU.out.nodup (wf_iff.2 ⟨(wf_iff.1 HWF.out).1, by have := HNP0.out; have := HNP.out; omega, (wf_iff.1 HWF.out).2.2⟩) rfl (by have := HE1.out; rw [HLEN.out]; exact this)
          exact ⟨true, _, _, rfl, hf.1, hf.2.1, hf.2.2, .inr ⟨rfl, HFL.out ▸ HI.out⟩⟩

end Go.Proofs.Ytdmbgimehepfaaa
