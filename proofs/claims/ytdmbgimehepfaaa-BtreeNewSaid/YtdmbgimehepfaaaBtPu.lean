/- A pair put into a subtree. -/
import Derived.Test.YtdmbgimehepfaaaBtW
set_option linter.unusedSimpArgs false
set_option linter.unusedVariables false
namespace Go.Proofs.Ytdmbgimehepfaaa
open Go.RowKit


theorem Upd.one {base d n m : Nat} {w W : World} {t : MT} {vp vk : Value} {P : List MP} {X Y : List Value} (hG : Good base w d t) (hnd : (foot d t).Nodup) (H : Hp base t.own w W [⟨t.r, #[vp, vk], TN⟩] [⟨vp, TP, 2, n, X⟩, ⟨vk, TQ, 1, m, Y⟩]) (e1 : n = P.length) (e2 : m = t.ks.length) (x1 : X = mpl P) (y1 : Y = ptl (t.ks.map MT.r)) : Upd base d w W t (.nd t.r vp vk P t.ks) := by
  subst e1 e2 x1 y1
  have hok : NodeOk base W (.nd t.r vp vk P t.ks) := H.node 0 0 1 rfl rfl rfl
  have hn : (MT.nd t.r vp vk P t.ks).own.Nodup := by
    have hd := H.dis
    simp only [MT.own, MT.r, MT.vp, MT.vk, blks, List.map_cons, List.map_nil, List.flatMap_cons, List.flatMap_nil, List.append_nil, List.nodup_append, List.nodup_cons, List.mem_append, List.mem_cons, List.not_mem_nil, or_false] at hd ⊢
    grind
  have hw : ∀ b ∈ (MT.nd t.r vp vk P t.ks).own, b ∈ t.own ∨ w.heap.size ≤ b := fun b hb => H.new b (by
    simp only [MT.own, MT.r, MT.vp, MT.vk, blks, List.map_cons, List.map_nil, List.flatMap_cons, List.flatMap_nil, List.append_nil, List.nodup_append, List.nodup_cons, List.mem_append, List.mem_cons, List.not_mem_nil, or_false] at hb ⊢
    grind)
  cases d with
  | zero => exact ⟨rfl, hok, hn, hw, H.mu⟩
  | succ d => exact Upd.mid (K1 := t.ks) (X := []) (X' := []) (K2 := []) hG hnd (by simp) (by simp [MT.ks]) rfl rfl hok (by simp) (by simpa using hn) (by simpa using hw) (by simpa using H.mu)
theorem Upd.pre {base d : Nat} {w W w' : World} {t t' : MT} (hG : Good base w d t) (hn : (foot d t).Nodup) (e : Ext w W) (h : Upd base d W w' t t') : Upd base d w w' t t' := (Upd.refl hG hn e).trans h
theorem Mut.cell {base : Nat} {S : List Nat} {w w' : World} (h : Mut base S w w') {b o : Nat} {v : Value} (hc : w.cell? ⟨b, o, none⟩ = some v) (hb : b ∉ S) : w'.cell? ⟨b, o, none⟩ = some v := (World.cell?_of_block (h.same b (cell_lt hc) hb)).trans hc
theorem ptl_ins {K : List MT} {i : Nat} {k l r : MT} (hk : K[i]? = some k) (hr : l.r = k.r) : (ptl (K.map MT.r)).take (i + 1) ++ ([pt r.r] ++ (ptl (K.map MT.r)).drop (i + 1)) = ptl ((K.take i ++ l :: r :: K.drop (i + 1)).map MT.r) := by
  obtain ⟨hi, rfl⟩ := List.getElem?_eq_some_iff.1 hk
  rw [ptl_take, ptl_drop, List.take_succ_eq_append_getElem hi]
  unfold ptl
  simp only [List.map_append, List.map_cons, List.map_nil, hr, List.append_assoc, List.cons_append, List.nil_append]
theorem al_at {w W : World} {o : Obj} (e : Ext (w.alloc o) W) : W.heap[w.heap.size]? = some o := e.at (heap_alloc_new _ _)


set_option maxRecDepth 100000 in
set_option maxHeartbeats 16000000 in
theorem put_any (base m tb : Nat) (hm : 2 ≤ m) (hm2 : m ≤ 64) : ∀ (d lo : Nat) (t : MT) (p : MP) (w : World), base ≤ w.heap.size → w.cell? ⟨tb, 1, none⟩ = some (.int .i64 m) → tb ∉ foot d t → Good base w d t → (foot d t).Nodup → Wf m d lo m t → Srt (flat d t) → (∀ q ∈ flat d t, KOk base w q) → KOk base w p → (∀ q ∈ flat d t, q.kp ≠ p.kp) →
    Calls Try.prog 30 #[pt tb, pt t.r, pv p] w fun e w' => e = .returned (.tuple #[]) ∧ ∃ t', Upd base d w w' t t' ∧ Ins p (flat d t) (flat d t') ∧ Wf m d lo (m + 1) t' := by
  intro d
  induction d with
  | zero =>
    intro lo t p w hbw htb htf hG hnd hW hs hk hp hne
    obtain ⟨hks, hlo, hhi⟩ := hW
    have hpl : t.ps.length ≤ 64 := by omega
    have HFI : Hid (∀ W, Ext w W → Calls Try.prog 48 #[pt t.r, pv p] W fun e w' => ∃ i : Nat, i ≤ t.ps.length ∧ (∀ q ∈ t.ps.take i, ltP q.kp p.kp) ∧ (∀ q ∈ t.ps.drop i, ¬ ltP q.kp p.kp) ∧ e = .returned (.tuple #[.int .i64 i, .bool (foundB t.ps i p.kp)]) ∧ Ext W w') := Lib.hid fun W hE => find_any base t p W (Good.ext (d := 0) hG hE) (by omega) hs (fun q hq => ((hk q hq).kr).ext hE) (hp.kr.ext hE)
    have HG := Lib.hid hG
    have HND := Lib.hid hnd
    have HNE := Lib.hid hne
    have HS := Lib.hid hs
    have HB := Lib.hid hbw
    have hvk : t.vk = .slice none 0 0 ∨ ∃ A c, t.vk = .slice A 0 c := by
      obtain ⟨A, c, h1, _⟩ := own_form2 (Good.node (d := 0) hG).ok
      rw [hks] at h1
      exact .inr ⟨A, c, h1⟩
    obtain ⟨Ak, ck, hvk⟩ : ∃ A c, t.vk = .slice A 0 c := by rcases hvk with h | h; exact ⟨none, 0, h⟩; exact h
    have hr0 := (Array.getElem?_eq_some_iff.1 (Good.node (d := 0) hG).hp).1
    have HWF := Lib.hid hks
    clear hs hk hp hne hG hnd hbw
    go_enter Try.func30, Try.ntmps30
    go_wp2_with fail
    refine Calls.mono (HFI.out _ (by repeat (first | exact Ext.refl' _ | assumption | apply Ext.ex' | apply Ext.al | apply Ext.drN | apply Ext.dr))) ?_
    rintro e w1 ⟨i, hi, hlt, hge, rfl, hb1⟩
    have hE1 : Ext w w1 := (Ext.al1 w _).tr hb1
    obtain ⟨_, z0, z1, _, _⟩ := two_cells (al_at hb1)
    have hbs : w.heap.size < w1.heap.size := Nat.lt_of_lt_of_le (by simp) hb1.size
    have H1 := Lib.hid ((Hp.ofNode HB.out HG.out HND.out).ext hE1)
    have HINS : Hid (Ins p t.ps (t.ps.take i ++ p :: t.ps.drop i)) := Lib.hid (ins_at hlt hge HNE.out)
    have HF0 : Hid (some w.heap.size ≠ t.vp.ownBlock) := Lib.hid fun h => by have := ((Good.node (d := 0) HG.out).op.lt _ h.symm).2; omega
    obtain ⟨rt, t0, t1, ft0, ft1⟩ := H1.out.two 0 rfl
    rw [hvk] at t1
    obtain ⟨bx, hbx⟩ : ∃ bx, w.heap.size = bx := ⟨_, rfl⟩
    rw [hbx] at z0 z1 hbs HF0 hr0 ⊢
    clear hb1 hlt hge
    generalize foundB t.ps i p.kp = fb
    go_wp2
    refine wp_region_T 11 (S := (fun w' => w'.cell? ⟨t.r, 0, none⟩ = some t.vp ∧ w'.cell? ⟨bx, 0, none⟩ = some (.slice p.A p.n p.c) ∧ w'.cell? ⟨bx, 1, none⟩ = some (.int .i64 p.id))) (by kernel_rfl) (by simp [go_sem, ↓IntWalk.iteOmega, *]) (fun hHeld => ?_)
    refine wpAnyT_take (i := 0) (oi := ?oi1) (v := ?v1) ?hi1 (by kernel_rfl) (by kernel_rfl) (by kernel_rfl) (by kernel_rfl) (by kernel_rfl) ?hQ1 ?hy1 (by assumption) ?_
    case hi1 => (simp only [List.getElem?_toArray, List.getElem?_cons_succ, List.getElem?_cons_zero]; try rfl)
    case hQ1 => exact fun _ _ _ h => h
    case hy1 => (refine Or.inl ⟨by rfl, ?_⟩; intro wq hSw; (try dsimp only at hSw); go_simp; (try with_reducible rfl))
    (try simp only [Act.put, List.setIfInBounds_toArray, List.set_cons_zero, List.set_cons_succ])
    refine wpAnyT_take (i := 1) (oi := ?oi2) (v := ?v2) ?hi2 (by kernel_rfl) (by kernel_rfl) (by kernel_rfl) (by kernel_rfl) (by kernel_rfl) ?hQ2 ?hy2 (by assumption) ?_
    case hi2 => (simp only [List.getElem?_toArray, List.getElem?_cons_succ, List.getElem?_cons_zero]; try rfl)
    case hQ2 => exact fun _ _ _ h => h
    case hy2 => (refine Or.inl ⟨by rfl, ?_⟩; intro wq hSw; (try dsimp only at hSw); go_simp; (try with_reducible rfl))
    (try simp only [Act.put, List.setIfInBounds_toArray, List.set_cons_zero, List.set_cons_succ])
    refine wpAnyT_take (i := 2) (oi := ?oi3) (v := ?v3) ?hi3 (by kernel_rfl) (by kernel_rfl) (by kernel_rfl) (by kernel_rfl) (by kernel_rfl) ?hQ3 ?hy3 (by assumption) ?_
    case hi3 => (simp only [List.getElem?_toArray, List.getElem?_cons_succ, List.getElem?_cons_zero]; try rfl)
    case hQ3 => exact fun _ _ _ h => h
    case hy3 => (refine Or.inl ⟨by rfl, ?_⟩; intro wq hSw; (try dsimp only at hSw); go_simp; (try with_reducible rfl))
    (try simp only [Act.put, List.setIfInBounds_toArray, List.set_cons_zero, List.set_cons_succ])
    refine wpAnyT_take (i := 3) (oi := ?oi4) (v := ?v4) ?hi4 (by kernel_rfl) (by kernel_rfl) (by kernel_rfl) (by kernel_rfl) (by kernel_rfl) ?hQ4 ?hy4 (by assumption) ?_
    case hi4 => (simp only [List.getElem?_toArray, List.getElem?_cons_succ, List.getElem?_cons_zero]; try rfl)
    case hQ4 => exact fun _ _ _ h => h
    case hy4 => (refine Or.inl ⟨by rfl, ?_⟩; intro wq hSw; (try dsimp only at hSw); go_simp; (try with_reducible rfl))
    (try simp only [Act.put, List.setIfInBounds_toArray, List.set_cons_zero, List.set_cons_succ])
    refine wpAnyT_take (i := 4) (oi := ?oi5) (v := ?v5) ?hi5 (by kernel_rfl) (by kernel_rfl) (by kernel_rfl) (by kernel_rfl) (by kernel_rfl) ?hQ5 ?hy5 (by assumption) ?_
    case hi5 => (simp only [List.getElem?_toArray, List.getElem?_cons_succ, List.getElem?_cons_zero]; try rfl)
    case hQ5 => exact fun _ _ _ h => h
    case hy5 => (refine Or.inl ⟨by rfl, ?_⟩; intro wq hSw; (try dsimp only at hSw); go_simp; (try with_reducible rfl))
    (try simp only [Act.put, List.setIfInBounds_toArray, List.set_cons_zero, List.set_cons_succ])
    refine wpAnyT_take (i := 5) (oi := ?oi6) (v := ?v6) ?hi6 (by kernel_rfl) (by kernel_rfl) (by kernel_rfl) (by kernel_rfl) (by kernel_rfl) ?hQ6 ?hy6 (by assumption) ?_
    case hi6 => (simp only [List.getElem?_toArray, List.getElem?_cons_succ, List.getElem?_cons_zero]; try rfl)
    case hQ6 => exact fun _ _ _ h => h
    case hy6 => (refine Or.inl ⟨by rfl, ?_⟩; intro wq hSw; (try dsimp only at hSw); go_simp; (try with_reducible rfl))
    (try simp only [Act.put, List.setIfInBounds_toArray, List.set_cons_zero, List.set_cons_succ])
    refine wpAnyT_take (i := 6) (oi := ?oi7) (v := ?v7) ?hi7 (by kernel_rfl) (by kernel_rfl) (by kernel_rfl) (by kernel_rfl) (by kernel_rfl) ?hQ7 ?hy7 (by assumption) ?_
    case hi7 => (simp only [List.getElem?_toArray, List.getElem?_cons_succ, List.getElem?_cons_zero]; try rfl)
    case hQ7 => exact fun _ _ _ h => h
    case hy7 => (refine Or.inl ⟨by rfl, ?_⟩; intro wq hSw; (try dsimp only at hSw); go_simp; (try with_reducible rfl))
    (try simp only [Act.put, List.setIfInBounds_toArray, List.set_cons_zero, List.set_cons_succ])
    refine wpAnyT_ready (rs := [7]) (by kernel_rfl) (by simp) ?_
    refine AllReadyT.cons (o := ?oi8) ?hi8 ?ti8 AllReadyT.nil
    case hi8 => (simp only [List.getElem?_toArray, List.getElem?_cons_succ, List.getElem?_cons_zero]; try rfl)
    case ti8 =>
      intro KQ hKQ
      go_simp
      refine hKQ.out _ _ (by simp [go_sem, ↓IntWalk.iteOmega, *]) (fun hHeld2 => ?_)
      clear hHeld hKQ KQ; have hHeld := hHeld2; clear hHeld2
      (try simp only [Act.put, List.setIfInBounds_toArray, List.set_cons_zero, List.set_cons_succ])
      refine wpAnyT_ready (rs := [8]) (by kernel_rfl) (by simp) ?_
      refine AllReadyT.cons (o := ?oi9) ?hi9 ?ti9 AllReadyT.nil
      case hi9 => (simp only [List.getElem?_toArray, List.getElem?_cons_succ, List.getElem?_cons_zero]; try rfl)
      case ti9 =>
        intro KQ hKQ
        go_simp
        go_at_call 49
        refine Calls.mono (insP_any base t.ps.length i w1.heap.size 1 t.vp (mpl t.ps) (mp2 p) _ (H1.out.ext (by repeat (first | exact Ext.refl' _ | assumption | apply Ext.ex' | apply Ext.al | apply Ext.drN | apply Ext.dr))).bs ((H1.out.ext (by repeat (first | exact Ext.refl' _ | assumption | apply Ext.ex' | apply Ext.al | apply Ext.drN | apply Ext.dr))).own 0 rfl) hi (by omega) (own_far (H1.out.own 0 rfl)) (al_new (by simp)) rfl (by intro u hu; simp [mp2] at hu; rcases hu with rfl | rfl <;> rfl) (oneCell_mpl _)) ?_
        rintro e w2 ⟨v2, rfl, ho2, hg2, hn2⟩
        obtain ⟨A2, k2, rfl, _, _, _⟩ := own_form2 ho2
        rw [mpl_take, mpl_drop, ← mpl_one, ← mpl_append, ← mpl_append] at ho2
        have hsz := hg2.size
        have hsz2 : w1.heap.size ≤ w2.heap.size := Nat.le_trans (Nat.le_of_lt (by simp)) hsz
        have z0 := World.grownBy.cell hg2 (cell_al z0) HF0.out
        have z1 := World.grownBy.cell hg2 (cell_al z1) HF0.out
        have H2 := Lib.hid ((H1.out.ext (by repeat (first | exact Ext.refl' _ | assumption | apply Ext.ex' | apply Ext.al | apply Ext.drN | apply Ext.dr))).grow 0 rfl hg2 ho2 hn2)
        clear ho2 hg2 hn2 t0 t1 ft0 ft1 rt
        obtain ⟨rt, t0, t1, ft0, ft1⟩ := H2.out.two 0 rfl
        refine hKQ.out _ _ (by simp [go_sem, ↓IntWalk.iteOmega, *]) (fun hHeld2 => ?_)
        clear hHeld hKQ KQ; have hHeld := hHeld2; clear hHeld2
        (try simp only [Act.put, List.setIfInBounds_toArray, List.set_cons_zero, List.set_cons_succ])
        refine wpAnyT_take (i := 9) (oi := ?oi10) (v := ?v10) ?hi10 (by kernel_rfl) (by kernel_rfl) (by kernel_rfl) (by kernel_rfl) (by kernel_rfl) ?hQ10 ?hy10 (by assumption) ?_
        case hi10 => (simp only [List.getElem?_toArray, List.getElem?_cons_succ, List.getElem?_cons_zero]; try rfl)
        case hQ10 => exact fun _ _ _ h => h
        case hy10 => (refine Or.inl ⟨by rfl, ?_⟩; intro wq hSw; (try dsimp only at hSw); go_simp; (try with_reducible rfl))
        (try simp only [Act.put, List.setIfInBounds_toArray, List.set_cons_zero, List.set_cons_succ])
        refine wpAnyT_take (i := 10) (oi := ?oi11) (v := ?v11) ?hi11 (by kernel_rfl) (by kernel_rfl) (by kernel_rfl) (by kernel_rfl) (by kernel_rfl) ?hQ11 ?hy11 (by assumption) ?_
        case hi11 => (simp only [List.getElem?_toArray, List.getElem?_cons_succ, List.getElem?_cons_zero]; try rfl)
        case hQ11 => exact fun _ _ _ h => h
        case hy11 => (refine Or.inl ⟨by rfl, ?_⟩; intro wq hSw; (try dsimp only at hSw); go_simp; (try with_reducible rfl))
        (try simp only [Act.put, List.setIfInBounds_toArray, List.set_cons_zero, List.set_cons_succ])
        refine wpAnyT_ready (rs := [11]) (by kernel_rfl) (by simp) ?_
        refine AllReadyT.last (o := ?oi12) ?hi12 ?ti12
        case hi12 => (simp only [List.getElem?_toArray, List.getElem?_cons_succ, List.getElem?_cons_zero]; try rfl)
        case ti12 =>
          intro KQ hKQ
          go_simp
          refine hKQ.out _ _ ?_
          clear hKQ KQ hHeld
          (try simp only [Act.put, List.setIfInBounds_toArray, List.set_cons_zero, List.set_cons_succ])
          refine wpAnyT_done (by kernel_rfl) ?_ _
          have H3 := H2.out.set 0 rfl 0 (.slice A2 (t.ps.length + 1) k2)
          go_wp2
          refine bodyPost_ret (v := .tuple #[]) ?_ rfl ?_
          · simp [results, Try.results30]
          have hU := Upd.one (d := 0) HG.out HND.out H3 (P := t.ps.take i ++ p :: t.ps.drop i) (by simp; omega) rfl (by simp) rfl
          exact ⟨rfl, _, hU, HINS.out, HWF.out, (by show lo ≤ (t.ps.take i ++ p :: t.ps.drop i).length; simp; omega), (by show (t.ps.take i ++ p :: t.ps.drop i).length ≤ m + 1; simp; omega)⟩
  | succ d ih =>
    intro lo t p w hbw htb htf hG hnd hW hs hk hp hne
    obtain ⟨hkl, hlo, hhi, hkw⟩ := hW
    have hpl : t.ps.length ≤ 64 := by omega
    have HFI : Hid (∀ W, Ext w W → Calls Try.prog 48 #[pt t.r, pv p] W fun e w' => ∃ i : Nat, i ≤ t.ps.length ∧ (∀ q ∈ t.ps.take i, ltP q.kp p.kp) ∧ (∀ q ∈ t.ps.drop i, ¬ ltP q.kp p.kp) ∧ e = .returned (.tuple #[.int .i64 i, .bool (foundB t.ps i p.kp)]) ∧ Ext W w') := Lib.hid fun W hE => find_any base t p W (hG.ext hE).1 (by omega) (List.Pairwise.sublist ps_sub hs) (fun q hq => ((hk q (ps_sub.subset hq)).kr).ext hE) (hp.kr.ext hE)
    have HG := Lib.hid hG
    have HND := Lib.hid hnd
    have HNE := Lib.hid hne
    have HS := Lib.hid hs
    have HK := Lib.hid hk
    have HP := Lib.hid hp
    have HB := Lib.hid hbw
    have HKL := Lib.hid hkl
    have HKW := Lib.hid hkw
    have HTF := Lib.hid htf
    obtain ⟨kb, c, hvk, hc, _⟩ := own_ne0 hG.1.ok (by omega)
    have hr0 := (Array.getElem?_eq_some_iff.1 hG.1.hp).1
    have htbl := cell_lt htb
    have HTBW := Lib.hid htb
    have HLOHI : Hid (lo ≤ t.ps.length ∧ t.ps.length ≤ m ∧ t.ps.length ≤ 64) := Lib.hid ⟨hlo, hhi, hpl⟩
    clear hs hk hp hne hnd hbw htf
    go_enter Try.func30, Try.ntmps30
    go_wp2_with fail
    refine Calls.mono (HFI.out _ (by repeat (first | exact Ext.refl' _ | assumption | apply Ext.ex' | apply Ext.al | apply Ext.drN | apply Ext.dr))) ?_
    rintro e w1 ⟨i, hi, hlt, hge, rfl, hb1⟩
    have hE1 : Ext w w1 := (Ext.al1 w _).tr hb1
    obtain ⟨_, z0, z1, _, _⟩ := two_cells (al_at hb1)
    have hbs : w.heap.size < w1.heap.size := Nat.lt_of_lt_of_le (by simp) hb1.size
    obtain ⟨k, hkk⟩ : ∃ k, t.ks[i]? = some k := ⟨_, List.getElem?_eq_getElem (by omega)⟩
    have hkm := List.mem_of_getElem? hkk
    have HIH : Hid (∀ W, Ext w W → Calls Try.prog 30 #[pt tb, pt k.r, pv p] W fun e w' => e = .returned (.tuple #[]) ∧ ∃ t', Upd base d W w' k t' ∧ Ins p (flat d k) (flat d t') ∧ Wf m d (m / 2) (m + 1) t') := Lib.hid fun W hE =>
      ih (m / 2) k p W (Nat.le_trans HB.out hE.size) (hE.cell' htb) (fun h => HTF.out (foot_kid hkm tb h)) ((HG.out.kid hkm).ext hE) (foot_of_kid HND.out hkm) (HKW.out k hkm) (List.Pairwise.sublist (kid_sub HKL.out hkk) HS.out) (fun q hq => (HK.out q ((kid_sub HKL.out hkk).subset hq)).ext hE) (HP.out.ext hE) (fun q hq => HNE.out q ((kid_sub HKL.out hkk).subset hq))
    have HAR := Lib.hid (around_kid (p := p.kp) HKL.out hkk HS.out hlt hge)
    have HFK := Lib.hid (flat_kid (d := d) HKL.out hkk)
    have HKS : Hid (t.ks = t.ks.take i ++ k :: t.ks.drop (i + 1)) := Lib.hid (one_at hkk)
    have HKK := Lib.hid hkk
    have HKNE : Hid (∀ q ∈ flat (d + 1) t, q.kp ≠ p.kp) := HNE
    have hop := (hG.1.same (fun b hb => hE1.block b (hG.1.old b hb).2.1)).ok
    have hnp := hE1.at hG.1.hp
    rw [hvk] at hop hnp
    obtain ⟨n, hn⟩ : ∃ n, t.ks.length = n := ⟨_, rfl⟩
    rw [hn] at hop hnp
    obtain ⟨hkb, q0⟩ := ownQ_at hop hkk
    obtain ⟨rt, t0, t1, ft0, ft1⟩ := two_cells hnp
    have htb := hE1.cell' htb
    have hin : (i : Int) < (n : Int) := by omega
    have hn0 : ¬ (n = 0) := by omega
    have hib : i ≤ 64 := by omega
    have HN := Lib.hid hn
    have HVK := Lib.hid hvk
    have HI0 := Lib.hid hi
    have HI1 : Hid (i ≤ t.ps.length ∧ i < t.ks.length ∧ t.ks.length = t.ps.length + 1) := Lib.hid ⟨hi, by omega, hkl⟩
    have hnb : n ≤ 65 := by omega
    obtain ⟨bx, hbx⟩ : ∃ bx, w.heap.size = bx := ⟨_, rfl⟩
    rw [hbx] at z0 z1 hbs hr0 htbl ⊢
    clear hb1 hlt hge hG hkl hkw hop hnp hkk hkm hn hvk hc ih hi hlo hhi hpl
    generalize foundB t.ps i p.kp = fb
    have HIB := Lib.hid hib
    go_wp2
    refine wp_region_T 9 (S := (fun w' => w'.cell? ⟨t.r, 1, none⟩ = some (.slice (some ⟨kb, 0, none⟩) n c) ∧ w'.cell? ⟨kb, i, none⟩ = some (pt k.r) ∧ w'.cell? ⟨bx, 0, none⟩ = some (.slice p.A p.n p.c) ∧ w'.cell? ⟨bx, 1, none⟩ = some (.int .i64 p.id))) (by kernel_rfl) (by simp [go_sem, ↓IntWalk.iteOmega, *]) (fun hHeld => ?_)
    refine wpAnyT_take (i := 0) (oi := ?oi201) (v := ?v201) ?hi201 (by kernel_rfl) (by kernel_rfl) (by kernel_rfl) (by kernel_rfl) (by kernel_rfl) ?hQ201 ?hy201 (by assumption) ?_
    case hi201 => (simp only [List.getElem?_toArray, List.getElem?_cons_succ, List.getElem?_cons_zero]; try rfl)
    case hQ201 => exact fun _ _ _ h => h
    case hy201 => (refine Or.inl ⟨by rfl, ?_⟩; intro wq hSw; (try dsimp only at hSw); go_simp; (try with_reducible rfl))
    (try simp only [Act.put, List.setIfInBounds_toArray, List.set_cons_zero, List.set_cons_succ])
    refine wpAnyT_take (i := 1) (oi := ?oi202) (v := ?v202) ?hi202 (by kernel_rfl) (by kernel_rfl) (by kernel_rfl) (by kernel_rfl) (by kernel_rfl) ?hQ202 ?hy202 (by assumption) ?_
    case hi202 => (simp only [List.getElem?_toArray, List.getElem?_cons_succ, List.getElem?_cons_zero]; try rfl)
    case hQ202 => exact fun _ _ _ h => h
    case hy202 => (refine Or.inl ⟨by rfl, ?_⟩; intro wq hSw; (try dsimp only at hSw); go_simp; (try with_reducible rfl))
    (try simp only [Act.put, List.setIfInBounds_toArray, List.set_cons_zero, List.set_cons_succ])
    refine wpAnyT_take (i := 2) (oi := ?oi203) (v := ?v203) ?hi203 (by kernel_rfl) (by kernel_rfl) (by kernel_rfl) (by kernel_rfl) (by kernel_rfl) ?hQ203 ?hy203 (by assumption) ?_
    case hi203 => (simp only [List.getElem?_toArray, List.getElem?_cons_succ, List.getElem?_cons_zero]; try rfl)
    case hQ203 => exact fun _ _ _ h => h
    case hy203 => (refine Or.inl ⟨by rfl, ?_⟩; intro wq hSw; (try dsimp only at hSw); go_simp; (try with_reducible rfl))
    (try simp only [Act.put, List.setIfInBounds_toArray, List.set_cons_zero, List.set_cons_succ])
    refine wpAnyT_take (i := 3) (oi := ?oi204) (v := ?v204) ?hi204 (by kernel_rfl) (by kernel_rfl) (by kernel_rfl) (by kernel_rfl) (by kernel_rfl) ?hQ204 ?hy204 (by assumption) ?_
    case hi204 => (simp only [List.getElem?_toArray, List.getElem?_cons_succ, List.getElem?_cons_zero]; try rfl)
    case hQ204 => exact fun _ _ _ h => h
    case hy204 => (refine Or.inl ⟨by rfl, ?_⟩; intro wq hSw; (try dsimp only at hSw); go_simp; (try with_reducible rfl))
    (try simp only [Act.put, List.setIfInBounds_toArray, List.set_cons_zero, List.set_cons_succ])
    refine wpAnyT_take (i := 4) (oi := ?oi205) (v := ?v205) ?hi205 (by kernel_rfl) (by kernel_rfl) (by kernel_rfl) (by kernel_rfl) (by kernel_rfl) ?hQ205 ?hy205 (by assumption) ?_
    case hi205 => (simp only [List.getElem?_toArray, List.getElem?_cons_succ, List.getElem?_cons_zero]; try rfl)
    case hQ205 => exact fun _ _ _ h => h
    case hy205 => (refine Or.inl ⟨by rfl, ?_⟩; intro wq hSw; (try dsimp only at hSw); go_simp; (try with_reducible rfl))
    (try simp only [Act.put, List.setIfInBounds_toArray, List.set_cons_zero, List.set_cons_succ])
    refine wpAnyT_take (i := 5) (oi := ?oi206) (v := ?v206) ?hi206 (by kernel_rfl) (by kernel_rfl) (by kernel_rfl) (by kernel_rfl) (by kernel_rfl) ?hQ206 ?hy206 (by assumption) ?_
    case hi206 => (simp only [List.getElem?_toArray, List.getElem?_cons_succ, List.getElem?_cons_zero]; try rfl)
    case hQ206 => exact fun _ _ _ h => h
    case hy206 => (refine Or.inl ⟨by rfl, ?_⟩; intro wq hSw; (try dsimp only at hSw); go_simp; (try with_reducible rfl))
    (try simp only [Act.put, List.setIfInBounds_toArray, List.set_cons_zero, List.set_cons_succ])
    refine wpAnyT_take (i := 6) (oi := ?oi207) (v := ?v207) ?hi207 (by kernel_rfl) (by kernel_rfl) (by kernel_rfl) (by kernel_rfl) (by kernel_rfl) ?hQ207 ?hy207 (by assumption) ?_
    case hi207 => (simp only [List.getElem?_toArray, List.getElem?_cons_succ, List.getElem?_cons_zero]; try rfl)
    case hQ207 => exact fun _ _ _ h => h
    case hy207 => (refine Or.inl ⟨by rfl, ?_⟩; intro wq hSw; (try dsimp only at hSw); go_simp; (try with_reducible rfl))
    (try simp only [Act.put, List.setIfInBounds_toArray, List.set_cons_zero, List.set_cons_succ])
    refine wpAnyT_take (i := 7) (oi := ?oi208) (v := ?v208) ?hi208 (by kernel_rfl) (by kernel_rfl) (by kernel_rfl) (by kernel_rfl) (by kernel_rfl) ?hQ208 ?hy208 (by assumption) ?_
    case hi208 => (simp only [List.getElem?_toArray, List.getElem?_cons_succ, List.getElem?_cons_zero]; try rfl)
    case hQ208 => exact fun _ _ _ h => h
    case hy208 => (refine Or.inl ⟨by rfl, ?_⟩; intro wq hSw; (try dsimp only at hSw); go_simp; (try with_reducible rfl))
    (try simp only [Act.put, List.setIfInBounds_toArray, List.set_cons_zero, List.set_cons_succ])
    refine wpAnyT_take (i := 8) (oi := ?oi209) (v := ?v209) ?hi209 (by kernel_rfl) (by kernel_rfl) (by kernel_rfl) (by kernel_rfl) (by kernel_rfl) ?hQ209 ?hy209 (by assumption) ?_
    case hi209 => (simp only [List.getElem?_toArray, List.getElem?_cons_succ, List.getElem?_cons_zero]; try rfl)
    case hQ209 => exact fun _ _ _ h => h
    case hy209 => (refine Or.inl ⟨by rfl, ?_⟩; intro wq hSw; (try dsimp only at hSw); go_simp; (try with_reducible rfl))
    (try simp only [Act.put, List.setIfInBounds_toArray, List.set_cons_zero, List.set_cons_succ])
    refine wpAnyT_ready (rs := [9]) (by kernel_rfl) (by simp) ?_
    refine AllReadyT.last (o := ?oi210) ?hi210 ?ti210
    case hi210 => (simp only [List.getElem?_toArray, List.getElem?_cons_succ, List.getElem?_cons_zero]; try rfl)
    case ti210 =>
      intro KQ hKQ
      go_simp
      go_at_call 30
      refine Calls.mono (HIH.out _ (by repeat (first | exact Ext.refl' _ | assumption | apply Ext.ex' | apply Ext.al | apply Ext.drN | apply Ext.dr))) ?_
      rintro e w2 ⟨rfl, k', hU, HI, HWk⟩
      refine hKQ.out _ _ ?_
      clear hKQ KQ hHeld
      (try simp only [Act.put, List.setIfInBounds_toArray, List.set_cons_zero, List.set_cons_succ])
      refine wpAnyT_done (by kernel_rfl) ?_ _
      have hkm := List.mem_of_getElem? HKK.out
      have hU := Upd.pre (HG.out.kid hkm) (foot_of_kid HND.out hkm) (hE1.tr (Ext.dr (Ext.refl' _))) hU
      have UT0 := Upd.kid HG.out HND.out HKS.out hU
      obtain ⟨T1, e_r, e_vp, e_vk, e_ps, e_ks, UT⟩ : ∃ T1 : MT, T1.r = t.r ∧ T1.vp = t.vp ∧ T1.vk = t.vk ∧ T1.ps = t.ps ∧ T1.ks = t.ks.take i ++ k' :: t.ks.drop (i + 1) ∧ Upd base (d + 1) w w2 t T1 := ⟨MT.nd t.r t.vp t.vk t.ps (t.ks.take i ++ k' :: t.ks.drop (i + 1)), rfl, rfl, rfl, rfl, rfl, UT0⟩
      have htb2 := UT.tur.cell HTBW.out HTF.out
      have hnode := UT.good.1
      have hop := hnode.ok
      have hnp := hnode.hp
      have hn1 : T1.ks.length = n := by have := HI1.out; rw [e_ks, ← HN.out]; simp; omega
      rw [e_vk, HVK.out, HN.out, hn1] at hop
      rw [e_r, e_vp, e_vk, HVK.out, HN.out] at hnp
      have hkk' : T1.ks[i]? = some k' := by
        have := HI1.out
        rw [e_ks, List.getElem?_append_right (by simp; omega), List.length_take, Nat.min_eq_left (by omega), Nat.sub_self]
        rfl
      have hkn := hU.good.node
      obtain ⟨Ak, ck, hkv, _, _, _⟩ := own_form2 hkn.op
      have hkp := hkn.hp
      rw [hkv] at hkp
      have hflt : flat (d + 1) T1 = pre (t.ps.take i) ((t.ks.take i).map (flat d)) ++ (flat d k' ++ post (t.ps.drop i) ((t.ks.drop (i + 1)).map (flat d))) := flat_at (P1 := t.ps.take i) (P2 := t.ps.drop i) (by rw [e_ps, List.take_append_drop]) e_ks (by have := HI1.out; simp; omega)
      have HIN : Hid (Ins p (flat (d + 1) t) (flat (d + 1) T1)) := Lib.hid (by
        rw [hflt]
        have h1 := HAR.out
        have h2 := HKNE.out
        rw [HFK.out] at h2 ⊢
        exact HI.around h1.1 fun q hq => gt_of (h1.2 q hq) (h2 q (List.mem_append_right _ (List.mem_append_right _ hq))))
      have hwk := wf_iff.1 HWk
      have HWk := Lib.hid hwk
      have UT := Lib.hid UT
      have HU := Lib.hid hU
      have HEP := Lib.hid e_ps
      have HEK := Lib.hid e_ks
      have HER := Lib.hid e_r
      have HEV := Lib.hid e_vp
      have HEVK := Lib.hid e_vk
      have HKK1 := Lib.hid hkk'
      have HNODE := Lib.hid hnode
      have HKN := Lib.hid hkn
      have HW2 : Hid (∀ x ∈ t.ks.take i ++ t.ks.drop (i + 1), Wf m d (m / 2) m x) := Lib.hid fun x hx => HKW.out x (by rcases List.mem_append.1 hx with hx | hx; exact List.mem_of_mem_take hx; exact List.mem_of_mem_drop hx)
      obtain ⟨nk, hnk⟩ : ∃ nk, k'.ps.length = nk := ⟨_, rfl⟩
      rw [hnk] at hkp hwk
      have HNKK := Lib.hid hnk
      clear t0 t1 ft0 ft1 rt q0 hkb z0 z1 hbs htb
      obtain ⟨hkb, q0⟩ := ownQ_at hop hkk'
      obtain ⟨rt, t0, t1', ft0, ft1⟩ := two_cells hnp
      obtain ⟨rk, k0, k1, _, _⟩ := two_cells hkp
      clear UT0 hU HI hop hnp hkk' hkp hnk hflt hkn hnode e_r e_vp e_vk e_ps e_ks hn1 HIH
      have hn64 := hwk.2.2
      clear hwk
      by_cases hgt : m < nk
      · have hgtz : (m : Int) < (nk : Int) := by omega
        have hnm : nk = m + 1 := by omega
        obtain ⟨md, hmd⟩ : ∃ md, nk / 2 = md := ⟨_, rfl⟩
        obtain ⟨q, hq⟩ : ∃ q, k'.ps[md]? = some q := ⟨_, List.getElem?_eq_getElem (by have := HNKK.out; omega)⟩
        have HQ := Lib.hid hq
        have HSP : Hid (∀ W, Ext w2 W → Calls Try.prog 31 #[pt k'.r] W fun e w' => ∃ l r : MT, e = .returned (.tuple #[pv q, pt r.r]) ∧ SplitR base W w' k' l r md) := Lib.hid fun W hE =>
          split_any base k' md q W (Nat.le_trans HB.out (Nat.le_trans UT.out.tur.size hE.size)) (HKN.out.same fun b hb => hE.block b (HKN.out.old b hb).2.1) (by have := HNKK.out; omega) (by have := HNKK.out; omega) (by rw [HNKK.out]; exact hmd) HQ.out (by
            have h := HWk.out.1
            cases d with
            | zero => exact .inl h
            | succ d => exact .inr h.1) (List.Nodup.sublist (by cases d; exact List.Sublist.refl _; exact List.sublist_append_left _ _) HU.out.nodup)
        have HMD := Lib.hid hmd
        have HNM := Lib.hid hnm
        clear hq hmd hnm
        go_wp2
        go_quiet (fail)
        go_wp2_with fail
        refine Calls.mono (HSP.out _ (by repeat (first | exact Ext.refl' _ | assumption | apply Ext.ex' | apply Ext.al | apply Ext.drN | apply Ext.dr))) ?_
        rintro e w3 ⟨l, r, rfl, hS⟩
        have H3 := Hp.ofSplit (t := T1) (hS := hS) (hbw := by have := UT.out.tur.size; have := HB.out; simp; omega) (hT := HNODE.out.same fun b hb => by rfl) (hK := HKN.out.same fun b hb => by rfl) (hnd := kid_apart UT.out.nodup HKK1.out)
        have hn1 : T1.ks.length = n := by have := HI1.out; rw [HEK.out, ← HN.out]; simp; omega
        rw [HER.out, HEV.out, HEVK.out, HVK.out, HN.out, HEP.out, hn1] at H3
        have H3 := Lib.hid H3
        have HSR := Lib.hid hS
        have hw3 : w2.heap.size ≤ w3.heap.size := by have := hS.tur.size; simpa using this
        clear hS HSP t0 t1' ft0 ft1 rt k0 k1 rk q0 hkb hn1
        go_wp2
        have H7 := H3.out.al (c := #[.slice q.A q.n q.c, .int .i64 q.id]) (t := TP) rfl
        obtain ⟨bu, hbu⟩ : ∃ bu, w3.heap.size = bu := ⟨_, rfl⟩
        rw [hbu] at H7 ⊢
        have H7 := Lib.hid H7
        obtain ⟨rt, t0, t1', ft0, ft1⟩ := H7.out.two 0 rfl
        obtain ⟨rl, l0, l1, fl0, fl1⟩ := H7.out.two 1 rfl
        obtain ⟨rr, r0, r1, fr0, fr1⟩ := H7.out.two 2 rfl
        obtain ⟨ru, u0, u1, fu0, fu1⟩ := H7.out.two 3 rfl
        generalize w3.alloc (.cells #[.slice q.A q.n q.c, .int .i64 q.id] TP) = W7 at *
        refine wp_region_T 11 (S := (fun w' => w'.cell? ⟨t.r, 0, none⟩ = some t.vp ∧ w'.cell? ⟨bu, 0, none⟩ = some (.slice q.A q.n q.c) ∧ w'.cell? ⟨bu, 1, none⟩ = some (.int .i64 q.id))) (by kernel_rfl) (by simp [go_sem, ↓IntWalk.iteOmega, *]) (fun hHeld => ?_)
        refine wpAnyT_take (i := 0) (oi := ?oi401) (v := ?v401) ?hi401 (by kernel_rfl) (by kernel_rfl) (by kernel_rfl) (by kernel_rfl) (by kernel_rfl) ?hQ401 ?hy401 (by assumption) ?_
        case hi401 => (simp only [List.getElem?_toArray, List.getElem?_cons_succ, List.getElem?_cons_zero]; try rfl)
        case hQ401 => exact fun _ _ _ h => h
        case hy401 => (refine Or.inl ⟨by rfl, ?_⟩; intro wq hSw; (try dsimp only at hSw); go_simp; (try with_reducible rfl))
        (try simp only [Act.put, List.setIfInBounds_toArray, List.set_cons_zero, List.set_cons_succ])
        refine wpAnyT_take (i := 1) (oi := ?oi402) (v := ?v402) ?hi402 (by kernel_rfl) (by kernel_rfl) (by kernel_rfl) (by kernel_rfl) (by kernel_rfl) ?hQ402 ?hy402 (by assumption) ?_
        case hi402 => (simp only [List.getElem?_toArray, List.getElem?_cons_succ, List.getElem?_cons_zero]; try rfl)
        case hQ402 => exact fun _ _ _ h => h
        case hy402 => (refine Or.inl ⟨by rfl, ?_⟩; intro wq hSw; (try dsimp only at hSw); go_simp; (try with_reducible rfl))
        (try simp only [Act.put, List.setIfInBounds_toArray, List.set_cons_zero, List.set_cons_succ])
        refine wpAnyT_take (i := 2) (oi := ?oi403) (v := ?v403) ?hi403 (by kernel_rfl) (by kernel_rfl) (by kernel_rfl) (by kernel_rfl) (by kernel_rfl) ?hQ403 ?hy403 (by assumption) ?_
        case hi403 => (simp only [List.getElem?_toArray, List.getElem?_cons_succ, List.getElem?_cons_zero]; try rfl)
        case hQ403 => exact fun _ _ _ h => h
        case hy403 => (refine Or.inl ⟨by rfl, ?_⟩; intro wq hSw; (try dsimp only at hSw); go_simp; (try with_reducible rfl))
        (try simp only [Act.put, List.setIfInBounds_toArray, List.set_cons_zero, List.set_cons_succ])
        refine wpAnyT_take (i := 3) (oi := ?oi404) (v := ?v404) ?hi404 (by kernel_rfl) (by kernel_rfl) (by kernel_rfl) (by kernel_rfl) (by kernel_rfl) ?hQ404 ?hy404 (by assumption) ?_
        case hi404 => (simp only [List.getElem?_toArray, List.getElem?_cons_succ, List.getElem?_cons_zero]; try rfl)
        case hQ404 => exact fun _ _ _ h => h
        case hy404 => (refine Or.inl ⟨by rfl, ?_⟩; intro wq hSw; (try dsimp only at hSw); go_simp; (try with_reducible rfl))
        (try simp only [Act.put, List.setIfInBounds_toArray, List.set_cons_zero, List.set_cons_succ])
        refine wpAnyT_take (i := 4) (oi := ?oi405) (v := ?v405) ?hi405 (by kernel_rfl) (by kernel_rfl) (by kernel_rfl) (by kernel_rfl) (by kernel_rfl) ?hQ405 ?hy405 (by assumption) ?_
        case hi405 => (simp only [List.getElem?_toArray, List.getElem?_cons_succ, List.getElem?_cons_zero]; try rfl)
        case hQ405 => exact fun _ _ _ h => h
        case hy405 => (refine Or.inl ⟨by rfl, ?_⟩; intro wq hSw; (try dsimp only at hSw); go_simp; (try with_reducible rfl))
        (try simp only [Act.put, List.setIfInBounds_toArray, List.set_cons_zero, List.set_cons_succ])
        refine wpAnyT_take (i := 5) (oi := ?oi406) (v := ?v406) ?hi406 (by kernel_rfl) (by kernel_rfl) (by kernel_rfl) (by kernel_rfl) (by kernel_rfl) ?hQ406 ?hy406 (by assumption) ?_
        case hi406 => (simp only [List.getElem?_toArray, List.getElem?_cons_succ, List.getElem?_cons_zero]; try rfl)
        case hQ406 => exact fun _ _ _ h => h
        case hy406 => (refine Or.inl ⟨by rfl, ?_⟩; intro wq hSw; (try dsimp only at hSw); go_simp; (try with_reducible rfl))
        (try simp only [Act.put, List.setIfInBounds_toArray, List.set_cons_zero, List.set_cons_succ])
        refine wpAnyT_take (i := 6) (oi := ?oi407) (v := ?v407) ?hi407 (by kernel_rfl) (by kernel_rfl) (by kernel_rfl) (by kernel_rfl) (by kernel_rfl) ?hQ407 ?hy407 (by assumption) ?_
        case hi407 => (simp only [List.getElem?_toArray, List.getElem?_cons_succ, List.getElem?_cons_zero]; try rfl)
        case hQ407 => exact fun _ _ _ h => h
        case hy407 => (refine Or.inl ⟨by rfl, ?_⟩; intro wq hSw; (try dsimp only at hSw); go_simp; (try with_reducible rfl))
        (try simp only [Act.put, List.setIfInBounds_toArray, List.set_cons_zero, List.set_cons_succ])
        refine wpAnyT_ready (rs := [7]) (by kernel_rfl) (by simp) ?_
        refine AllReadyT.cons (o := ?oi408) ?hi408 ?ti408 AllReadyT.nil
        case hi408 => (simp only [List.getElem?_toArray, List.getElem?_cons_succ, List.getElem?_cons_zero]; try rfl)
        case ti408 =>
          intro KQ hKQ
          go_simp
          refine hKQ.out _ _ (by simp [go_sem, ↓IntWalk.iteOmega, *]) (fun hHeld2 => ?_)
          clear hHeld hKQ KQ; have hHeld := hHeld2; clear hHeld2
          (try simp only [Act.put, List.setIfInBounds_toArray, List.set_cons_zero, List.set_cons_succ])
          refine wpAnyT_ready (rs := [8]) (by kernel_rfl) (by simp) ?_
          refine AllReadyT.cons (o := ?oi409) ?hi409 ?ti409 AllReadyT.nil
          case hi409 => (simp only [List.getElem?_toArray, List.getElem?_cons_succ, List.getElem?_cons_zero]; try rfl)
          case ti409 =>
            intro KQ hKQ
            go_simp
            go_at_call 49
            refine Calls.mono (insP_any base t.ps.length i W7.heap.size 1 t.vp (mpl t.ps) (mp2 q) _ (H7.out.ext (by repeat (first | exact Ext.refl' _ | assumption | apply Ext.ex' | apply Ext.al | apply Ext.drN | apply Ext.dr))).bs ((H7.out.ext (by repeat (first | exact Ext.refl' _ | assumption | apply Ext.ex' | apply Ext.al | apply Ext.drN | apply Ext.dr))).own 0 rfl) HI0.out (by have := HLOHI.out; omega) (own_far (H7.out.own 0 rfl)) (al_new (by simp)) rfl (by intro u hu; simp [mp2] at hu; rcases hu with rfl | rfl <;> rfl) (oneCell_mpl _)) ?_
            rintro e w8 ⟨v8, rfl, ho8, hg8, hn8⟩
            obtain ⟨A8, k8, rfl, _, _, _⟩ := own_form2 ho8
            have H8 := Lib.hid ((H7.out.ext (by repeat (first | exact Ext.refl' _ | assumption | apply Ext.ex' | apply Ext.al | apply Ext.drN | apply Ext.dr))).grow 0 rfl hg8 ho8 hn8)
            clear ho8 hg8 hn8
            clear rt t0 t1' ft0 ft1 rl l0 l1 fl0 fl1 rr r0 r1 fr0 fr1 ru u0 u1 fu0 fu1
            obtain ⟨rt, t0, t1', ft0, ft1⟩ := H8.out.two 0 rfl
            obtain ⟨rl, l0, l1, fl0, fl1⟩ := H8.out.two 1 rfl
            obtain ⟨rr, r0, r1, fr0, fr1⟩ := H8.out.two 2 rfl
            obtain ⟨ru, u0, u1, fu0, fu1⟩ := H8.out.two 3 rfl
            refine hKQ.out _ _ (by simp [go_sem, ↓IntWalk.iteOmega, *]) (fun hHeld2 => ?_)
            clear hHeld hKQ KQ; have hHeld := hHeld2; clear hHeld2
            (try simp only [Act.put, List.setIfInBounds_toArray, List.set_cons_zero, List.set_cons_succ])
            refine wpAnyT_take (i := 9) (oi := ?oi410) (v := ?v410) ?hi410 (by kernel_rfl) (by kernel_rfl) (by kernel_rfl) (by kernel_rfl) (by kernel_rfl) ?hQ410 ?hy410 (by assumption) ?_
            case hi410 => (simp only [List.getElem?_toArray, List.getElem?_cons_succ, List.getElem?_cons_zero]; try rfl)
            case hQ410 => exact fun _ _ _ h => h
            case hy410 => (refine Or.inl ⟨by rfl, ?_⟩; intro wq hSw; (try dsimp only at hSw); go_simp; (try with_reducible rfl))
            (try simp only [Act.put, List.setIfInBounds_toArray, List.set_cons_zero, List.set_cons_succ])
            refine wpAnyT_take (i := 10) (oi := ?oi411) (v := ?v411) ?hi411 (by kernel_rfl) (by kernel_rfl) (by kernel_rfl) (by kernel_rfl) (by kernel_rfl) ?hQ411 ?hy411 (by assumption) ?_
            case hi411 => (simp only [List.getElem?_toArray, List.getElem?_cons_succ, List.getElem?_cons_zero]; try rfl)
            case hQ411 => exact fun _ _ _ h => h
            case hy411 => (refine Or.inl ⟨by rfl, ?_⟩; intro wq hSw; (try dsimp only at hSw); go_simp; (try with_reducible rfl))
            (try simp only [Act.put, List.setIfInBounds_toArray, List.set_cons_zero, List.set_cons_succ])
            refine wpAnyT_ready (rs := [11]) (by kernel_rfl) (by simp) ?_
            refine AllReadyT.last (o := ?oi412) ?hi412 ?ti412
            case hi412 => (simp only [List.getElem?_toArray, List.getElem?_cons_succ, List.getElem?_cons_zero]; try rfl)
            case ti412 =>
              intro KQ hKQ
              go_simp
              refine hKQ.out _ _ ?_
              clear hKQ KQ hHeld
              (try simp only [Act.put, List.setIfInBounds_toArray, List.set_cons_zero, List.set_cons_succ])
              refine wpAnyT_done (by kernel_rfl) ?_ _
              have H9 := Lib.hid (H8.out.set 0 rfl 0 (.slice A8 (t.ps.length + 1) k8))
              clear rt t0 t1' ft0 ft1 rl l0 l1 fl0 fl1 rr r0 r1 fr0 fr1 ru u0 u1 fu0 fu1
              obtain ⟨rt, t0, t1', ft0, ft1⟩ := H9.out.two 0 rfl
              obtain ⟨rl, l0, l1, fl0, fl1⟩ := H9.out.two 1 rfl
              obtain ⟨rr, r0, r1, fr0, fr1⟩ := H9.out.two 2 rfl
              obtain ⟨ru, u0, u1, fu0, fu1⟩ := H9.out.two 3 rfl
              generalize w8.setCell ⟨t.r, 0, none⟩ (.slice A8 (t.ps.length + 1) k8) = W9 at *
              have HIQ := insQ_any base n (i + 1) W9.heap.size 1 (.slice (some ⟨kb, 0, none⟩) n c) (ptl (T1.ks.map MT.r)) [pt r.r]
              rw [show (((i + 1 : Nat) : Int)) = (i : Int) + 1 by omega] at HIQ
              have HIQ := Lib.hid HIQ
              have hin1 : i + 1 ≤ n := by omega
              go_wp2_with fail
              refine Calls.mono (HIQ.out _ (H9.out.ext (by repeat (first | exact Ext.refl' _ | assumption | apply Ext.ex' | apply Ext.al | apply Ext.drN | apply Ext.dr))).bs ((H9.out.ext (by repeat (first | exact Ext.refl' _ | assumption | apply Ext.ex' | apply Ext.al | apply Ext.drN | apply Ext.dr))).own 1 rfl) hin1 (by omega) (own_far (H9.out.own 1 rfl)) (al_new (by simp)) rfl (by intro u hu; simp at hu; subst hu; rfl) (oneCell_ptl _)) ?_
              rintro e w10 ⟨v10, rfl, ho10, hg10, hn10⟩
              obtain ⟨A10, k10, rfl, _, _, _⟩ := own_form2 ho10
              have H10 := Lib.hid ((H9.out.ext (by repeat (first | exact Ext.refl' _ | assumption | apply Ext.ex' | apply Ext.al | apply Ext.drN | apply Ext.dr))).grow 1 rfl hg10 ho10 hn10)
              clear ho10 hg10 hn10 HIQ
              clear rt t0 t1' ft0 ft1 rl l0 l1 fl0 fl1 rr r0 r1 fr0 fr1 ru u0 u1 fu0 fu1
              obtain ⟨rt, t0, t1', ft0, ft1⟩ := H10.out.two 0 rfl
              obtain ⟨rl, l0, l1, fl0, fl1⟩ := H10.out.two 1 rfl
              obtain ⟨rr, r0, r1, fr0, fr1⟩ := H10.out.two 2 rfl
              obtain ⟨ru, u0, u1, fu0, fu1⟩ := H10.out.two 3 rfl
              go_wp2
              have H11 := H10.out.set 0 rfl 1 (.slice A10 (n + 1) k10)
              refine bodyPost_end (v := .tuple #[]) ?_ rfl ?_
              · simp [results, Try.results30]
              have hn1 : T1.ks.length = n := by have := HI1.out; rw [HEK.out, ← HN.out]; simp; omega
              have hT := three_fin (S := T1.own ++ k'.own) (r1 := t.r) (r2 := l.r) (r3 := r.r) (p1 := .slice A8 (t.ps.length + 1) k8) (k1 := .slice A10 (n + 1) k10) (p2 := l.vp) (k2 := l.vk) (p3 := r.vp) (k3 := r.vk) (P1 := t.ps.take i ++ q :: t.ps.drop i) (K1 := T1.ks.take i ++ l :: r :: T1.ks.drop (i + 1)) (P2 := l.ps) (K2 := l.ks) (P3 := r.ps) (K3 := r.ks)
                (H11.sub (by repeat (first | exact List.Sublist.slnil | exact List.Sublist.refl _ | exact List.nil_sublist _ | apply List.Sublist.cons_cons | apply List.Sublist.cons)) (List.Sublist.refl _)) (by rw [mpl_take, mpl_drop, ← mpl_one, ← mpl_append, ← mpl_append]; rfl) (by rw [Nat.mul_one]; exact ptl_ins HKK1.out HSR.out.lr) rfl rfl rfl rfl (by have := HI0.out; simp; omega) (by have := HI1.out; have := HN.out; simp; omega) rfl rfl rfl rfl
              rw [show MT.nd l.r l.vp l.vk l.ps l.ks = l by cases l; rfl, show MT.nd r.r r.vp r.vk r.ps r.ks = r by cases r; rfl] at hT
              have hM := Upd.mid (w := w2.drewN nq) (t := T1) (t' := MT.nd t.r (.slice A8 (t.ps.length + 1) k8) (.slice A10 (n + 1) k10) (t.ps.take i ++ q :: t.ps.drop i) (T1.ks.take i ++ l :: r :: T1.ks.drop (i + 1))) (K1 := T1.ks.take i) (X := [k']) (X' := [l, r]) (K2 := T1.ks.drop (i + 1)) (UT.out.good.ext (by repeat (first | exact Ext.refl' _ | assumption | apply Ext.ex' | apply Ext.al | apply Ext.drN | apply Ext.dr))) UT.out.nodup (one_at HKK1.out) rfl HER.out.symm (by simp [HSR.out.lks, HSR.out.rks]) hT.okt (by intro x hx; simp at hx; rcases hx with rfl | rfl; exact hT.oka; exact hT.okb) (by simpa using hT.nodup) (by intro x hx; simpa using hT.new x (by simpa using hx)) (by simpa using hT.tur)
              have hmd := HMD.out
              have hnm := HNM.out
              have hnkk := HNKK.out
              have hlohi := HLOHI.out
              have hi1 := HI1.out
              have hfl : flat (d + 1) (MT.nd t.r (.slice A8 (t.ps.length + 1) k8) (.slice A10 (n + 1) k10) (t.ps.take i ++ q :: t.ps.drop i) (T1.ks.take i ++ l :: r :: T1.ks.drop (i + 1))) = flat (d + 1) T1 := by
                rw [flat_at2 (P1 := t.ps.take i) (P2 := t.ps.drop i) (K1 := T1.ks.take i) (a := l) (b := r) (q := q) (K2 := T1.ks.drop (i + 1)) rfl rfl (by simp; omega),
                  flat_at (t := T1) (P1 := t.ps.take i) (P2 := t.ps.drop i) (K1 := T1.ks.take i) (k := k') (K2 := T1.ks.drop (i + 1)) (by rw [HEP.out, List.take_append_drop]) (one_at HKK1.out) (by simp; omega), HSR.out.flat HQ.out HWk.out.1.len]
              have hN2 := HN.out
              have hlr := HSR.out.kids HWk.out.1 (by omega)
              refine ⟨rfl, _, Upd.trans UT.out (Upd.pre UT.out.good UT.out.nodup (by repeat (first | exact Ext.refl' _ | assumption | apply Ext.ex' | apply Ext.al | apply Ext.drN | apply Ext.dr)) hM), by rw [hfl]; exact HIN.out, ?_, ?_, ?_, fun x hx => ?_⟩
              · show (T1.ks.take i ++ l :: r :: T1.ks.drop (i + 1)).length = (t.ps.take i ++ q :: t.ps.drop i).length + 1
                simp; omega
              · show lo ≤ (t.ps.take i ++ q :: t.ps.drop i).length
                simp; omega
              · show (t.ps.take i ++ q :: t.ps.drop i).length ≤ m + 1
                simp; omega
              · have hx : x ∈ T1.ks.take i ++ l :: r :: T1.ks.drop (i + 1) := hx
                have e1 : T1.ks.take i = t.ks.take i := by rw [HEK.out, List.take_left' (by simp; omega)]
                have e2 : T1.ks.drop (i + 1) = t.ks.drop (i + 1) := by
                  rw [HEK.out, show t.ks.take i ++ k' :: t.ks.drop (i + 1) = (t.ks.take i ++ [k']) ++ t.ks.drop (i + 1) by simp, List.drop_left' (by simp; omega)]
                rw [e1, e2] at hx
                rcases List.mem_append.1 hx with hx | hx
                · exact HW2.out x (List.mem_append_left _ hx)
                · rcases List.mem_cons.1 hx with rfl | hx
                  · exact wf_iff.2 ⟨hlr.1, by rw [HSR.out.lps]; simp; omega, by rw [HSR.out.lps]; simp; omega⟩
                  · rcases List.mem_cons.1 hx with rfl | hx
                    · exact wf_iff.2 ⟨hlr.2, by rw [HSR.out.rps]; simp; omega, by rw [HSR.out.rps]; simp; omega⟩
                    · exact HW2.out x (List.mem_append_right _ hx)
      · have hgtz : ¬ ((m : Int) < (nk : Int)) := by omega
        go_wp2
        go_quiet (fail)
        go_wp2
        refine bodyPost_end (v := .tuple #[]) ?_ rfl ?_
        · simp [results, Try.results30]
        refine ⟨rfl, T1, Upd.trans UT.out (Upd.refl UT.out.good UT.out.nodup (by repeat (first | exact Ext.refl' _ | assumption | apply Ext.ex' | apply Ext.al | apply Ext.drN | apply Ext.dr))), HIN.out, ?_⟩
        obtain ⟨h1, h2, h3⟩ := HLOHI.out
        refine ⟨by have := HI1.out; rw [HEK.out, HEP.out]; simp; omega, by rw [HEP.out]; omega, by rw [HEP.out]; omega, fun x hx => ?_⟩
        rw [HEK.out] at hx
        rcases List.mem_append.1 hx with hx | hx
        · exact HW2.out x (List.mem_append_left _ hx)
        · rcases List.mem_cons.1 hx with rfl | hx
          · exact wf_iff.2 ⟨HWk.out.1, HWk.out.2.1, by rw [HNKK.out]; omega⟩
          · exact HW2.out x (List.mem_append_right _ hx)

end Go.Proofs.Ytdmbgimehepfaaa
