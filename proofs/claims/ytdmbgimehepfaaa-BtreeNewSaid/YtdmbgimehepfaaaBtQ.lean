/- A pair removed from a subtree. -/
import Derived.Test.YtdmbgimehepfaaaBtPu
set_option linter.unusedSimpArgs false
set_option linter.unusedVariables false
namespace Go.Proofs.Ytdmbgimehepfaaa
open Go.RowKit


/-- the pair of key p taken out -/
def Rem (p : Kp) (l l' : List MP) : Prop := ∃ A q B, l = A ++ q :: B ∧ q.kp = p ∧ l' = A ++ B
theorem Rem.around {p : Kp} {l l' : List MP} (h : Rem p l l') (x y : List MP) : Rem p (x ++ (l ++ y)) (x ++ (l' ++ y)) := by
  obtain ⟨A, q, B, rfl, rfl, rfl⟩ := h
  exact ⟨x ++ A, q, B ++ y, by simp, rfl, by simp⟩
theorem Rem.sorted {p : Kp} {l l' : List MP} (h : Rem p l l') (hs : Srt l) : Srt l' := by
  obtain ⟨A, q, B, rfl, rfl, rfl⟩ := h
  exact List.Pairwise.sublist (List.Sublist.append_left (List.sublist_cons_self _ _) _) hs
theorem Rem.mem {p : Kp} {l l' : List MP} (h : Rem p l l') {x : MP} (hx : x ∈ l') : x ∈ l := by
  obtain ⟨A, q, B, rfl, rfl, rfl⟩ := h
  rcases List.mem_append.1 hx with hx | hx <;> simp [hx]
theorem Rem.length {p : Kp} {l l' : List MP} (h : Rem p l l') : l.length = l'.length + 1 := by
  obtain ⟨A, q, B, rfl, rfl, rfl⟩ := h
  simp; omega
theorem Rem.last {l l' : List MP} {z : MP} (h : Rem z.kp (l ++ [z]) l') (hs : Srt (l ++ [z])) : l' = l := by
  obtain ⟨A, q, B, he, hq, rfl⟩ := h
  rcases List.eq_nil_or_concat B with rfl | ⟨B', b, rfl⟩
  · have := List.append_inj' he rfl
    simp [this.1]
  · exfalso
    have he2 : l ++ [z] = (A ++ q :: B') ++ [b] := by rw [he]; simp
    have hzb : z = b := by have := (List.append_inj' he2 rfl).2; simpa using this
    subst hzb
    rw [he2] at hs
    have h1 := (List.pairwise_append.1 hs).2.2 q (by simp) z (by simp)
    rw [hq] at h1
    exact ltP_irr _ h1
theorem idx_eq {A B : List MP} {q : MP} {p : Kp} {i : Nat} (hs : Srt (A ++ q :: B)) (hq : q.kp = p) (hi : i ≤ (A ++ q :: B).length) (h1 : ∀ x ∈ (A ++ q :: B).take i, ltP x.kp p) (h2 : ∀ x ∈ (A ++ q :: B).drop i, ¬ ltP x.kp p) : i = A.length := by
  subst hq
  rcases Nat.lt_trichotomy i A.length with h | h | h
  · exfalso
    have hm : A[i] ∈ (A ++ q :: B).drop i := by
      rw [List.drop_append_of_le_length (by omega)]
      exact List.mem_append_left _ (by rw [List.drop_eq_getElem_cons h]; exact List.mem_cons_self)
    refine h2 _ hm ((List.pairwise_append.1 hs).2.2 _ (List.getElem_mem h) q (by simp))
  · exact h
  · exfalso
    have hm : q ∈ (A ++ q :: B).take i := by
      rw [List.take_append, show i - A.length = (i - A.length - 1) + 1 by omega, List.take_succ_cons]
      simp
    exact ltP_irr _ (h1 q hm)
/-- whether the pair found is at the place -/
theorem foundB_true {l : List MP} {i : Nat} {p : Kp} (h : foundB l i p = true) : ∃ z, l[i]? = some z ∧ z.kp = p := by
  unfold foundB at h
  split at h
  · rename_i z hz
    exact ⟨z, hz, of_decide_eq_true h⟩
  · cases h
theorem foundB_false {l : List MP} {i : Nat} {p : Kp} (h : foundB l i p = false) {z : MP} (hz : l[i]? = some z) : z.kp ≠ p := by
  unfold foundB at h
  rw [hz] at h
  exact of_decide_eq_false h
theorem post_head {P : List MP} {K : List (List MP)} {p : Kp} (hs : Srt (post P K)) (h : ∀ x ∈ post P K, ¬ ltP x.kp p) (h0 : ∀ z, P[0]? = some z → z.kp ≠ p) : ∀ x ∈ post P K, x.kp ≠ p := by
  intro x hx e
  cases P with
  | nil => simp [post] at hx
  | cons z P =>
    have hz := h0 z rfl
    have hh : ∃ R, post (z :: P) K = z :: R := by cases K with | nil => exact ⟨P, by simp [post]⟩ | cons k K => exact ⟨k ++ post P K, rfl⟩
    obtain ⟨R, hR⟩ := hh
    rw [hR] at hs hx h
    rcases List.mem_cons.1 hx with rfl | hx
    · exact hz e
    · have h1 := (List.pairwise_cons.1 hs).1 x hx
      rw [e] at h1
      exact h z (by simp) h1


theorem cell_far {W : World} {b g o j : Nat} {u v : Value} (h : b ≠ g) (hc : W.cell? ⟨b, o, none⟩ = some v) : (W.setCell ⟨g, j, none⟩ u).cell? ⟨b, o, none⟩ = some v := (World.cell?_of_block (set_other h)).trans hc
set_option maxRecDepth 100000 in
set_option maxHeartbeats 16000000 in
theorem remove_any (base m tb : Nat) (hm : 2 ≤ m) (hm2 : m ≤ 64) : ∀ (d lo : Nat) (t : MT) (p : MP) (w : World), 1 ≤ lo → base ≤ w.heap.size → w.cell? ⟨tb, 1, none⟩ = some (.int .i64 m) → tb ∉ foot d t → Good base w d t → (foot d t).Nodup → Wf m d lo m t → Srt (flat d t) → (∀ q ∈ flat d t, KOk base w q) → KR w p → (∃ q ∈ flat d t, q.kp = p.kp) →
    Calls Try.prog 32 #[pt tb, pt t.r, pv p] w fun e w' => e = .returned (.tuple #[]) ∧ ∃ t', Upd base d w w' t t' ∧ Rem p.kp (flat d t) (flat d t') ∧ Wf m d (lo - 1) m t' := by
  intro d
  induction d with
  | zero =>
    intro lo t p w hlo1 hbw htb htf hG hnd hW hs hk hp hex
    obtain ⟨hks, hlo, hhi⟩ := hW
    have hpl : t.ps.length ≤ 64 := by omega
    have HFI : Hid (∀ W, Ext w W → Calls Try.prog 48 #[pt t.r, pv p] W fun e w' => ∃ i : Nat, i ≤ t.ps.length ∧ (∀ q ∈ t.ps.take i, ltP q.kp p.kp) ∧ (∀ q ∈ t.ps.drop i, ¬ ltP q.kp p.kp) ∧ e = .returned (.tuple #[.int .i64 i, .bool (foundB t.ps i p.kp)]) ∧ Ext W w') := Lib.hid fun W hE => find_any base t p W (Good.ext (d := 0) hG hE) (by omega) hs (fun q hq => ((hk q hq).kr).ext hE) (hp.ext hE)
    have HG := Lib.hid hG
    have HND := Lib.hid hnd
    have HS := Lib.hid hs
    have HB := Lib.hid hbw
    have HEX := Lib.hid hex
    obtain ⟨Ak, ck, hvk⟩ : ∃ A c, t.vk = .slice A 0 c := by
      obtain ⟨A, c, h1, _⟩ := own_form2 (Good.node (d := 0) hG).ok
      rw [hks] at h1
      exact ⟨A, c, h1⟩
    obtain ⟨pb, c, hvp, hc, _⟩ := own_ne0 (Good.node (d := 0) hG).op (by omega)
    obtain ⟨n, hn⟩ : ∃ n, t.ps.length = n := ⟨_, rfl⟩
    have hr0 := (Array.getElem?_eq_some_iff.1 (Good.node (d := 0) hG).hp).1
    have HWF := Lib.hid hks
    have H0 : Hp base t.own w w [⟨t.r, #[t.vp, t.vk], TN⟩] [⟨t.vp, TP, 2, t.ps.length, mpl t.ps⟩, ⟨t.vk, TQ, 1, t.ks.length, ptl (t.ks.map MT.r)⟩] := Hp.ofNode hbw (Good.node (d := 0) hG) hnd
    rw [hvp, hvk, hks, hn] at H0
    have H0 := Lib.hid H0
    rw [hn] at hlo hhi hpl hc
    have HN := Lib.hid hn
    have HVK := Lib.hid hvk
    clear hs hk hp hG hnd hbw hex hn hvp
    go_enter Try.func32, Try.ntmps32
    go_wp2_with fail
    refine Calls.mono (HFI.out _ (by repeat (first | exact Ext.refl' _ | assumption | apply Ext.ex' | apply Ext.al | apply Ext.drN | apply Ext.dr))) ?_
    rintro e w1 ⟨i, hi, hlt, hge, rfl, hb1⟩
    have hE1 : Ext w w1 := (Ext.al1 w _).tr hb1
    obtain ⟨q, hqm, hqp⟩ := HEX.out
    obtain ⟨A, B, hAB⟩ := List.append_of_mem (show q ∈ t.ps from hqm)
    have hiA : i = A.length := by
      have hs := HS.out
      rw [show flat 0 t = t.ps from rfl, hAB] at hs
      rw [hAB] at hi hlt hge
      exact idx_eq hs hqp hi hlt hge
    have hin : i < n := by have := HN.out; rw [hAB] at this; simp at this; omega
    have HREM : Hid (Rem p.kp t.ps (t.ps.take i ++ t.ps.drop (i + 1))) := Lib.hid ⟨A, q, B, hAB, hqp, by rw [hAB, hiA]; simp⟩
    have H1 := Lib.hid (H0.out.ext hE1)
    obtain ⟨rt, t0, t1, ft0, ft1⟩ := H1.out.two 0 rfl
    have hw1 : IntKind.i64.wrap ((i : Int) + 1) = (i : Int) + 1 := IntWalk.i64_in _ (by omega)
    clear hb1 hlt hge hqm hqp hAB hiA hi
    generalize foundB t.ps i p.kp = fb
    go_wp2_with fail
    refine Calls.mono (delP_any base pb c n i (mpl t.ps) _ (H1.out.own 0 rfl) hin (by omega) (oneCell_mpl _)) ?_
    rintro e w2 ⟨rfl, ho2, hg2⟩
    rw [mpl_take, mpl_drop, ← mpl_append] at ho2
    have H2 := Lib.hid (H1.out.grow 0 rfl hg2 ho2 (fun _ h => .inl h))
    clear ho2 hg2 rt t0 t1 ft0 ft1
    obtain ⟨rt, t0, t1, ft0, ft1⟩ := H2.out.two 0 rfl
    go_wp2
    have H3 := H2.out.set 0 rfl 0 (.slice (some ⟨pb, 0, none⟩) (n - 1) c)
    refine bodyPost_ret (v := .tuple #[]) ?_ rfl ?_
    · simp [results, Try.results32]
    have hN := HN.out
    have hU := Upd.one (d := 0) HG.out HND.out H3 (P := t.ps.take i ++ t.ps.drop (i + 1)) (by simp; omega) (by simp [HWF.out]) rfl (by simp [HWF.out])
    exact ⟨rfl, _, hU, HREM.out, HWF.out, (by show lo - 1 ≤ (t.ps.take i ++ t.ps.drop (i + 1)).length; simp; omega), (by show (t.ps.take i ++ t.ps.drop (i + 1)).length ≤ m; simp; omega)⟩
  | succ d ih =>
    intro lo t p w hlo1 hbw htb htf hG hnd hW hs hk hp hex
    obtain ⟨hkl, hlo, hhi, hkw⟩ := hW
    have hpl : t.ps.length ≤ 64 := by omega
    have HFI : Hid (∀ W, Ext w W → Calls Try.prog 48 #[pt t.r, pv p] W fun e w' => ∃ i : Nat, i ≤ t.ps.length ∧ (∀ q ∈ t.ps.take i, ltP q.kp p.kp) ∧ (∀ q ∈ t.ps.drop i, ¬ ltP q.kp p.kp) ∧ e = .returned (.tuple #[.int .i64 i, .bool (foundB t.ps i p.kp)]) ∧ Ext W w') := Lib.hid fun W hE => find_any base t p W (hG.ext hE).1 (by omega) (List.Pairwise.sublist ps_sub hs) (fun q hq => ((hk q (ps_sub.subset hq)).kr).ext hE) (hp.ext hE)
    have HG := Lib.hid hG
    have HND := Lib.hid hnd
    have HS := Lib.hid hs
    have HK := Lib.hid hk
    have HP := Lib.hid hp
    have HB := Lib.hid hbw
    have HKL := Lib.hid hkl
    have HKW := Lib.hid hkw
    have HTF := Lib.hid htf
    have HEX := Lib.hid hex
    have HTBW := Lib.hid htb
    have HLEN0 : Hid (t.ks.length = t.ps.length + 1 ∧ lo ≤ t.ps.length ∧ t.ps.length ≤ m ∧ t.ps.length ≤ 64) := Lib.hid ⟨hkl, hlo, hhi, hpl⟩
    obtain ⟨kb, c, hvk, hc, _⟩ := own_ne0 hG.1.ok (by omega)
    obtain ⟨pb, cp, hvp, hcp, _⟩ := own_ne0 hG.1.op (by omega)
    have hr0 := (Array.getElem?_eq_some_iff.1 hG.1.hp).1
    have H0 : Hp base t.own w w [⟨t.r, #[t.vp, t.vk], TN⟩] [⟨t.vp, TP, 2, t.ps.length, mpl t.ps⟩, ⟨t.vk, TQ, 1, t.ks.length, ptl (t.ks.map MT.r)⟩] := Hp.ofNode hbw hG.1 (List.nodup_append.1 hnd).1
    obtain ⟨n, hn⟩ : ∃ n, t.ks.length = n := ⟨_, rfl⟩
    obtain ⟨np, hnp⟩ : ∃ np, t.ps.length = np := ⟨_, rfl⟩
    rw [hvp, hvk, hn, hnp] at H0
    have hpbl : pb < w.heap.size := (H0.lt pb (by simp [blks, ob, Value.ownBlock])).2
    have H0 := Lib.hid H0
    have HN := Lib.hid hn
    have HNP := Lib.hid hnp
    have HVK := Lib.hid hvk
    rw [hnp] at hlo hhi hpl
    clear hs hk hp hnd hbw htf hex hG hkw hc hcp hvk hvp
    go_enter Try.func32, Try.ntmps32
    go_wp2_with fail
    refine Calls.mono (HFI.out _ (by repeat (first | exact Ext.refl' _ | assumption | apply Ext.ex' | apply Ext.al | apply Ext.drN | apply Ext.dr))) ?_
    rintro e w1 ⟨i, hi, hlt, hge, rfl, hb1⟩
    have hE1 : Ext w w1 := (Ext.al1 w _).tr hb1
    have hbk := al_at hb1
    obtain ⟨_, z0, z1, zf0, zf1⟩ := two_cells hbk
    have HBK := Lib.hid hbk
    have hbs : w.heap.size < w1.heap.size := Nat.lt_of_lt_of_le (by simp) hb1.size
    obtain ⟨k, hkk⟩ : ∃ k, t.ks[i]? = some k := ⟨_, List.getElem?_eq_getElem (by omega)⟩
    have HKM0 := Lib.hid (List.mem_of_getElem? hkk)
    have HAR := Lib.hid (around_kid (p := p.kp) HKL.out hkk HS.out hlt hge)
    have HFK := Lib.hid (flat_kid (d := d) HKL.out hkk)
    have HKK := Lib.hid hkk
    have hin : (i : Int) < (n : Int) := by omega
    have hn0 : ¬ (n = 0) := by omega
    have HI1 : Hid (i ≤ t.ps.length ∧ i < t.ks.length) := Lib.hid ⟨hi, by omega⟩
    have hi64 : i ≤ 64 := by omega
    have hinp : i ≤ np := by omega
    have H1 := Lib.hid (H0.out.ext hE1)
    obtain ⟨rt, t0, t1, ft0, ft1⟩ := H1.out.two 0 rfl
    obtain ⟨hkb, q0⟩ := ownQ_at (H1.out.own 1 rfl) hkk
    obtain ⟨bx, hbx⟩ : ∃ bx, w.heap.size = bx := ⟨_, rfl⟩
    have HBX := Lib.hid hbx
    rw [hbx] at z0 z1 zf0 zf1 hbs hr0 hpbl HBK ⊢
    have HBP : Hid (bx ≠ pb) := Lib.hid (by omega)
    clear hbk
    have HLO : Hid (1 ≤ lo) := Lib.hid hlo1
    clear hb1 hkk hi hlt hge hkl hlo1 hlo hhi htb
    cases hfb : foundB t.ps i p.kp with
    | true =>
      obtain ⟨z0', hz0, hz0p⟩ := foundB_true hfb
      have hnz : 0 < (flat d k).length := by
        have := flat_ne (m := m) (by omega) (HKW.out k HKM0.out) (by omega)
        exact List.length_pos_iff.2 this
      have HLA : Hid (∀ W, Ext w W → Calls Try.prog 54 #[pt k.r] W fun e w' => ∃ q, (flat d k).getLast? = some q ∧ e = .returned (pv q) ∧ Ext W w') := Lib.hid fun W hE => last_any base m d (m / 2) m k W (by omega) hm2 ((HG.out.kid HKM0.out).ext hE) (HKW.out k HKM0.out) (by omega) (by omega)
      have HZ0 := Lib.hid hz0
      have HZP := Lib.hid hz0p
      have hip : (i : Int) < (np : Int) := by have := (List.getElem?_eq_some_iff.1 hz0).1; omega
      clear hfb hz0 hz0p hnz
      go_wp2_with fail
      refine Calls.mono (HLA.out _ (by repeat (first | exact Ext.refl' _ | assumption | apply Ext.ex' | apply Ext.al | apply Ext.drN | apply Ext.dr))) ?_
      rintro e w2 ⟨z, hz, rfl, hb2⟩
      have hE2 : Ext w1 w2 := hb2
      have HZ := Lib.hid hz
      have z0 := hE2.cell' z0
      have z1 := hE2.cell' z1
      have zf0 := (bcell hE2).2.1 bx 0 hbs ▸ zf0
      have zf1 := (bcell hE2).2.1 bx 1 hbs ▸ zf1
      have hbs := Nat.lt_of_lt_of_le hbs hE2.size
      clear hz hb2 t0 t1 ft0 ft1 rt q0 hkb
      go_wp2
      have hE3 : Ext w ((w2.setCell ⟨bx, 0, none⟩ (.slice z.A z.n z.c)).setCell ⟨bx, 1, none⟩ (.int .i64 z.id)) := ((hE1.tr hE2).st (p := ⟨bx, 0, none⟩) (Nat.le_of_eq HBX.out) _).st (p := ⟨bx, 1, none⟩) (Nat.le_of_eq HBX.out) _
      have H3 := Lib.hid (H0.out.ext hE3)
      have hx3 := set_heap (set_heap (hE2.at HBK.out) 0 (.slice z.A z.n z.c)) 1 (.int .i64 z.id)
      obtain ⟨_, z0, z1, _, _⟩ := two_cells hx3
      clear hx3 zf0 zf1 hbs hE2
      generalize (w2.setCell ⟨bx, 0, none⟩ (.slice z.A z.n z.c)).setCell ⟨bx, 1, none⟩ (.int .i64 z.id) = W3 at *
      have HE3 := Lib.hid hE3
      obtain ⟨rt, t0, t1, ft0, ft1⟩ := H3.out.two 0 rfl
      obtain ⟨hpb3, p0, p1⟩ := ownP_at (H3.out.own 0 rfl) HZ0.out
      have fq0 := (H3.out.own 0 rfl).frozenAt (i * 2)
      have fq1 := (H3.out.own 0 rfl).frozenAt (i * 2 + 1)
      refine wp_region_T 7 (S := (fun w' => w'.cell? ⟨t.r, 0, none⟩ = some (.slice (some ⟨pb, 0, none⟩) np cp) ∧ w'.cell? ⟨bx, 0, none⟩ = some (.slice z.A z.n z.c) ∧ w'.cell? ⟨bx, 1, none⟩ = some (.int .i64 z.id))) (by kernel_rfl) (by simp [go_sem, ↓IntWalk.iteOmega, *]) (fun hHeld => ?_)
      refine wpAnyT_take (i := 0) (oi := ?oi101) (v := ?v101) ?hi101 (by kernel_rfl) (by kernel_rfl) (by kernel_rfl) (by kernel_rfl) (by kernel_rfl) ?hQ101 ?hy101 (by assumption) ?_
      case hi101 => (simp only [List.getElem?_toArray, List.getElem?_cons_succ, List.getElem?_cons_zero]; try rfl)
      case hQ101 => exact fun _ _ _ h => h
      case hy101 => (refine Or.inl ⟨by rfl, ?_⟩; intro wq hSw; (try dsimp only at hSw); go_simp; (try with_reducible rfl))
      (try simp only [Act.put, List.setIfInBounds_toArray, List.set_cons_zero, List.set_cons_succ])
      refine wpAnyT_take (i := 1) (oi := ?oi102) (v := ?v102) ?hi102 (by kernel_rfl) (by kernel_rfl) (by kernel_rfl) (by kernel_rfl) (by kernel_rfl) ?hQ102 ?hy102 (by assumption) ?_
      case hi102 => (simp only [List.getElem?_toArray, List.getElem?_cons_succ, List.getElem?_cons_zero]; try rfl)
      case hQ102 => exact fun _ _ _ h => h
      case hy102 => (refine Or.inl ⟨by rfl, ?_⟩; intro wq hSw; (try dsimp only at hSw); go_simp; (try with_reducible rfl))
      (try simp only [Act.put, List.setIfInBounds_toArray, List.set_cons_zero, List.set_cons_succ])
      refine wpAnyT_take (i := 2) (oi := ?oi103) (v := ?v103) ?hi103 (by kernel_rfl) (by kernel_rfl) (by kernel_rfl) (by kernel_rfl) (by kernel_rfl) ?hQ103 ?hy103 (by assumption) ?_
      case hi103 => (simp only [List.getElem?_toArray, List.getElem?_cons_succ, List.getElem?_cons_zero]; try rfl)
      case hQ103 => exact fun _ _ _ h => h
      case hy103 => (refine Or.inl ⟨by rfl, ?_⟩; intro wq hSw; (try dsimp only at hSw); go_simp; (try with_reducible rfl))
      (try simp only [Act.put, List.setIfInBounds_toArray, List.set_cons_zero, List.set_cons_succ])
      refine wpAnyT_take (i := 3) (oi := ?oi104) (v := ?v104) ?hi104 (by kernel_rfl) (by kernel_rfl) (by kernel_rfl) (by kernel_rfl) (by kernel_rfl) ?hQ104 ?hy104 (by assumption) ?_
      case hi104 => (simp only [List.getElem?_toArray, List.getElem?_cons_succ, List.getElem?_cons_zero]; try rfl)
      case hQ104 => exact fun _ _ _ h => h
      case hy104 => (refine Or.inl ⟨by rfl, ?_⟩; intro wq hSw; (try dsimp only at hSw); go_simp; (try with_reducible rfl))
      (try simp only [Act.put, List.setIfInBounds_toArray, List.set_cons_zero, List.set_cons_succ])
      refine wpAnyT_take (i := 4) (oi := ?oi105) (v := ?v105) ?hi105 (by kernel_rfl) (by kernel_rfl) (by kernel_rfl) (by kernel_rfl) (by kernel_rfl) ?hQ105 ?hy105 (by assumption) ?_
      case hi105 => (simp only [List.getElem?_toArray, List.getElem?_cons_succ, List.getElem?_cons_zero]; try rfl)
      case hQ105 => exact fun _ _ _ h => h
      case hy105 => (refine Or.inl ⟨by rfl, ?_⟩; intro wq hSw; (try dsimp only at hSw); go_simp; (try with_reducible rfl))
      (try simp only [Act.put, List.setIfInBounds_toArray, List.set_cons_zero, List.set_cons_succ])
      refine wpAnyT_take (i := 5) (oi := ?oi106) (v := ?v106) ?hi106 (by kernel_rfl) (by kernel_rfl) (by kernel_rfl) (by kernel_rfl) (by kernel_rfl) ?hQ106 ?hy106 (by assumption) ?_
      case hi106 => (simp only [List.getElem?_toArray, List.getElem?_cons_succ, List.getElem?_cons_zero]; try rfl)
      case hQ106 => exact fun _ _ _ h => h
      case hy106 => (refine Or.inl ⟨by rfl, ?_⟩; intro wq hSw; (try dsimp only at hSw); go_simp; (try with_reducible rfl))
      (try simp only [Act.put, List.setIfInBounds_toArray, List.set_cons_zero, List.set_cons_succ])
      refine wpAnyT_take (i := 6) (oi := ?oi107) (v := ?v107) ?hi107 (by kernel_rfl) (by kernel_rfl) (by kernel_rfl) (by kernel_rfl) (by kernel_rfl) ?hQ107 ?hy107 (by assumption) ?_
      case hi107 => (simp only [List.getElem?_toArray, List.getElem?_cons_succ, List.getElem?_cons_zero]; try rfl)
      case hQ107 => exact fun _ _ _ h => h
      case hy107 => (refine Or.inl ⟨by rfl, ?_⟩; intro wq hSw; (try dsimp only at hSw); go_simp; (try with_reducible rfl))
      (try simp only [Act.put, List.setIfInBounds_toArray, List.set_cons_zero, List.set_cons_succ])
      refine wpAnyT_ready (rs := [7]) (by kernel_rfl) (by simp) ?_
      refine AllReadyT.last (o := ?oi108) ?hi108 ?ti108
      case hi108 => (simp only [List.getElem?_toArray, List.getElem?_cons_succ, List.getElem?_cons_zero]; try rfl)
      case ti108 =>
        intro KQ hKQ
        go_simp
        refine hKQ.out _ _ ?_
        clear hKQ KQ hHeld
        (try simp only [Act.put, List.setIfInBounds_toArray, List.set_cons_zero, List.set_cons_succ])
        refine wpAnyT_done (by kernel_rfl) ?_ _
        have H4 := ((H3.out.put 0 rfl (i * 2) (.slice z.A z.n z.c)).put 0 rfl (i * 2 + 1) (.int .i64 z.id))
        have hU4 := Upd.one (d := d + 1) (W := (W3.setCell ⟨pb, i * 2, none⟩ (.slice z.A z.n z.c)).setCell ⟨pb, i * 2 + 1, none⟩ (.int .i64 z.id)) HG.out HND.out (P := t.ps.set i z) H4 (by have := HNP.out; simp; omega) HN.out.symm (by rw [← mpl_set]) rfl
        obtain ⟨_, t0, t1, ft0, ft1⟩ := H4.two 0 rfl
        have hop4 := H4.own 1 rfl
        obtain ⟨hkb, q0⟩ := ownQ_at hop4 HKK.out
        have hne0 : bx ≠ pb := HBP.out
        have z0 := (cell_far hne0 z0 : (W3.setCell ⟨pb, i * 2, none⟩ (.slice z.A z.n z.c)).cell? ⟨bx, 0, none⟩ = _)
        have z1 := (cell_far hne0 z1 : (W3.setCell ⟨pb, i * 2, none⟩ (.slice z.A z.n z.c)).cell? ⟨bx, 1, none⟩ = _)
        have z0 := (cell_far hne0 z0 : ((W3.setCell ⟨pb, i * 2, none⟩ (.slice z.A z.n z.c)).setCell ⟨pb, i * 2 + 1, none⟩ (.int .i64 z.id)).cell? ⟨bx, 0, none⟩ = _)
        have z1 := (cell_far hne0 z1 : ((W3.setCell ⟨pb, i * 2, none⟩ (.slice z.A z.n z.c)).setCell ⟨pb, i * 2 + 1, none⟩ (.int .i64 z.id)).cell? ⟨bx, 1, none⟩ = _)
        clear fq0 fq1 hop4 H4 p0 p1 hpb3
        generalize (W3.setCell ⟨pb, i * 2, none⟩ (.slice z.A z.n z.c)).setCell ⟨pb, i * 2 + 1, none⟩ (.int .i64 z.id) = W4 at *
        obtain ⟨T0, HTR, HTK, HTP, HTPS, HUT⟩ : ∃ T0 : MT, Hid (T0.r = t.r) ∧ Hid (T0.ks = t.ks) ∧ Hid (T0.ps.length = t.ps.length) ∧ Hid (T0.ps = t.ps.set i z) ∧ Hid (Upd base (d + 1) w W4 t T0) := ⟨MT.nd t.r (.slice (some ⟨pb, 0, none⟩) np cp) (.slice (some ⟨kb, 0, none⟩) n c) (t.ps.set i z) t.ks, Lib.hid rfl, Lib.hid rfl, Lib.hid (by show (t.ps.set i z).length = _; simp), Lib.hid rfl, Lib.hid hU4⟩
        clear hU4
        have HZM : Hid (z ∈ flat d k) := Lib.hid (List.mem_of_getLast? HZ.out)
        have HKM : Hid (k ∈ T0.ks) := Lib.hid (by rw [HTK.out]; exact HKM0.out)
        have HKS : Hid (T0.ks = T0.ks.take i ++ k :: T0.ks.drop (i + 1)) := Lib.hid (by rw [HTK.out]; exact one_at HKK.out)
        have HKW0 : Hid (∀ x ∈ T0.ks, Wf m d (m / 2) m x) := Lib.hid (by rw [HTK.out]; exact HKW.out)
        have HLEN : Hid (T0.ks.length = T0.ps.length + 1 ∧ lo ≤ T0.ps.length ∧ T0.ps.length ≤ m ∧ T0.ps.length ≤ 64 ∧ i < T0.ks.length ∧ 1 ≤ lo) := Lib.hid (by
          have h := HLEN0.out
          have h2 := HI1.out
          rw [HTK.out, HTP.out]
          exact ⟨h.1, h.2.1, h.2.2.1, h.2.2.2, h2.2, HLO.out⟩)
        have HIH : Hid (∀ W, Ext W4 W → Calls Try.prog 32 #[pt tb, pt k.r, pv z] W fun e w' => e = .returned (.tuple #[]) ∧ ∃ k', Upd base d W w' k k' ∧ Rem z.kp (flat d k) (flat d k') ∧ Wf m d (m / 2 - 1) m k') := Lib.hid fun W hE =>
          ih (m / 2) k z W (by omega) (Nat.le_trans HB.out (Nat.le_trans HUT.out.tur.size hE.size)) (hE.cell' (HUT.out.tur.cell HTBW.out HTF.out)) (fun h => HTF.out (foot_kid HKM0.out tb h)) ((HUT.out.good.kid HKM.out).ext hE) (foot_of_kid HND.out HKM0.out) (HKW.out k HKM0.out) (List.Pairwise.sublist (kid_sub HKL.out HKK.out) HS.out) (fun q hq => (HUT.out.tur.key (HK.out q ((kid_sub HKL.out HKK.out).subset hq))).ext hE) (((HUT.out.tur.key (HK.out z ((kid_sub HKL.out HKK.out).subset HZM.out))).kr).ext hE) (⟨z, HZM.out, rfl⟩)
        have HGO : Hid (∀ f', Rem z.kp (flat d k) f' → Rem p.kp (flat (d + 1) t) (pre (T0.ps.take i) ((T0.ks.take i).map (flat d)) ++ (f' ++ post (T0.ps.drop i) ((T0.ks.drop (i + 1)).map (flat d))))) := Lib.hid fun f' h => by
          have hl := HLEN0.out
          have hz0 := HZ0.out
          have hip := (List.getElem?_eq_some_iff.1 hz0).1
          obtain ⟨Y, hY⟩ : ∃ Y, flat d k = Y ++ [z] := by
            have hz := HZ.out
            rcases List.eq_nil_or_concat (flat d k) with h0 | ⟨Y, b, h0⟩
            · rw [h0] at hz; cases hz
            · rw [h0] at hz; simp at hz; subst hz; exact ⟨Y, by rw [h0, List.concat_eq_append]⟩
          have hsk : Srt (flat d k) := List.Pairwise.sublist (kid_sub HKL.out HKK.out) HS.out
          rw [hY] at h hsk
          have hf := h.last hsk
          subst hf
          have hd1 : t.ps.drop i = z0' :: t.ps.drop (i + 1) := by
            obtain ⟨h1, h2⟩ := List.getElem?_eq_some_iff.1 hz0
            rw [List.drop_eq_getElem_cons h1, h2]
          have hd2 : (t.ps.set i z).drop i = z :: t.ps.drop (i + 1) := by
            rw [List.drop_eq_getElem_cons (by simpa using hip), List.getElem_set_self, List.drop_set_of_lt (by omega)]
          have hd3 : (t.ps.set i z).take i = t.ps.take i := by rw [List.take_set_of_le (Nat.le_refl _)]
          obtain ⟨k2, K2, hk2⟩ : ∃ k2 K2, (t.ks.drop (i + 1)).map (flat d) = k2 :: K2 := by
            cases hc : t.ks.drop (i + 1) with
            | nil => have := congrArg List.length hc; simp at this; omega
            | cons a l => exact ⟨_, _, rfl⟩
          rw [HTK.out, HTPS.out, hd2, hd3, HFK.out, hd1, hk2, post_cons, post_cons, hY]
          exact ⟨pre (t.ps.take i) ((t.ks.take i).map (flat d)) ++ (f' ++ [z]), z0', k2 ++ post (t.ps.drop (i + 1)) K2, by simp, HZP.out, by simp⟩
        clear ih
        go_wp2
        refine wp_region_T 9 (S := (fun w' => w'.cell? ⟨t.r, 1, none⟩ = some (.slice (some ⟨kb, 0, none⟩) n c) ∧ w'.cell? ⟨kb, i, none⟩ = some (pt k.r) ∧ w'.cell? ⟨bx, 0, none⟩ = some (.slice z.A z.n z.c) ∧ w'.cell? ⟨bx, 1, none⟩ = some (.int .i64 z.id))) (by kernel_rfl) (by simp [go_sem, ↓IntWalk.iteOmega, *]) (fun hHeld => ?_)
        refine wpAnyT_take (i := 0) (oi := ?oi201) (v := ?v201) ?hi201 (by kernel_rfl) (by kernel_rfl) (by kernel_rfl) (by kernel_rfl) (by kernel_rfl) ?hQ201 ?hy201 (by assumption) ?_
        case hi201 => (simp only [List.getElem?_toArray, List.getElem?_cons_succ, List.getElem?_cons_zero]; try rfl)
        case hQ201 => exact fun _ _ _ h => h
        case hy201 => (refine Or.inl ⟨by rfl, ?_⟩; intro wq hSw; (try dsimp only at hSw); go_simp; (try with_reducible rfl))
        (try simp only [Act.put, List.setIfInBounds_toArray, List.set_cons_zero, List.set_cons_succ])
        refine wpAnyT_take (i := 1) (oi := ?oi202) (v := ?v202) ?hi202 (by kernel_rfl) (by kernel_rfl) (by kernel_rfl) (by kernel_rfl) (by kernel_rfl) ?hQ202 ?hy202 (by assumption) ?_
        case hi202 => (simp only [List.getElem?_toArray, List.getElem?_cons_succ, List.getElem?_cons_zero]; try rfl)
        case hQ202 => exact fun _ _ _ h => h
        case hy202 => (refine Or.inl ⟨by rfl, ?_⟩; intro wq hSw; (try dsimp only at hSw); go_simp; (try with_reducible rfl))
        (try simp only [Act.put, List.setIfInBounds_toArray, List.set_cons_zero, List.set_cons_succ])
        refine wpAnyT_take (i := 2) (oi := ?oi203) (v := ?v203) ?hi203 (by kernel_rfl) (by kernel_rfl) (by kernel_rfl) (by kernel_rfl) (by kernel_rfl) ?hQ203 ?hy203 (by assumption) ?_
        case hi203 => (simp only [List.getElem?_toArray, List.getElem?_cons_succ, List.getElem?_cons_zero]; try rfl)
        case hQ203 => exact fun _ _ _ h => h
        case hy203 => (refine Or.inl ⟨by rfl, ?_⟩; intro wq hSw; (try dsimp only at hSw); go_simp; (try with_reducible rfl))
        (try simp only [Act.put, List.setIfInBounds_toArray, List.set_cons_zero, List.set_cons_succ])
        refine wpAnyT_take (i := 3) (oi := ?oi204) (v := ?v204) ?hi204 (by kernel_rfl) (by kernel_rfl) (by kernel_rfl) (by kernel_rfl) (by kernel_rfl) ?hQ204 ?hy204 (by assumption) ?_
        case hi204 => (simp only [List.getElem?_toArray, List.getElem?_cons_succ, List.getElem?_cons_zero]; try rfl)
        case hQ204 => exact fun _ _ _ h => h
        case hy204 => (refine Or.inl ⟨by rfl, ?_⟩; intro wq hSw; (try dsimp only at hSw); go_simp; (try with_reducible rfl))
        (try simp only [Act.put, List.setIfInBounds_toArray, List.set_cons_zero, List.set_cons_succ])
        refine wpAnyT_take (i := 4) (oi := ?oi205) (v := ?v205) ?hi205 (by kernel_rfl) (by kernel_rfl) (by kernel_rfl) (by kernel_rfl) (by kernel_rfl) ?hQ205 ?hy205 (by assumption) ?_
        case hi205 => (simp only [List.getElem?_toArray, List.getElem?_cons_succ, List.getElem?_cons_zero]; try rfl)
        case hQ205 => exact fun _ _ _ h => h
        case hy205 => (refine Or.inl ⟨by rfl, ?_⟩; intro wq hSw; (try dsimp only at hSw); go_simp; (try with_reducible rfl))
        (try simp only [Act.put, List.setIfInBounds_toArray, List.set_cons_zero, List.set_cons_succ])
        refine wpAnyT_take (i := 5) (oi := ?oi206) (v := ?v206) ?hi206 (by kernel_rfl) (by kernel_rfl) (by kernel_rfl) (by kernel_rfl) (by kernel_rfl) ?hQ206 ?hy206 (by assumption) ?_
        case hi206 => (simp only [List.getElem?_toArray, List.getElem?_cons_succ, List.getElem?_cons_zero]; try rfl)
        case hQ206 => exact fun _ _ _ h => h
        case hy206 => (refine Or.inl ⟨by rfl, ?_⟩; intro wq hSw; (try dsimp only at hSw); go_simp; (try with_reducible rfl))
        (try simp only [Act.put, List.setIfInBounds_toArray, List.set_cons_zero, List.set_cons_succ])
        refine wpAnyT_take (i := 6) (oi := ?oi207) (v := ?v207) ?hi207 (by kernel_rfl) (by kernel_rfl) (by kernel_rfl) (by kernel_rfl) (by kernel_rfl) ?hQ207 ?hy207 (by assumption) ?_
        case hi207 => (simp only [List.getElem?_toArray, List.getElem?_cons_succ, List.getElem?_cons_zero]; try rfl)
        case hQ207 => exact fun _ _ _ h => h
        case hy207 => (refine Or.inl ⟨by rfl, ?_⟩; intro wq hSw; (try dsimp only at hSw); go_simp; (try with_reducible rfl))
        (try simp only [Act.put, List.setIfInBounds_toArray, List.set_cons_zero, List.set_cons_succ])
        refine wpAnyT_take (i := 7) (oi := ?oi208) (v := ?v208) ?hi208 (by kernel_rfl) (by kernel_rfl) (by kernel_rfl) (by kernel_rfl) (by kernel_rfl) ?hQ208 ?hy208 (by assumption) ?_
        case hi208 => (simp only [List.getElem?_toArray, List.getElem?_cons_succ, List.getElem?_cons_zero]; try rfl)
        case hQ208 => exact fun _ _ _ h => h
        case hy208 => (refine Or.inl ⟨by rfl, ?_⟩; intro wq hSw; (try dsimp only at hSw); go_simp; (try with_reducible rfl))
        (try simp only [Act.put, List.setIfInBounds_toArray, List.set_cons_zero, List.set_cons_succ])
        refine wpAnyT_take (i := 8) (oi := ?oi209) (v := ?v209) ?hi209 (by kernel_rfl) (by kernel_rfl) (by kernel_rfl) (by kernel_rfl) (by kernel_rfl) ?hQ209 ?hy209 (by assumption) ?_
        case hi209 => (simp only [List.getElem?_toArray, List.getElem?_cons_succ, List.getElem?_cons_zero]; try rfl)
        case hQ209 => exact fun _ _ _ h => h
        case hy209 => (refine Or.inl ⟨by rfl, ?_⟩; intro wq hSw; (try dsimp only at hSw); go_simp; (try with_reducible rfl))
        (try simp only [Act.put, List.setIfInBounds_toArray, List.set_cons_zero, List.set_cons_succ])
        refine wpAnyT_ready (rs := [9]) (by kernel_rfl) (by simp) ?_
        refine AllReadyT.last (o := ?oi210) ?hi210 ?ti210
        case hi210 => (simp only [List.getElem?_toArray, List.getElem?_cons_succ, List.getElem?_cons_zero]; try rfl)
        case ti210 =>
          intro KQ hKQ
          go_simp
          go_at_call 32
          refine Calls.mono (HIH.out _ (by repeat (first | exact Ext.refl' _ | assumption | apply Ext.ex' | apply Ext.al | apply Ext.drN | apply Ext.dr))) ?_
          rintro e w5 ⟨rfl, k', hU, HRM, HWk⟩
          refine hKQ.out _ _ ?_
          clear hKQ KQ hHeld
          (try simp only [Act.put, List.setIfInBounds_toArray, List.set_cons_zero, List.set_cons_succ])
          refine wpAnyT_done (by kernel_rfl) ?_ _
          have hU := Upd.pre (HUT.out.good.kid HKM.out) (foot_of_kid HUT.out.nodup HKM.out) (by repeat (first | exact Ext.refl' _ | assumption | apply Ext.ex' | apply Ext.al | apply Ext.drN | apply Ext.dr)) hU
          have UT1 := Upd.kid HUT.out.good HUT.out.nodup HKS.out hU
          obtain ⟨T1, f_r, f_ps, f_ks, UT⟩ : ∃ T1 : MT, T1.r = t.r ∧ T1.ps = T0.ps ∧ T1.ks = T0.ks.take i ++ k' :: T0.ks.drop (i + 1) ∧ Upd base (d + 1) w w5 t T1 := ⟨MT.nd T0.r T0.vp T0.vk T0.ps (T0.ks.take i ++ k' :: T0.ks.drop (i + 1)), HTR.out, rfl, rfl, HUT.out.trans UT1⟩
          have htb5 := UT.tur.cell HTBW.out HTF.out
          have hlen := HLEN.out
          have HFX : Hid (∀ W, Ext w5 W → Calls Try.prog 55 #[pt tb, pt T1.r, .int .i64 i] W fun e w' => e = .returned (.tuple #[]) ∧ ∃ t', FixR base m d W w' T1 t') := Lib.hid fun W hE =>
            fix_any base m d tb i T1 W (Nat.le_trans HB.out (Nat.le_trans UT.tur.size hE.size)) hm hm2 (hE.cell' htb5) (UT.good.ext hE) UT.nodup (by rw [f_ks, f_ps]; simp; omega) (by rw [f_ks]; simp; omega) (by rw [f_ps]; omega) (by rw [f_ps]; omega) (fun j x hj => by
              rw [f_ks] at hj
              by_cases hji : j = i
              · subst hji
                rw [List.getElem?_append_right (by simp; omega), List.length_take, Nat.min_eq_left (by omega), Nat.sub_self] at hj
                have : k' = x := by simpa using hj
                rw [if_pos rfl, ← this]
                exact HWk
              · rw [if_neg hji]
                have hxm : x ∈ T0.ks := by
                  rcases Nat.lt_or_ge j i with h | h
                  · rw [List.getElem?_append_left (by simp; omega)] at hj
                    exact List.mem_of_mem_take (List.mem_of_getElem? hj)
                  · rw [List.getElem?_append_right (by simp; omega), List.length_take, Nat.min_eq_left (by omega), show j - i = (j - i - 1) + 1 by omega, List.getElem?_cons_succ] at hj
                    exact List.mem_of_mem_drop (List.mem_of_getElem? hj)
                exact HKW0.out x hxm)
          rw [f_r] at HFX
          have hflt : flat (d + 1) T1 = pre (T0.ps.take i) ((T0.ks.take i).map (flat d)) ++ (flat d k' ++ post (T0.ps.drop i) ((T0.ks.drop (i + 1)).map (flat d))) := flat_at (P1 := T0.ps.take i) (P2 := T0.ps.drop i) (by rw [f_ps, List.take_append_drop]) f_ks (by simp; omega)
          have HREM : Hid (Rem p.kp (flat (d + 1) t) (flat (d + 1) T1)) := Lib.hid (by rw [hflt]; exact HGO.out _ HRM)
          have HUT5 := Lib.hid UT
          have HFPS := Lib.hid f_ps
          clear hU UT1 f_r f_ps f_ks UT htb5 hlen hflt HRM HWk
          go_wp2_with fail
          refine Calls.mono (HFX.out _ (by repeat (first | exact Ext.refl' _ | assumption | apply Ext.ex' | apply Ext.al | apply Ext.drN | apply Ext.dr))) ?_
          rintro e w6 ⟨rfl, t', hF⟩
          have HF := Lib.hid hF
          clear hF
          go_wp2
          refine bodyPost_end (v := .tuple #[]) ?_ rfl ?_
          · simp [results, Try.results32]
          have hF := HF.out
          have hlen := HLEN.out
          have hfps := HFPS.out
          have hle := hF.le
          have hge := hF.ge
          rw [hfps] at hle hge
          refine ⟨rfl, t', HUT5.out.trans (Upd.pre HUT5.out.good HUT5.out.nodup (by repeat (first | exact Ext.refl' _ | assumption | apply Ext.ex' | apply Ext.al | apply Ext.drN | apply Ext.dr)) hF.upd), ?_, hF.len, by omega, by omega, hF.kids⟩
          rw [hF.flat]
          exact HREM.out
    | false =>
      have hNF : Hid (∀ x, t.ps[i]? = some x → x.kp ≠ p.kp) := Lib.hid fun x hx => foundB_false hfb hx
      clear hfb
      obtain ⟨T0, HTR, HTK, HTP, HTPS, HUT⟩ : ∃ T0 : MT, Hid (T0.r = t.r) ∧ Hid (T0.ks = t.ks) ∧ Hid (T0.ps.length = t.ps.length) ∧ Hid (T0.ps = t.ps) ∧ Hid (Upd base (d + 1) w w1 t T0) := ⟨t, Lib.hid rfl, Lib.hid rfl, Lib.hid rfl, Lib.hid rfl, Lib.hid (Upd.refl HG.out HND.out hE1)⟩
      have HIN : Hid (∃ q ∈ flat d k, q.kp = p.kp) := Lib.hid (by
        obtain ⟨q, hq, hqp⟩ := HEX.out
        have hq2 := hq
        rw [HFK.out] at hq2
        have har := HAR.out
        have hs := HS.out
        rw [HFK.out] at hs
        rcases List.mem_append.1 hq2 with h | h
        · have := har.1 q h; rw [hqp] at this; exact absurd this (ltP_irr _)
        · rcases List.mem_append.1 h with h | h
          · exact ⟨q, h, hqp⟩
          · exact absurd hqp (post_head (List.pairwise_append.1 (List.pairwise_append.1 hs).2.1).2.1 har.2 (fun x hx => hNF.out x (by simpa using hx)) q h))
      have HKM : Hid (k ∈ T0.ks) := Lib.hid (by rw [HTK.out]; exact HKM0.out)
      have HKS : Hid (T0.ks = T0.ks.take i ++ k :: T0.ks.drop (i + 1)) := Lib.hid (by rw [HTK.out]; exact one_at HKK.out)
      have HKW0 : Hid (∀ x ∈ T0.ks, Wf m d (m / 2) m x) := Lib.hid (by rw [HTK.out]; exact HKW.out)
      have HLEN : Hid (T0.ks.length = T0.ps.length + 1 ∧ lo ≤ T0.ps.length ∧ T0.ps.length ≤ m ∧ T0.ps.length ≤ 64 ∧ i < T0.ks.length ∧ 1 ≤ lo) := Lib.hid (by
        have h := HLEN0.out
        have h2 := HI1.out
        rw [HTK.out, HTP.out]
        exact ⟨h.1, h.2.1, h.2.2.1, h.2.2.2, h2.2, HLO.out⟩)
      have HIH : Hid (∀ W, Ext w1 W → Calls Try.prog 32 #[pt tb, pt k.r, pv p] W fun e w' => e = .returned (.tuple #[]) ∧ ∃ k', Upd base d W w' k k' ∧ Rem p.kp (flat d k) (flat d k') ∧ Wf m d (m / 2 - 1) m k') := Lib.hid fun W hE =>
        ih (m / 2) k p W (by omega) (Nat.le_trans HB.out (Nat.le_trans HUT.out.tur.size hE.size)) (hE.cell' (HUT.out.tur.cell HTBW.out HTF.out)) (fun h => HTF.out (foot_kid HKM0.out tb h)) ((HUT.out.good.kid HKM.out).ext hE) (foot_of_kid HND.out HKM0.out) (HKW.out k HKM0.out) (List.Pairwise.sublist (kid_sub HKL.out HKK.out) HS.out) (fun q hq => (HUT.out.tur.key (HK.out q ((kid_sub HKL.out HKK.out).subset hq))).ext hE) ((HP.out.ext hE1).ext hE) (HIN.out)
      have HGO : Hid (∀ f', Rem p.kp (flat d k) f' → Rem p.kp (flat (d + 1) t) (pre (T0.ps.take i) ((T0.ks.take i).map (flat d)) ++ (f' ++ post (T0.ps.drop i) ((T0.ks.drop (i + 1)).map (flat d))))) := Lib.hid fun f' h => by
        rw [HTK.out, HTPS.out, HFK.out]
        exact h.around _ _
      clear zf0 zf1 ih
      go_wp2
      refine wp_region_T 9 (S := (fun w' => w'.cell? ⟨t.r, 1, none⟩ = some (.slice (some ⟨kb, 0, none⟩) n c) ∧ w'.cell? ⟨kb, i, none⟩ = some (pt k.r) ∧ w'.cell? ⟨bx, 0, none⟩ = some (.slice p.A p.n p.c) ∧ w'.cell? ⟨bx, 1, none⟩ = some (.int .i64 p.id))) (by kernel_rfl) (by simp [go_sem, ↓IntWalk.iteOmega, *]) (fun hHeld => ?_)
      refine wpAnyT_take (i := 0) (oi := ?oi401) (v := ?v401) ?hi401 (by kernel_rfl) (by kernel_rfl) (by kernel_rfl) (by kernel_rfl) (by kernel_rfl) ?hQ401 ?hy401 (by assumption) ?_
      case hi401 => (simp only [List.getElem?_toArray, List.getElem?_cons_succ, List.getElem?_cons_zero]; try rfl)
      case hQ401 => exact fun _ _ _ h => h
      case hy401 => (refine Or.inl ⟨by rfl, ?_⟩; intro wq hSw; (try dsimp only at hSw); go_simp; (try with_reducible rfl))
      (try simp only [Act.put, List.setIfInBounds_toArray, List.set_cons_zero, List.set_cons_succ])
      refine wpAnyT_take (i := 1) (oi := ?oi402) (v := ?v402) ?hi402 (by kernel_rfl) (by kernel_rfl) (by kernel_rfl) (by kernel_rfl) (by kernel_rfl) ?hQ402 ?hy402 (by assumption) ?_
      case hi402 => (simp only [List.getElem?_toArray, List.getElem?_cons_succ, List.getElem?_cons_zero]; try rfl)
      case hQ402 => exact fun _ _ _ h => h
      case hy402 => (refine Or.inl ⟨by rfl, ?_⟩; intro wq hSw; (try dsimp only at hSw); go_simp; (try with_reducible rfl))
      (try simp only [Act.put, List.setIfInBounds_toArray, List.set_cons_zero, List.set_cons_succ])
      refine wpAnyT_take (i := 2) (oi := ?oi403) (v := ?v403) ?hi403 (by kernel_rfl) (by kernel_rfl) (by kernel_rfl) (by kernel_rfl) (by kernel_rfl) ?hQ403 ?hy403 (by assumption) ?_
      case hi403 => (simp only [List.getElem?_toArray, List.getElem?_cons_succ, List.getElem?_cons_zero]; try rfl)
      case hQ403 => exact fun _ _ _ h => h
      case hy403 => (refine Or.inl ⟨by rfl, ?_⟩; intro wq hSw; (try dsimp only at hSw); go_simp; (try with_reducible rfl))
      (try simp only [Act.put, List.setIfInBounds_toArray, List.set_cons_zero, List.set_cons_succ])
      refine wpAnyT_take (i := 3) (oi := ?oi404) (v := ?v404) ?hi404 (by kernel_rfl) (by kernel_rfl) (by kernel_rfl) (by kernel_rfl) (by kernel_rfl) ?hQ404 ?hy404 (by assumption) ?_
      case hi404 => (simp only [List.getElem?_toArray, List.getElem?_cons_succ, List.getElem?_cons_zero]; try rfl)
      case hQ404 => exact fun _ _ _ h => h
      case hy404 => (refine Or.inl ⟨by rfl, ?_⟩; intro wq hSw; (try dsimp only at hSw); go_simp; (try with_reducible rfl))
      (try simp only [Act.put, List.setIfInBounds_toArray, List.set_cons_zero, List.set_cons_succ])
      refine wpAnyT_take (i := 4) (oi := ?oi405) (v := ?v405) ?hi405 (by kernel_rfl) (by kernel_rfl) (by kernel_rfl) (by kernel_rfl) (by kernel_rfl) ?hQ405 ?hy405 (by assumption) ?_
      case hi405 => (simp only [List.getElem?_toArray, List.getElem?_cons_succ, List.getElem?_cons_zero]; try rfl)
      case hQ405 => exact fun _ _ _ h => h
      case hy405 => (refine Or.inl ⟨by rfl, ?_⟩; intro wq hSw; (try dsimp only at hSw); go_simp; (try with_reducible rfl))
      (try simp only [Act.put, List.setIfInBounds_toArray, List.set_cons_zero, List.set_cons_succ])
      refine wpAnyT_take (i := 5) (oi := ?oi406) (v := ?v406) ?hi406 (by kernel_rfl) (by kernel_rfl) (by kernel_rfl) (by kernel_rfl) (by kernel_rfl) ?hQ406 ?hy406 (by assumption) ?_
      case hi406 => (simp only [List.getElem?_toArray, List.getElem?_cons_succ, List.getElem?_cons_zero]; try rfl)
      case hQ406 => exact fun _ _ _ h => h
      case hy406 => (refine Or.inl ⟨by rfl, ?_⟩; intro wq hSw; (try dsimp only at hSw); go_simp; (try with_reducible rfl))
      (try simp only [Act.put, List.setIfInBounds_toArray, List.set_cons_zero, List.set_cons_succ])
      refine wpAnyT_take (i := 6) (oi := ?oi407) (v := ?v407) ?hi407 (by kernel_rfl) (by kernel_rfl) (by kernel_rfl) (by kernel_rfl) (by kernel_rfl) ?hQ407 ?hy407 (by assumption) ?_
      case hi407 => (simp only [List.getElem?_toArray, List.getElem?_cons_succ, List.getElem?_cons_zero]; try rfl)
      case hQ407 => exact fun _ _ _ h => h
      case hy407 => (refine Or.inl ⟨by rfl, ?_⟩; intro wq hSw; (try dsimp only at hSw); go_simp; (try with_reducible rfl))
      (try simp only [Act.put, List.setIfInBounds_toArray, List.set_cons_zero, List.set_cons_succ])
      refine wpAnyT_take (i := 7) (oi := ?oi408) (v := ?v408) ?hi408 (by kernel_rfl) (by kernel_rfl) (by kernel_rfl) (by kernel_rfl) (by kernel_rfl) ?hQ408 ?hy408 (by assumption) ?_
      case hi408 => (simp only [List.getElem?_toArray, List.getElem?_cons_succ, List.getElem?_cons_zero]; try rfl)
      case hQ408 => exact fun _ _ _ h => h
      case hy408 => (refine Or.inl ⟨by rfl, ?_⟩; intro wq hSw; (try dsimp only at hSw); go_simp; (try with_reducible rfl))
      (try simp only [Act.put, List.setIfInBounds_toArray, List.set_cons_zero, List.set_cons_succ])
      refine wpAnyT_take (i := 8) (oi := ?oi409) (v := ?v409) ?hi409 (by kernel_rfl) (by kernel_rfl) (by kernel_rfl) (by kernel_rfl) (by kernel_rfl) ?hQ409 ?hy409 (by assumption) ?_
      case hi409 => (simp only [List.getElem?_toArray, List.getElem?_cons_succ, List.getElem?_cons_zero]; try rfl)
      case hQ409 => exact fun _ _ _ h => h
      case hy409 => (refine Or.inl ⟨by rfl, ?_⟩; intro wq hSw; (try dsimp only at hSw); go_simp; (try with_reducible rfl))
      (try simp only [Act.put, List.setIfInBounds_toArray, List.set_cons_zero, List.set_cons_succ])
      refine wpAnyT_ready (rs := [9]) (by kernel_rfl) (by simp) ?_
      refine AllReadyT.last (o := ?oi410) ?hi410 ?ti410
      case hi410 => (simp only [List.getElem?_toArray, List.getElem?_cons_succ, List.getElem?_cons_zero]; try rfl)
      case ti410 =>
        intro KQ hKQ
        go_simp
        go_at_call 32
        refine Calls.mono (HIH.out _ (by repeat (first | exact Ext.refl' _ | assumption | apply Ext.ex' | apply Ext.al | apply Ext.drN | apply Ext.dr))) ?_
        rintro e w5 ⟨rfl, k', hU, HRM, HWk⟩
        refine hKQ.out _ _ ?_
        clear hKQ KQ hHeld
        (try simp only [Act.put, List.setIfInBounds_toArray, List.set_cons_zero, List.set_cons_succ])
        refine wpAnyT_done (by kernel_rfl) ?_ _
        have hU := Upd.pre (HUT.out.good.kid HKM.out) (foot_of_kid HUT.out.nodup HKM.out) (by repeat (first | exact Ext.refl' _ | assumption | apply Ext.ex' | apply Ext.al | apply Ext.drN | apply Ext.dr)) hU
        have UT1 := Upd.kid HUT.out.good HUT.out.nodup HKS.out hU
        obtain ⟨T1, f_r, f_ps, f_ks, UT⟩ : ∃ T1 : MT, T1.r = t.r ∧ T1.ps = T0.ps ∧ T1.ks = T0.ks.take i ++ k' :: T0.ks.drop (i + 1) ∧ Upd base (d + 1) w w5 t T1 := ⟨MT.nd T0.r T0.vp T0.vk T0.ps (T0.ks.take i ++ k' :: T0.ks.drop (i + 1)), HTR.out, rfl, rfl, HUT.out.trans UT1⟩
        have htb5 := UT.tur.cell HTBW.out HTF.out
        have hlen := HLEN.out
        have HFX : Hid (∀ W, Ext w5 W → Calls Try.prog 55 #[pt tb, pt T1.r, .int .i64 i] W fun e w' => e = .returned (.tuple #[]) ∧ ∃ t', FixR base m d W w' T1 t') := Lib.hid fun W hE =>
          fix_any base m d tb i T1 W (Nat.le_trans HB.out (Nat.le_trans UT.tur.size hE.size)) hm hm2 (hE.cell' htb5) (UT.good.ext hE) UT.nodup (by rw [f_ks, f_ps]; simp; omega) (by rw [f_ks]; simp; omega) (by rw [f_ps]; omega) (by rw [f_ps]; omega) (fun j x hj => by
            rw [f_ks] at hj
            by_cases hji : j = i
            · subst hji
              rw [List.getElem?_append_right (by simp; omega), List.length_take, Nat.min_eq_left (by omega), Nat.sub_self] at hj
              have : k' = x := by simpa using hj
              rw [if_pos rfl, ← this]
              exact HWk
            · rw [if_neg hji]
              have hxm : x ∈ T0.ks := by
                rcases Nat.lt_or_ge j i with h | h
                · rw [List.getElem?_append_left (by simp; omega)] at hj
                  exact List.mem_of_mem_take (List.mem_of_getElem? hj)
                · rw [List.getElem?_append_right (by simp; omega), List.length_take, Nat.min_eq_left (by omega), show j - i = (j - i - 1) + 1 by omega, List.getElem?_cons_succ] at hj
                  exact List.mem_of_mem_drop (List.mem_of_getElem? hj)
              exact HKW0.out x hxm)
        rw [f_r] at HFX
        have hflt : flat (d + 1) T1 = pre (T0.ps.take i) ((T0.ks.take i).map (flat d)) ++ (flat d k' ++ post (T0.ps.drop i) ((T0.ks.drop (i + 1)).map (flat d))) := flat_at (P1 := T0.ps.take i) (P2 := T0.ps.drop i) (by rw [f_ps, List.take_append_drop]) f_ks (by simp; omega)
        have HREM : Hid (Rem p.kp (flat (d + 1) t) (flat (d + 1) T1)) := Lib.hid (by rw [hflt]; exact HGO.out _ HRM)
        have HUT5 := Lib.hid UT
        have HFPS := Lib.hid f_ps
        clear hU UT1 f_r f_ps f_ks UT htb5 hlen hflt HRM HWk
        go_wp2_with fail
        refine Calls.mono (HFX.out _ (by repeat (first | exact Ext.refl' _ | assumption | apply Ext.ex' | apply Ext.al | apply Ext.drN | apply Ext.dr))) ?_
        rintro e w6 ⟨rfl, t', hF⟩
        have HF := Lib.hid hF
        clear hF
        go_wp2
        refine bodyPost_end (v := .tuple #[]) ?_ rfl ?_
        · simp [results, Try.results32]
        have hF := HF.out
        have hlen := HLEN.out
        have hfps := HFPS.out
        have hle := hF.le
        have hge := hF.ge
        rw [hfps] at hle hge
        refine ⟨rfl, t', HUT5.out.trans (Upd.pre HUT5.out.good HUT5.out.nodup (by repeat (first | exact Ext.refl' _ | assumption | apply Ext.ex' | apply Ext.al | apply Ext.drN | apply Ext.dr)) hF.upd), ?_, hF.len, by omega, by omega, hF.kids⟩
        rw [hF.flat]
        exact HREM.out

end Go.Proofs.Ytdmbgimehepfaaa
