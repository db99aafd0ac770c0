/- The interval tree: balance. -/
import Derived.Test.YtahmkinppighkaaItB
set_option linter.unusedSimpArgs false
set_option linter.unusedVariables false
namespace Go.Proofs.Ytahmkinppighkaa
open Go.RowKit


theorem perm_c {l m : List Nat} (h : ∀ a, l.count a = m.count a) : l.Perm m := List.perm_iff_count.2 h
/-- a tree turned about, its items in order as before -/
structure BalP (t0 : AT) (w : World) (en : Ending) (w' : World) (t : AT) : Prop where
  ret : en = .returned t.p
  gd : Gd w' t
  ok : t.Ok
  fl : t.flat = t0.flat
  ft : t.foot.Perm t0.foot
  ch : Chg t0.foot w w'
def BalE (t0 : AT) (w : World) (en : Ending) (w' : World) : Prop := ∃ t, BalP t0 w en w' t


set_option maxRecDepth 100000 in
set_option maxHeartbeats 8000000 in
theorem balL2 (b c : Nat) (x y : It) (p q r : AT) (hc ec h e : Int) (w : World) (g : Gd w (.node b x (.node c y p q hc ec) r h e)) (nd : (AT.foot (.node b x (.node c y p q hc ec) r h e)).Nodup) (op : p.Ok) (oq : q.Ok) (or : r.Ok) (ohv : AT.Ok (.node c y p q hc ec)) (sz : p.flat.length + q.flat.length + r.flat.length ≤ 800000) (hd1 : 1 < hc - r.ht) (hd2 : ¬ p.ht < q.ht) :
    Calls Try.prog 60 #[ptI b] w (BalE (.node b x (.node c y p q hc ec) r h e) w) := by
  have ND := Lib.hid nd
  simp only [AT.foot, List.nodup_cons, List.nodup_append, List.mem_cons, List.mem_append, not_or] at nd
  have nbc : b ≠ c := by grind
  have nbp : b ∉ p.foot := by grind
  have nbq : b ∉ q.foot := by grind
  have nbr : b ∉ r.foot := by grind
  have ncp : c ∉ p.foot := by grind
  have ncq : c ∉ q.foot := by grind
  have ncr : c ∉ r.foot := by grind
  obtain ⟨kb, ⟨kc, gp, gq⟩, gr⟩ := g
  have kc : NdI w c y p.p q.p hc ec := kc
  have kb : NdI w b x (ptI c) r.p h e := kb
  have bhv := AT.Ok.bd ohv (by simp only [AT.flat, List.length_append, List.length_cons]; omega)
  have bhv : 0 ≤ hc ∧ hc ≤ 1000000 := bhv
  have bp := op.bd (by omega)
  have br := or.bd (by omega)
  have bq := oq.bd (by omega)
  have ghv : Gd w (.node c y p q hc ec) := ⟨kc, gp, gq⟩
  have HF := Lib.hid (fix_any b x (ptI c) r.p h e _ _ _ _ w kb ghv.lev gr.lev (by show 0 ≤ hc ∧ hc ≤ _; omega) (by omega) (ptI_ne (Ne.symm nbc)) (p_ne nbr))
  have HNE : Hid (¬ b = c) := Lib.hid nbc
  have HGV := Lib.hid (And.intro ghv gr)
  have HKC := Lib.hid kc
  have HOHV := Lib.hid ohv
  have HOR := Lib.hid or
  obtain ⟨rh, hrh⟩ : ∃ rh, r.ht = rh := ⟨_, rfl⟩
  obtain ⟨ph, hph⟩ : ∃ ph, p.ht = ph := ⟨_, rfl⟩
  obtain ⟨qh, hqh⟩ : ∃ qh, q.ht = qh := ⟨_, rfl⟩
  obtain ⟨pr, hpr⟩ := p_form r
  obtain ⟨pp, hpp⟩ := p_form p
  obtain ⟨pq, hpq⟩ := p_form q
  have hww : wrap64 (hc - rh) = hc - rh := IntWalk.wrap64_in _ ⟨by omega, by omega⟩
  rw [hrh] at hd1
  rw [hph, hqh] at hd2
  have hlt0 := kb.f.lt
  have HFT : Hid (∀ k ∈ AT.foot (.node c y p q hc ec), k ∉ [b]) := Lib.hid (by simp only [AT.foot, List.mem_cons, List.mem_append, List.not_mem_nil, or_false]; grind)
  clear ghv kb kc nd or ohv
  unfold ptI
  go_enter Try.func60, Try.ntmps60
  go_wp2_with fail
  refine Calls.mono (show Calls _ _ _ _ _ from HF.out) ?_
  rintro en1 w1 ⟨rfl, k1, g1⟩
  obtain ⟨h1, hh1⟩ : ∃ h1, 1 + max (AT.ht (.node c y p q hc ec)) r.ht = h1 := ⟨_, rfl⟩
  obtain ⟨e1, he1⟩ : ∃ e1, max x.1.2 (max (AT.en (.node c y p q hc ec)) r.en) = e1 := ⟨_, rfl⟩
  rw [hh1, he1] at k1
  have ghv1 := HGV.out.1.chg g1 HFT.out
  have gr1 := HGV.out.2.chg g1 (by simp; exact fun k hk h => nbr (h ▸ hk))
  have kc1 : NdI w1 c y p.p q.p hc ec := HKC.out.chg g1 (by simpa using fun h => nbc h.symm)
  have HLV := Lib.hid fun W (e : Ext w1 W) => levels_any _ _ _ W (ghv1.ext e).lev
  have HLR := Lib.hid fun W (e : Ext w1 W) => levels_any _ _ _ W (gr1.ext e).lev
  have HLP := Lib.hid fun W (e : Ext w1 W) => levels_any _ _ _ W (Gd.lev (t := p) ((ghv1.2.1).ext e))
  have HLQ := Lib.hid fun W (e : Ext w1 W) => levels_any _ _ _ W (Gd.lev (t := q) ((ghv1.2.2).ext e))
  have HGR := Lib.hid gr1
  have HG1 := Lib.hid g1
  have HK1 := Lib.hid k1
  have HGH := Lib.hid ghv1
  have HG1T : Hid (Gd w1 (.node b x (.node c y p q hc ec) r h1 e1)) := Lib.hid ⟨k1, ghv1, gr1⟩
  
  obtain ⟨hlt1, -, -, -, cb3, cb4, -, -, fb3, fb4, -, -⟩ := k1.f
  obtain ⟨hltc, -, -, -, cc3, cc4, -, -, -, -, -, -⟩ := kc1.f
  rw [hpr, hrh] at HLR
  rw [hpp, hph] at HLP
  rw [hpq, hqh] at HLQ
  rw [hpr] at cb4
  rw [hpp] at cc3
  rw [hpq] at cc4
  have HLV : Hid (∀ W, Ext w1 W → Calls Try.prog 78 #[.pointer (some ⟨c, 0, none⟩)] W fun en w' => en = .returned (.int .i64 hc) ∧ w' = W) := HLV
  skip
  clear k1 g1 gr1 ghv1 kc1 hpr hpp hrh hph hh1 he1 HF hpq hqh
  unfold ptI at *
  go_wp2_with fail
  refine wp_region_ext (by kernel_rfl) (by kernel_rfl) ?_
  repeat (first | go_big_quiet_step ((go_at_call 78; first | with_reducible exact cret (HLV.out _ (by repeat (first | exact Ext.refl' _ | assumption | apply Ext.ex' | apply Ext.al | apply Ext.drN | apply Ext.dr))) | with_reducible exact cret (HLR.out _ (by repeat (first | exact Ext.refl' _ | assumption | apply Ext.ex' | apply Ext.al | apply Ext.drN | apply Ext.dr))))) | quiet_step ((go_at_call 78; first | with_reducible exact cret (HLV.out _ (by repeat (first | exact Ext.refl' _ | assumption | apply Ext.ex' | apply Ext.al | apply Ext.drN | apply Ext.dr))) | with_reducible exact cret (HLR.out _ (by repeat (first | exact Ext.refl' _ | assumption | apply Ext.ex' | apply Ext.al | apply Ext.drN | apply Ext.dr))))))
  refine wpQuiet_nil ?_
  intro _ hw'
  obtain ⟨xq1, hw''⟩ := hw'
  subst hw''
  go_wp2_with fail
  refine wp_region_ext (by kernel_rfl) (by kernel_rfl) ?_
  repeat (first | go_big_quiet_step ((go_at_call 78; first | with_reducible exact cret (HLP.out _ (by repeat (first | exact Ext.refl' _ | assumption | apply Ext.ex' | apply Ext.al | apply Ext.drN | apply Ext.dr))) | with_reducible exact cret (HLQ.out _ (by repeat (first | exact Ext.refl' _ | assumption | apply Ext.ex' | apply Ext.al | apply Ext.drN | apply Ext.dr))))) | quiet_step ((go_at_call 78; first | with_reducible exact cret (HLP.out _ (by repeat (first | exact Ext.refl' _ | assumption | apply Ext.ex' | apply Ext.al | apply Ext.drN | apply Ext.dr))) | with_reducible exact cret (HLQ.out _ (by repeat (first | exact Ext.refl' _ | assumption | apply Ext.ex' | apply Ext.al | apply Ext.drN | apply Ext.dr))))))
  refine wpQuiet_nil ?_
  intro _ hw'
  obtain ⟨xq2, hw''⟩ := hw'
  subst hw''
  go_wp2_with fail
  have HW3 : Hid (Gd (ext (ext w1 xq1) xq2) (.node b x (.node c y p q hc ec) r h1 e1)) := Lib.hid (Gd.ext HG1T.out (by repeat (first | exact Ext.refl' _ | assumption | apply Ext.ex' | apply Ext.al | apply Ext.drN | apply Ext.dr)))
  have HR2 := Lib.hid (rotL_any b c x y p q r hc ec h1 e1 (ext (ext w1 xq1) xq2) HW3.out (by have h := ND.out; simp only [AT.foot] at h ⊢; grind) op oq HOR.out (by omega))
  unfold ptI at HR2
  refine (show Calls _ _ _ _ _ from HR2.out).mono ?_
  rintro en3 w4 ⟨h5, e5, h6, e6, rfl, gF, oF, cF⟩
  have HF := Lib.hid (And.intro gF (And.intro oF cF))
  clear gF oF cF HR2
  go_wp2
  go_ret
  obtain ⟨gF, oF, cF⟩ := HF.out
  have chF : Chg (AT.foot (.node b x (.node c y p q hc ec) r h e)) w w4 := ((HG1.out.mono (by simp [AT.foot])).tr (Chg.of_ext (show Ext w1 (ext (ext w1 xq1) xq2) from by repeat (first | exact Ext.refl' _ | assumption | apply Ext.ex' | apply Ext.al | apply Ext.drN | apply Ext.dr)))).tr (cF.mono (by simp [AT.foot]))
  exact ⟨(.node c y p (.node b x q r h5 e5) h6 e6), rfl, gF, oF, by simp [AT.flat], perm_c (fun a => by simp [AT.foot, List.count_cons, List.count_append]; omega), chF⟩


set_option maxRecDepth 100000 in
set_option maxHeartbeats 8000000 in
theorem balR2 (b c : Nat) (x y : It) (p q r : AT) (hc ec h e : Int) (w : World) (g : Gd w (.node b x r (.node c y q p hc ec) h e)) (nd : (AT.foot (.node b x r (.node c y q p hc ec) h e)).Nodup) (op : p.Ok) (oq : q.Ok) (or : r.Ok) (ohv : AT.Ok (.node c y q p hc ec)) (sz : p.flat.length + q.flat.length + r.flat.length ≤ 800000) (hd1 : r.ht - hc < -1) (hd2 : ¬ p.ht < q.ht) :
    Calls Try.prog 60 #[ptI b] w (BalE (.node b x r (.node c y q p hc ec) h e) w) := by
  have ND := Lib.hid nd
  simp only [AT.foot, List.nodup_cons, List.nodup_append, List.mem_cons, List.mem_append, not_or] at nd
  have nbc : b ≠ c := by grind
  have nbp : b ∉ p.foot := by grind
  have nbq : b ∉ q.foot := by grind
  have nbr : b ∉ r.foot := by grind
  have ncp : c ∉ p.foot := by grind
  have ncq : c ∉ q.foot := by grind
  have ncr : c ∉ r.foot := by grind
  obtain ⟨kb, gr, ⟨kc, gq, gp⟩⟩ := g
  have kc : NdI w c y q.p p.p hc ec := kc
  have kb : NdI w b x r.p (ptI c) h e := kb
  have bhv := AT.Ok.bd ohv (by simp only [AT.flat, List.length_append, List.length_cons]; omega)
  have bhv : 0 ≤ hc ∧ hc ≤ 1000000 := bhv
  have bp := op.bd (by omega)
  have br := or.bd (by omega)
  have bq := oq.bd (by omega)
  have ghv : Gd w (.node c y q p hc ec) := ⟨kc, gq, gp⟩
  have HF := Lib.hid (fix_any b x r.p (ptI c) h e _ _ _ _ w kb gr.lev ghv.lev (by omega) (by show 0 ≤ hc ∧ hc ≤ _; omega) (p_ne nbr) (ptI_ne (Ne.symm nbc)))
  have HNE : Hid (¬ b = c) := Lib.hid nbc
  have HGV := Lib.hid (And.intro ghv gr)
  have HKC := Lib.hid kc
  have HOHV := Lib.hid ohv
  have HOR := Lib.hid or
  obtain ⟨rh, hrh⟩ : ∃ rh, r.ht = rh := ⟨_, rfl⟩
  obtain ⟨ph, hph⟩ : ∃ ph, p.ht = ph := ⟨_, rfl⟩
  obtain ⟨qh, hqh⟩ : ∃ qh, q.ht = qh := ⟨_, rfl⟩
  obtain ⟨pr, hpr⟩ := p_form r
  obtain ⟨pp, hpp⟩ := p_form p
  obtain ⟨pq, hpq⟩ := p_form q
  have hww : wrap64 (rh - hc) = rh - hc := IntWalk.wrap64_in _ ⟨by omega, by omega⟩
  rw [hrh] at hd1
  rw [hph, hqh] at hd2
  have hlt0 := kb.f.lt
  have HFT : Hid (∀ k ∈ AT.foot (.node c y q p hc ec), k ∉ [b]) := Lib.hid (by simp only [AT.foot, List.mem_cons, List.mem_append, List.not_mem_nil, or_false]; grind)
  clear ghv kb kc nd or ohv
  unfold ptI
  go_enter Try.func60, Try.ntmps60
  go_wp2_with fail
  refine Calls.mono (show Calls _ _ _ _ _ from HF.out) ?_
  rintro en1 w1 ⟨rfl, k1, g1⟩
  obtain ⟨h1, hh1⟩ : ∃ h1, 1 + max r.ht (AT.ht (.node c y q p hc ec)) = h1 := ⟨_, rfl⟩
  obtain ⟨e1, he1⟩ : ∃ e1, max x.1.2 (max r.en (AT.en (.node c y q p hc ec))) = e1 := ⟨_, rfl⟩
  rw [hh1, he1] at k1
  have ghv1 := HGV.out.1.chg g1 HFT.out
  have gr1 := HGV.out.2.chg g1 (by simp; exact fun k hk h => nbr (h ▸ hk))
  have kc1 : NdI w1 c y q.p p.p hc ec := HKC.out.chg g1 (by simpa using fun h => nbc h.symm)
  have HLV := Lib.hid fun W (e : Ext w1 W) => levels_any _ _ _ W (ghv1.ext e).lev
  have HLR := Lib.hid fun W (e : Ext w1 W) => levels_any _ _ _ W (gr1.ext e).lev
  have HLP := Lib.hid fun W (e : Ext w1 W) => levels_any _ _ _ W (Gd.lev (t := p) ((ghv1.2.2).ext e))
  have HLQ := Lib.hid fun W (e : Ext w1 W) => levels_any _ _ _ W (Gd.lev (t := q) ((ghv1.2.1).ext e))
  have HGR := Lib.hid gr1
  have HG1 := Lib.hid g1
  have HK1 := Lib.hid k1
  have HGH := Lib.hid ghv1
  have HG1T : Hid (Gd w1 (.node b x r (.node c y q p hc ec) h1 e1)) := Lib.hid ⟨k1, gr1, ghv1⟩
  
  obtain ⟨hlt1, -, -, -, cb3, cb4, -, -, fb3, fb4, -, -⟩ := k1.f
  obtain ⟨hltc, -, -, -, cc3, cc4, -, -, -, -, -, -⟩ := kc1.f
  rw [hpr, hrh] at HLR
  rw [hpp, hph] at HLP
  rw [hpq, hqh] at HLQ
  rw [hpr] at cb3
  rw [hpp] at cc4
  rw [hpq] at cc3
  have HLV : Hid (∀ W, Ext w1 W → Calls Try.prog 78 #[.pointer (some ⟨c, 0, none⟩)] W fun en w' => en = .returned (.int .i64 hc) ∧ w' = W) := HLV
  skip
  clear k1 g1 gr1 ghv1 kc1 hpr hpp hrh hph hh1 he1 HF hpq hqh
  unfold ptI at *
  go_wp2_with fail
  refine wp_region_ext (by kernel_rfl) (by kernel_rfl) ?_
  repeat (first | go_big_quiet_step ((go_at_call 78; first | with_reducible exact cret (HLV.out _ (by repeat (first | exact Ext.refl' _ | assumption | apply Ext.ex' | apply Ext.al | apply Ext.drN | apply Ext.dr))) | with_reducible exact cret (HLR.out _ (by repeat (first | exact Ext.refl' _ | assumption | apply Ext.ex' | apply Ext.al | apply Ext.drN | apply Ext.dr))))) | quiet_step ((go_at_call 78; first | with_reducible exact cret (HLV.out _ (by repeat (first | exact Ext.refl' _ | assumption | apply Ext.ex' | apply Ext.al | apply Ext.drN | apply Ext.dr))) | with_reducible exact cret (HLR.out _ (by repeat (first | exact Ext.refl' _ | assumption | apply Ext.ex' | apply Ext.al | apply Ext.drN | apply Ext.dr))))))
  refine wpQuiet_nil ?_
  intro _ hw'
  obtain ⟨xq1, hw''⟩ := hw'
  subst hw''
  go_wp2_with fail
  refine wp_region_ext (by kernel_rfl) (by kernel_rfl) ?_
  repeat (first | go_big_quiet_step ((go_at_call 78; first | with_reducible exact cret (HLP.out _ (by repeat (first | exact Ext.refl' _ | assumption | apply Ext.ex' | apply Ext.al | apply Ext.drN | apply Ext.dr))) | with_reducible exact cret (HLQ.out _ (by repeat (first | exact Ext.refl' _ | assumption | apply Ext.ex' | apply Ext.al | apply Ext.drN | apply Ext.dr))))) | quiet_step ((go_at_call 78; first | with_reducible exact cret (HLP.out _ (by repeat (first | exact Ext.refl' _ | assumption | apply Ext.ex' | apply Ext.al | apply Ext.drN | apply Ext.dr))) | with_reducible exact cret (HLQ.out _ (by repeat (first | exact Ext.refl' _ | assumption | apply Ext.ex' | apply Ext.al | apply Ext.drN | apply Ext.dr))))))
  refine wpQuiet_nil ?_
  intro _ hw'
  obtain ⟨xq2, hw''⟩ := hw'
  subst hw''
  go_wp2_with fail
  have HW3 : Hid (Gd (ext (ext w1 xq1) xq2) (.node b x r (.node c y q p hc ec) h1 e1)) := Lib.hid (Gd.ext HG1T.out (by repeat (first | exact Ext.refl' _ | assumption | apply Ext.ex' | apply Ext.al | apply Ext.drN | apply Ext.dr)))
  have HR2 := Lib.hid (rotR_any b c x y p q r hc ec h1 e1 (ext (ext w1 xq1) xq2) HW3.out (by have h := ND.out; simp only [AT.foot] at h ⊢; grind) op oq HOR.out (by omega))
  unfold ptI at HR2
  refine (show Calls _ _ _ _ _ from HR2.out).mono ?_
  rintro en3 w4 ⟨h5, e5, h6, e6, rfl, gF, oF, cF⟩
  have HF := Lib.hid (And.intro gF (And.intro oF cF))
  clear gF oF cF HR2
  go_wp2
  go_ret
  obtain ⟨gF, oF, cF⟩ := HF.out
  have chF : Chg (AT.foot (.node b x r (.node c y q p hc ec) h e)) w w4 := ((HG1.out.mono (by simp [AT.foot])).tr (Chg.of_ext (show Ext w1 (ext (ext w1 xq1) xq2) from by repeat (first | exact Ext.refl' _ | assumption | apply Ext.ex' | apply Ext.al | apply Ext.drN | apply Ext.dr)))).tr (cF.mono (by simp [AT.foot]))
  exact ⟨(.node c y (.node b x r q h5 e5) p h6 e6), rfl, gF, oF, by simp [AT.flat], perm_c (fun a => by simp [AT.foot, List.count_cons, List.count_append]; omega), chF⟩


set_option maxRecDepth 100000 in
set_option maxHeartbeats 8000000 in
theorem balL1 (b c d : Nat) (x y z : It) (p q1 q2 r : AT) (hc ec hd ed h e : Int) (w : World) (g : Gd w (.node b x (.node c y p (.node d z q1 q2 hd ed) hc ec) r h e)) (nd : (AT.foot (.node b x (.node c y p (.node d z q1 q2 hd ed) hc ec) r h e)).Nodup) (op : p.Ok) (oq1 : q1.Ok) (oq2 : q2.Ok) (or : r.Ok) (ohv : AT.Ok (.node c y p (.node d z q1 q2 hd ed) hc ec)) (sz : p.flat.length + q1.flat.length + q2.flat.length + r.flat.length ≤ 800000) (hd1 : 1 < hc - r.ht) (hd2 : p.ht < hd) :
    Calls Try.prog 60 #[ptI b] w (BalE (.node b x (.node c y p (.node d z q1 q2 hd ed) hc ec) r h e) w) := by
  have ND := Lib.hid nd
  simp only [AT.foot, List.nodup_cons, List.nodup_append, List.mem_cons, List.mem_append, not_or] at nd
  have nbc : b ≠ c := by grind
  have nbd : b ≠ d := by grind
  have nbp : b ∉ p.foot := by grind
  have nbq1 : b ∉ q1.foot := by grind
  have nbq2 : b ∉ q2.foot := by grind
  have nbr : b ∉ r.foot := by grind
  have ncd : c ≠ d := by grind
  have ncp : c ∉ p.foot := by grind
  have ncq1 : c ∉ q1.foot := by grind
  have ncq2 : c ∉ q2.foot := by grind
  have ncr : c ∉ r.foot := by grind
  have ndp : d ∉ p.foot := by grind
  have ndq1 : d ∉ q1.foot := by grind
  have ndq2 : d ∉ q2.foot := by grind
  have ndr : d ∉ r.foot := by grind
  obtain ⟨kb, ⟨kc, gp, ⟨kd, gq1, gq2⟩⟩, gr⟩ := g
  have kc : NdI w c y p.p (ptI d) hc ec := kc
  have kb : NdI w b x (ptI c) r.p h e := kb
  have bhv := AT.Ok.bd ohv (by simp only [AT.flat, List.length_append, List.length_cons]; omega)
  have bhv : 0 ≤ hc ∧ hc ≤ 1000000 := bhv
  have bp := op.bd (by omega)
  have br := or.bd (by omega)
  have bq : 0 ≤ hd ∧ hd ≤ 1000000 := AT.Ok.bd (t := (.node d z q1 q2 hd ed)) (ohv.2.1) (by simp only [AT.flat, List.length_append, List.length_cons]; omega)
  have ghv : Gd w (.node c y p (.node d z q1 q2 hd ed) hc ec) := ⟨kc, gp, ⟨kd, gq1, gq2⟩⟩
  have HF := Lib.hid (fix_any b x (ptI c) r.p h e _ _ _ _ w kb ghv.lev gr.lev (by show 0 ≤ hc ∧ hc ≤ _; omega) (by omega) (ptI_ne (Ne.symm nbc)) (p_ne nbr))
  have HNE : Hid (¬ b = c ∧ ¬ b = d) := Lib.hid ⟨nbc, nbd⟩
  have HGV := Lib.hid (And.intro ghv gr)
  have HKC := Lib.hid kc
  have HOHV := Lib.hid ohv
  have HOR := Lib.hid or
  obtain ⟨rh, hrh⟩ : ∃ rh, r.ht = rh := ⟨_, rfl⟩
  obtain ⟨ph, hph⟩ : ∃ ph, p.ht = ph := ⟨_, rfl⟩
  
  obtain ⟨pr, hpr⟩ := p_form r
  obtain ⟨pp, hpp⟩ := p_form p
  
  have hww : wrap64 (hc - rh) = hc - rh := IntWalk.wrap64_in _ ⟨by omega, by omega⟩
  rw [hrh] at hd1
  rw [hph] at hd2
  have hlt0 := kb.f.lt
  have HFT : Hid (∀ k ∈ AT.foot (.node c y p (.node d z q1 q2 hd ed) hc ec), k ∉ [b]) := Lib.hid (by simp only [AT.foot, List.mem_cons, List.mem_append, List.not_mem_nil, or_false]; grind)
  clear ghv kb kc kd nd or ohv
  unfold ptI
  go_enter Try.func60, Try.ntmps60
  go_wp2_with fail
  refine Calls.mono (show Calls _ _ _ _ _ from HF.out) ?_
  rintro en1 w1 ⟨rfl, k1, g1⟩
  obtain ⟨h1, hh1⟩ : ∃ h1, 1 + max (AT.ht (.node c y p (.node d z q1 q2 hd ed) hc ec)) r.ht = h1 := ⟨_, rfl⟩
  obtain ⟨e1, he1⟩ : ∃ e1, max x.1.2 (max (AT.en (.node c y p (.node d z q1 q2 hd ed) hc ec)) r.en) = e1 := ⟨_, rfl⟩
  rw [hh1, he1] at k1
  have ghv1 := HGV.out.1.chg g1 HFT.out
  have gr1 := HGV.out.2.chg g1 (by simp; exact fun k hk h => nbr (h ▸ hk))
  have kc1 : NdI w1 c y p.p (ptI d) hc ec := HKC.out.chg g1 (by simpa using fun h => nbc h.symm)
  have HLV := Lib.hid fun W (e : Ext w1 W) => levels_any _ _ _ W (ghv1.ext e).lev
  have HLR := Lib.hid fun W (e : Ext w1 W) => levels_any _ _ _ W (gr1.ext e).lev
  have HLP := Lib.hid fun W (e : Ext w1 W) => levels_any _ _ _ W (Gd.lev (t := p) ((ghv1.2.1).ext e))
  have HLQ := Lib.hid fun W (e : Ext w1 W) => levels_any _ _ _ W (Gd.lev (t := (.node d z q1 q2 hd ed)) ((ghv1.2.2).ext e))
  have HGR := Lib.hid gr1
  have HG1 := Lib.hid g1
  have HK1 := Lib.hid k1
  have HGH := Lib.hid ghv1
  have HG1T : Hid (Gd w1 (.node b x (.node c y p (.node d z q1 q2 hd ed) hc ec) r h1 e1)) := Lib.hid ⟨k1, ghv1, gr1⟩
  have HR1 := Lib.hid fun W (e : Ext w1 W) => rotR_any c d y z q2 q1 p hd ed hc ec W (HGH.out.ext e) (by have h := ND.out; simp only [AT.foot] at h ⊢; grind) oq2 oq1 op (by omega)
  obtain ⟨hlt1, -, -, -, cb3, cb4, -, -, fb3, fb4, -, -⟩ := k1.f
  obtain ⟨hltc, -, -, -, cc3, cc4, -, -, -, -, -, -⟩ := kc1.f
  rw [hpr, hrh] at HLR
  rw [hpp, hph] at HLP
  
  rw [hpr] at cb4
  rw [hpp] at cc3
  
  have HLV : Hid (∀ W, Ext w1 W → Calls Try.prog 78 #[.pointer (some ⟨c, 0, none⟩)] W fun en w' => en = .returned (.int .i64 hc) ∧ w' = W) := HLV
  have HLQ : Hid (∀ W, Ext w1 W → Calls Try.prog 78 #[.pointer (some ⟨d, 0, none⟩)] W fun en w' => en = .returned (.int .i64 hd) ∧ w' = W) := HLQ
  clear k1 g1 gr1 ghv1 kc1 hpr hpp hrh hph hh1 he1 HF
  unfold ptI at *
  go_wp2_with fail
  refine wp_region_ext (by kernel_rfl) (by kernel_rfl) ?_
  repeat (first | go_big_quiet_step ((go_at_call 78; first | with_reducible exact cret (HLV.out _ (by repeat (first | exact Ext.refl' _ | assumption | apply Ext.ex' | apply Ext.al | apply Ext.drN | apply Ext.dr))) | with_reducible exact cret (HLR.out _ (by repeat (first | exact Ext.refl' _ | assumption | apply Ext.ex' | apply Ext.al | apply Ext.drN | apply Ext.dr))))) | quiet_step ((go_at_call 78; first | with_reducible exact cret (HLV.out _ (by repeat (first | exact Ext.refl' _ | assumption | apply Ext.ex' | apply Ext.al | apply Ext.drN | apply Ext.dr))) | with_reducible exact cret (HLR.out _ (by repeat (first | exact Ext.refl' _ | assumption | apply Ext.ex' | apply Ext.al | apply Ext.drN | apply Ext.dr))))))
  refine wpQuiet_nil ?_
  intro _ hw'
  obtain ⟨xq1, hw''⟩ := hw'
  subst hw''
  go_wp2_with fail
  refine wp_region_ext (by kernel_rfl) (by kernel_rfl) ?_
  repeat (first | go_big_quiet_step ((go_at_call 78; first | with_reducible exact cret (HLP.out _ (by repeat (first | exact Ext.refl' _ | assumption | apply Ext.ex' | apply Ext.al | apply Ext.drN | apply Ext.dr))) | with_reducible exact cret (HLQ.out _ (by repeat (first | exact Ext.refl' _ | assumption | apply Ext.ex' | apply Ext.al | apply Ext.drN | apply Ext.dr))))) | quiet_step ((go_at_call 78; first | with_reducible exact cret (HLP.out _ (by repeat (first | exact Ext.refl' _ | assumption | apply Ext.ex' | apply Ext.al | apply Ext.drN | apply Ext.dr))) | with_reducible exact cret (HLQ.out _ (by repeat (first | exact Ext.refl' _ | assumption | apply Ext.ex' | apply Ext.al | apply Ext.drN | apply Ext.dr))))))
  refine wpQuiet_nil ?_
  intro _ hw'
  obtain ⟨xq2, hw''⟩ := hw'
  subst hw''
  go_wp2_with fail
  refine Calls.mono (show Calls _ _ _ _ _ from HR1.out (ext (ext w1 xq1) xq2) (by repeat (first | exact Ext.refl' _ | assumption | apply Ext.ex' | apply Ext.al | apply Ext.drN | apply Ext.dr))) ?_
  rintro en2 w2 ⟨h3, e3, h4, e4, rfl, gi, oi, ci⟩
  have kb2 := (HK1.out.ext (show Ext w1 (ext (ext w1 xq1) xq2) from by repeat (first | exact Ext.refl' _ | assumption | apply Ext.ex' | apply Ext.al | apply Ext.drN | apply Ext.dr))).chg ci (by simp; exact HNE.out)
  obtain ⟨hlt2, -, -, -, cb3', cb4', -, -, fb3', fb4', -, -⟩ := kb2.f
  obtain ⟨w3, s3, k3, g3⟩ := kb2.set3 (ptI d)
  have HI := Lib.hid (And.intro gi (And.intro oi ci))
  have HK3 := Lib.hid (And.intro k3 g3)
  clear gi oi ci kb2 k3 g3
  unfold ptI at s3
  go_wp2_with fail
  have HW3 : Hid (Gd w3 (.node b x (.node d z (.node c y p q1 h3 e3) q2 h4 e4) r h1 e1)) := Lib.hid (by
    have gr2 := ((HGR.out.ext (show Ext w1 (ext (ext w1 xq1) xq2) from by repeat (first | exact Ext.refl' _ | assumption | apply Ext.ex' | apply Ext.al | apply Ext.drN | apply Ext.dr))).chg HI.out.2.2 (by simp; grind)).chg HK3.out.2 (by simp; grind)
    have gi3 := HI.out.1.chg HK3.out.2 (by simp [AT.foot]; grind)
    exact ⟨HK3.out.1, gi3, gr2⟩)
  have HR2 := Lib.hid (rotL_any b d x z (.node c y p q1 h3 e3) q2 r h4 e4 h1 e1 w3 HW3.out (by have h := ND.out; simp only [AT.foot] at h ⊢; grind) HI.out.2.1.1 oq2 HOR.out (by simp only [AT.flat, List.length_append, List.length_cons]; omega))
  unfold ptI at HR2
  refine (show Calls _ _ _ _ _ from HR2.out).mono ?_
  rintro en3 w4 ⟨h5, e5, h6, e6, rfl, gF, oF, cF⟩
  have HF := Lib.hid (And.intro gF (And.intro oF cF))
  clear gF oF cF HR2
  go_wp2
  go_ret
  obtain ⟨gF, oF, cF⟩ := HF.out
  have chF : Chg (AT.foot (.node b x (.node c y p (.node d z q1 q2 hd ed) hc ec) r h e)) w w4 := ((((HG1.out.mono (by simp [AT.foot])).tr (Chg.of_ext (show Ext w1 (ext (ext w1 xq1) xq2) from by repeat (first | exact Ext.refl' _ | assumption | apply Ext.ex' | apply Ext.al | apply Ext.drN | apply Ext.dr)))).tr (HI.out.2.2.mono (by simp [AT.foot]))).tr (HK3.out.2.mono (by simp [AT.foot]))).tr (cF.mono (by simp [AT.foot]))
  exact ⟨(.node d z (.node c y p q1 h3 e3) (.node b x q2 r h5 e5) h6 e6), rfl, gF, oF, by simp [AT.flat], perm_c (fun a => by simp [AT.foot, List.count_cons, List.count_append]; omega), chF⟩


set_option maxRecDepth 100000 in
set_option maxHeartbeats 8000000 in
theorem balR1 (b c d : Nat) (x y z : It) (p q1 q2 r : AT) (hc ec hd ed h e : Int) (w : World) (g : Gd w (.node b x r (.node c y (.node d z q1 q2 hd ed) p hc ec) h e)) (nd : (AT.foot (.node b x r (.node c y (.node d z q1 q2 hd ed) p hc ec) h e)).Nodup) (op : p.Ok) (oq1 : q1.Ok) (oq2 : q2.Ok) (or : r.Ok) (ohv : AT.Ok (.node c y (.node d z q1 q2 hd ed) p hc ec)) (sz : p.flat.length + q1.flat.length + q2.flat.length + r.flat.length ≤ 800000) (hd1 : r.ht - hc < -1) (hd2 : p.ht < hd) :
    Calls Try.prog 60 #[ptI b] w (BalE (.node b x r (.node c y (.node d z q1 q2 hd ed) p hc ec) h e) w) := by
  have ND := Lib.hid nd
  simp only [AT.foot, List.nodup_cons, List.nodup_append, List.mem_cons, List.mem_append, not_or] at nd
  have nbc : b ≠ c := by grind
  have nbd : b ≠ d := by grind
  have nbp : b ∉ p.foot := by grind
  have nbq1 : b ∉ q1.foot := by grind
  have nbq2 : b ∉ q2.foot := by grind
  have nbr : b ∉ r.foot := by grind
  have ncd : c ≠ d := by grind
  have ncp : c ∉ p.foot := by grind
  have ncq1 : c ∉ q1.foot := by grind
  have ncq2 : c ∉ q2.foot := by grind
  have ncr : c ∉ r.foot := by grind
  have ndp : d ∉ p.foot := by grind
  have ndq1 : d ∉ q1.foot := by grind
  have ndq2 : d ∉ q2.foot := by grind
  have ndr : d ∉ r.foot := by grind
  obtain ⟨kb, gr, ⟨kc, ⟨kd, gq1, gq2⟩, gp⟩⟩ := g
  have kc : NdI w c y (ptI d) p.p hc ec := kc
  have kb : NdI w b x r.p (ptI c) h e := kb
  have bhv := AT.Ok.bd ohv (by simp only [AT.flat, List.length_append, List.length_cons]; omega)
  have bhv : 0 ≤ hc ∧ hc ≤ 1000000 := bhv
  have bp := op.bd (by omega)
  have br := or.bd (by omega)
  have bq : 0 ≤ hd ∧ hd ≤ 1000000 := AT.Ok.bd (t := (.node d z q1 q2 hd ed)) (ohv.1) (by simp only [AT.flat, List.length_append, List.length_cons]; omega)
  have ghv : Gd w (.node c y (.node d z q1 q2 hd ed) p hc ec) := ⟨kc, ⟨kd, gq1, gq2⟩, gp⟩
  have HF := Lib.hid (fix_any b x r.p (ptI c) h e _ _ _ _ w kb gr.lev ghv.lev (by omega) (by show 0 ≤ hc ∧ hc ≤ _; omega) (p_ne nbr) (ptI_ne (Ne.symm nbc)))
  have HNE : Hid (¬ b = c ∧ ¬ b = d) := Lib.hid ⟨nbc, nbd⟩
  have HGV := Lib.hid (And.intro ghv gr)
  have HKC := Lib.hid kc
  have HOHV := Lib.hid ohv
  have HOR := Lib.hid or
  obtain ⟨rh, hrh⟩ : ∃ rh, r.ht = rh := ⟨_, rfl⟩
  obtain ⟨ph, hph⟩ : ∃ ph, p.ht = ph := ⟨_, rfl⟩
  
  obtain ⟨pr, hpr⟩ := p_form r
  obtain ⟨pp, hpp⟩ := p_form p
  
  have hww : wrap64 (rh - hc) = rh - hc := IntWalk.wrap64_in _ ⟨by omega, by omega⟩
  rw [hrh] at hd1
  rw [hph] at hd2
  have hlt0 := kb.f.lt
  have HFT : Hid (∀ k ∈ AT.foot (.node c y (.node d z q1 q2 hd ed) p hc ec), k ∉ [b]) := Lib.hid (by simp only [AT.foot, List.mem_cons, List.mem_append, List.not_mem_nil, or_false]; grind)
  clear ghv kb kc kd nd or ohv
  unfold ptI
  go_enter Try.func60, Try.ntmps60
  go_wp2_with fail
  refine Calls.mono (show Calls _ _ _ _ _ from HF.out) ?_
  rintro en1 w1 ⟨rfl, k1, g1⟩
  obtain ⟨h1, hh1⟩ : ∃ h1, 1 + max r.ht (AT.ht (.node c y (.node d z q1 q2 hd ed) p hc ec)) = h1 := ⟨_, rfl⟩
  obtain ⟨e1, he1⟩ : ∃ e1, max x.1.2 (max r.en (AT.en (.node c y (.node d z q1 q2 hd ed) p hc ec))) = e1 := ⟨_, rfl⟩
  rw [hh1, he1] at k1
  have ghv1 := HGV.out.1.chg g1 HFT.out
  have gr1 := HGV.out.2.chg g1 (by simp; exact fun k hk h => nbr (h ▸ hk))
  have kc1 : NdI w1 c y (ptI d) p.p hc ec := HKC.out.chg g1 (by simpa using fun h => nbc h.symm)
  have HLV := Lib.hid fun W (e : Ext w1 W) => levels_any _ _ _ W (ghv1.ext e).lev
  have HLR := Lib.hid fun W (e : Ext w1 W) => levels_any _ _ _ W (gr1.ext e).lev
  have HLP := Lib.hid fun W (e : Ext w1 W) => levels_any _ _ _ W (Gd.lev (t := p) ((ghv1.2.2).ext e))
  have HLQ := Lib.hid fun W (e : Ext w1 W) => levels_any _ _ _ W (Gd.lev (t := (.node d z q1 q2 hd ed)) ((ghv1.2.1).ext e))
  have HGR := Lib.hid gr1
  have HG1 := Lib.hid g1
  have HK1 := Lib.hid k1
  have HGH := Lib.hid ghv1
  have HG1T : Hid (Gd w1 (.node b x r (.node c y (.node d z q1 q2 hd ed) p hc ec) h1 e1)) := Lib.hid ⟨k1, gr1, ghv1⟩
  have HR1 := Lib.hid fun W (e : Ext w1 W) => rotL_any c d y z q1 q2 p hd ed hc ec W (HGH.out.ext e) (by have h := ND.out; simp only [AT.foot] at h ⊢; grind) oq1 oq2 op (by omega)
  obtain ⟨hlt1, -, -, -, cb3, cb4, -, -, fb3, fb4, -, -⟩ := k1.f
  obtain ⟨hltc, -, -, -, cc3, cc4, -, -, -, -, -, -⟩ := kc1.f
  rw [hpr, hrh] at HLR
  rw [hpp, hph] at HLP
  
  rw [hpr] at cb3
  rw [hpp] at cc4
  
  have HLV : Hid (∀ W, Ext w1 W → Calls Try.prog 78 #[.pointer (some ⟨c, 0, none⟩)] W fun en w' => en = .returned (.int .i64 hc) ∧ w' = W) := HLV
  have HLQ : Hid (∀ W, Ext w1 W → Calls Try.prog 78 #[.pointer (some ⟨d, 0, none⟩)] W fun en w' => en = .returned (.int .i64 hd) ∧ w' = W) := HLQ
  clear k1 g1 gr1 ghv1 kc1 hpr hpp hrh hph hh1 he1 HF
  unfold ptI at *
  go_wp2_with fail
  refine wp_region_ext (by kernel_rfl) (by kernel_rfl) ?_
  repeat (first | go_big_quiet_step ((go_at_call 78; first | with_reducible exact cret (HLV.out _ (by repeat (first | exact Ext.refl' _ | assumption | apply Ext.ex' | apply Ext.al | apply Ext.drN | apply Ext.dr))) | with_reducible exact cret (HLR.out _ (by repeat (first | exact Ext.refl' _ | assumption | apply Ext.ex' | apply Ext.al | apply Ext.drN | apply Ext.dr))))) | quiet_step ((go_at_call 78; first | with_reducible exact cret (HLV.out _ (by repeat (first | exact Ext.refl' _ | assumption | apply Ext.ex' | apply Ext.al | apply Ext.drN | apply Ext.dr))) | with_reducible exact cret (HLR.out _ (by repeat (first | exact Ext.refl' _ | assumption | apply Ext.ex' | apply Ext.al | apply Ext.drN | apply Ext.dr))))))
  refine wpQuiet_nil ?_
  intro _ hw'
  obtain ⟨xq1, hw''⟩ := hw'
  subst hw''
  go_wp2_with fail
  refine wp_region_ext (by kernel_rfl) (by kernel_rfl) ?_
  repeat (first | go_big_quiet_step ((go_at_call 78; first | with_reducible exact cret (HLP.out _ (by repeat (first | exact Ext.refl' _ | assumption | apply Ext.ex' | apply Ext.al | apply Ext.drN | apply Ext.dr))) | with_reducible exact cret (HLQ.out _ (by repeat (first | exact Ext.refl' _ | assumption | apply Ext.ex' | apply Ext.al | apply Ext.drN | apply Ext.dr))))) | quiet_step ((go_at_call 78; first | with_reducible exact cret (HLP.out _ (by repeat (first | exact Ext.refl' _ | assumption | apply Ext.ex' | apply Ext.al | apply Ext.drN | apply Ext.dr))) | with_reducible exact cret (HLQ.out _ (by repeat (first | exact Ext.refl' _ | assumption | apply Ext.ex' | apply Ext.al | apply Ext.drN | apply Ext.dr))))))
  refine wpQuiet_nil ?_
  intro _ hw'
  obtain ⟨xq2, hw''⟩ := hw'
  subst hw''
  go_wp2_with fail
  refine Calls.mono (show Calls _ _ _ _ _ from HR1.out (ext (ext w1 xq1) xq2) (by repeat (first | exact Ext.refl' _ | assumption | apply Ext.ex' | apply Ext.al | apply Ext.drN | apply Ext.dr))) ?_
  rintro en2 w2 ⟨h3, e3, h4, e4, rfl, gi, oi, ci⟩
  have kb2 := (HK1.out.ext (show Ext w1 (ext (ext w1 xq1) xq2) from by repeat (first | exact Ext.refl' _ | assumption | apply Ext.ex' | apply Ext.al | apply Ext.drN | apply Ext.dr))).chg ci (by simp; exact HNE.out)
  obtain ⟨hlt2, -, -, -, cb3', cb4', -, -, fb3', fb4', -, -⟩ := kb2.f
  obtain ⟨w3, s3, k3, g3⟩ := kb2.set4 (ptI d)
  have HI := Lib.hid (And.intro gi (And.intro oi ci))
  have HK3 := Lib.hid (And.intro k3 g3)
  clear gi oi ci kb2 k3 g3
  unfold ptI at s3
  go_wp2_with fail
  have HW3 : Hid (Gd w3 (.node b x r (.node d z q1 (.node c y q2 p h3 e3) h4 e4) h1 e1)) := Lib.hid (by
    have gr2 := ((HGR.out.ext (show Ext w1 (ext (ext w1 xq1) xq2) from by repeat (first | exact Ext.refl' _ | assumption | apply Ext.ex' | apply Ext.al | apply Ext.drN | apply Ext.dr))).chg HI.out.2.2 (by simp; grind)).chg HK3.out.2 (by simp; grind)
    have gi3 := HI.out.1.chg HK3.out.2 (by simp [AT.foot]; grind)
    exact ⟨HK3.out.1, gr2, gi3⟩)
  have HR2 := Lib.hid (rotR_any b d x z (.node c y q2 p h3 e3) q1 r h4 e4 h1 e1 w3 HW3.out (by have h := ND.out; simp only [AT.foot] at h ⊢; grind) HI.out.2.1.2.1 oq1 HOR.out (by simp only [AT.flat, List.length_append, List.length_cons]; omega))
  unfold ptI at HR2
  refine (show Calls _ _ _ _ _ from HR2.out).mono ?_
  rintro en3 w4 ⟨h5, e5, h6, e6, rfl, gF, oF, cF⟩
  have HF := Lib.hid (And.intro gF (And.intro oF cF))
  clear gF oF cF HR2
  go_wp2
  go_ret
  obtain ⟨gF, oF, cF⟩ := HF.out
  have chF : Chg (AT.foot (.node b x r (.node c y (.node d z q1 q2 hd ed) p hc ec) h e)) w w4 := ((((HG1.out.mono (by simp [AT.foot])).tr (Chg.of_ext (show Ext w1 (ext (ext w1 xq1) xq2) from by repeat (first | exact Ext.refl' _ | assumption | apply Ext.ex' | apply Ext.al | apply Ext.drN | apply Ext.dr)))).tr (HI.out.2.2.mono (by simp [AT.foot]))).tr (HK3.out.2.mono (by simp [AT.foot]))).tr (cF.mono (by simp [AT.foot]))
  exact ⟨(.node d z (.node b x r q1 h5 e5) (.node c y q2 p h3 e3) h6 e6), rfl, gF, oF, by simp [AT.flat], perm_c (fun a => by simp [AT.foot, List.count_cons, List.count_append]; omega), chF⟩


set_option maxRecDepth 100000 in
set_option maxHeartbeats 8000000 in
theorem balM (b : Nat) (x : It) (l r : AT) (h e : Int) (w : World) (g : Gd w (.node b x l r h e)) (nd : (AT.foot (.node b x l r h e)).Nodup) (ol : l.Ok) (or : r.Ok) (sz : l.flat.length + r.flat.length ≤ 800000) (hd1 : ¬ 1 < l.ht - r.ht) (hd2 : ¬ l.ht - r.ht < -1) :
    Calls Try.prog 60 #[ptI b] w (BalE (.node b x l r h e) w) := by
  simp only [AT.foot, List.nodup_cons, List.nodup_append, List.mem_cons, List.mem_append, not_or] at nd
  have nbl : b ∉ l.foot := by grind
  have nbr : b ∉ r.foot := by grind
  obtain ⟨kb, gl, gr⟩ := g
  have bl := ol.bd (by omega)
  have br := or.bd (by omega)
  have HF := Lib.hid (fix_any b x l.p r.p h e _ _ _ _ w kb gl.lev gr.lev (by omega) (by omega) (p_ne nbl) (p_ne nbr))
  have HGV := Lib.hid (And.intro gl gr)
  have HOO : Hid (AT.Ok (.node b x l r (1 + max l.ht r.ht) (max x.1.2 (max l.en r.en)))) := Lib.hid ⟨ol, or, rfl, rfl⟩
  obtain ⟨h1, hh1⟩ : ∃ h1, 1 + max l.ht r.ht = h1 := ⟨_, rfl⟩
  obtain ⟨e1, he1⟩ : ∃ e1, max x.1.2 (max l.en r.en) = e1 := ⟨_, rfl⟩
  rw [hh1, he1] at HF HOO
  obtain ⟨lh, hlh⟩ : ∃ lh, l.ht = lh := ⟨_, rfl⟩
  obtain ⟨rh, hrh⟩ : ∃ rh, r.ht = rh := ⟨_, rfl⟩
  obtain ⟨pl, hpl⟩ := p_form l
  obtain ⟨pr, hpr⟩ := p_form r
  have hww : wrap64 (lh - rh) = lh - rh := IntWalk.wrap64_in _ ⟨by omega, by omega⟩
  rw [hlh, hrh] at hd1 hd2
  have hlt0 := kb.f.lt
  have HNB : Hid (b ∉ l.foot ∧ b ∉ r.foot) := Lib.hid ⟨nbl, nbr⟩
  clear kb gl gr ol or nd nbl nbr hh1 he1
  unfold ptI
  go_enter Try.func60, Try.ntmps60
  go_wp2_with fail
  refine Calls.mono (show Calls _ _ _ _ _ from HF.out) ?_
  rintro en1 w1 ⟨rfl, k1, g1⟩
  have gl1 := HGV.out.1.chg g1 (by simp; exact fun k hk h => HNB.out.1 (h ▸ hk))
  have gr1 := HGV.out.2.chg g1 (by simp; exact fun k hk h => HNB.out.2 (h ▸ hk))
  have HLV := Lib.hid fun W (e : Ext w1 W) => levels_any _ _ _ W (gl1.ext e).lev
  have HLR := Lib.hid fun W (e : Ext w1 W) => levels_any _ _ _ W (gr1.ext e).lev
  have HALL := Lib.hid (And.intro k1 (And.intro gl1 (And.intro gr1 g1)))
  obtain ⟨hlt1, -, -, -, cb3, cb4, -, -, -, -, -, -⟩ := k1.f
  rw [hpl, hlh] at HLV
  rw [hpr, hrh] at HLR
  rw [hpl] at cb3
  rw [hpr] at cb4
  clear k1 g1 gl1 gr1 hpl hpr hlh hrh HF
  go_wp2_with fail
  refine wp_region_ext (by kernel_rfl) (by kernel_rfl) ?_
  repeat (first | go_big_quiet_step ((go_at_call 78; first | with_reducible exact cret (HLV.out _ (by repeat (first | exact Ext.refl' _ | assumption | apply Ext.ex' | apply Ext.al | apply Ext.drN | apply Ext.dr))) | with_reducible exact cret (HLR.out _ (by repeat (first | exact Ext.refl' _ | assumption | apply Ext.ex' | apply Ext.al | apply Ext.drN | apply Ext.dr))))) | quiet_step ((go_at_call 78; first | with_reducible exact cret (HLV.out _ (by repeat (first | exact Ext.refl' _ | assumption | apply Ext.ex' | apply Ext.al | apply Ext.drN | apply Ext.dr))) | with_reducible exact cret (HLR.out _ (by repeat (first | exact Ext.refl' _ | assumption | apply Ext.ex' | apply Ext.al | apply Ext.drN | apply Ext.dr))))))
  refine wpQuiet_nil ?_
  intro _ hw'
  obtain ⟨xq1, hw''⟩ := hw'
  subst hw''
  go_wp2
  go_ret
  obtain ⟨k1, gl1, gr1, g1⟩ := HALL.out
  have gF : Gd w1 (.node b x l r h1 e1) := ⟨k1, gl1, gr1⟩
  exact ⟨.node b x l r h1 e1, rfl, gF.ext (by repeat (first | exact Ext.refl' _ | assumption | apply Ext.ex' | apply Ext.al | apply Ext.drN | apply Ext.dr)), HOO.out, rfl, List.Perm.refl _, (g1.mono (by simp [AT.foot])).tr (Chg.of_ext (by repeat (first | exact Ext.refl' _ | assumption | apply Ext.ex' | apply Ext.al | apply Ext.drN | apply Ext.dr)))⟩
theorem balance_any (b : Nat) (x : It) (l r : AT) (h e : Int) (w : World) (g : Gd w (.node b x l r h e)) (nd : (AT.foot (.node b x l r h e)).Nodup) (ol : l.Ok) (or : r.Ok) (sz : l.flat.length + r.flat.length ≤ 800000) :
    Calls Try.prog 60 #[ptI b] w (BalE (.node b x l r h e) w) := by
  have bl := ol.ht0
  have br := or.ht0
  by_cases h1 : 1 < l.ht - r.ht
  · cases l with
    | nil => exfalso; have e0 : AT.ht .nil = 0 := rfl; omega
    | node c y p q hc ec =>
      simp only [AT.flat, List.length_append, List.length_cons] at sz
      by_cases h2 : p.ht < q.ht
      · cases q with
        | nil => exfalso; have := ol.1.ht0; have e0 : AT.ht .nil = 0 := rfl; omega
        | node d z q1 q2 hd ed =>
          simp only [AT.flat, List.length_append, List.length_cons] at sz
          exact balL1 b c d x y z p q1 q2 r hc ec hd ed h e w g nd ol.1 ol.2.1.1 ol.2.1.2.1 or ol (by omega) h1 h2
      · exact balL2 b c x y p q r hc ec h e w g nd ol.1 ol.2.1 or ol (by omega) h1 h2
  · by_cases h2 : l.ht - r.ht < -1
    · cases r with
      | nil => exfalso; have e0 : AT.ht .nil = 0 := rfl; omega
      | node c y q p hc ec =>
        simp only [AT.flat, List.length_append, List.length_cons] at sz
        by_cases h3 : p.ht < q.ht
        · cases q with
          | nil => exfalso; have := or.2.1.ht0; have e0 : AT.ht .nil = 0 := rfl; omega
          | node d z q1 q2 hd ed =>
            simp only [AT.flat, List.length_append, List.length_cons] at sz
            exact balR1 b c d x y z p q1 q2 l hc ec hd ed h e w g nd or.2.1 or.1.1 or.1.2.1 ol or (by omega) h2 h3
        · exact balR2 b c x y p q l hc ec h e w g nd or.2.1 or.1 ol or (by omega) h2 h3
    · exact balM b x l r h e w g nd ol or sz h1 h2

end Go.Proofs.Ytahmkinppighkaa
