/- Lemmas for the rows: BtH. -/
import Derived.Test.YtdiaecgpjgdkdaaGreatThS20
import Derived.Deep.RegionHeld3
import Derived.Deep.Onto
set_option linter.unusedSimpArgs false
set_option linter.unusedVariables false
namespace Go.Proofs.YtdiaecgpjgdkdaaGreat
open Go.RowKit

structure SplitR (base : Nat) (w w' : World) (t l r : MT) (h : Nat) : Prop where
 lr : l.r = t.r
 lps : l.ps = t.ps.take h
 rps : r.ps = t.ps.drop (h + 1)
 lks : l.ks = t.ks.take (h + 1)
 rks : r.ks = t.ks.drop (h + 1)
 lok : NodeOk base w' l
 rok : NodeOk base w' r
 new : ∀ b ∈ l.own ++ r.own, b ∈ t.own ∨ w.heap.size ≤ b
 nodup : (l.own ++ r.own).Nodup
 tur : Mut base t.own w w'
theorem split_fin {base : Nat} {t : MT} {md rr n1 n2 n3 n4 : Nat} {V1 V2 K1 K2 : Value} {w W : World} (H : Hp base t.own w W [⟨t.r, #[V2, K1], TN⟩, ⟨rr, #[V1, K2], TN⟩] [⟨V1, TP, 2, n1, mpl (t.ps.drop (md + 1))⟩, ⟨V2, TP, 2, n2, mpl (t.ps.take md)⟩, ⟨K2, TQ, 1, n3, ptl ((t.ks.drop (md + 1)).map MT.r)⟩, ⟨K1, TQ, 1, n4, ptl ((t.ks.take (md + 1)).map MT.r)⟩])
  (e1 : n1 = (t.ps.drop (md + 1)).length) (e2 : n2 = (t.ps.take md).length) (e3 : n3 = (t.ks.drop (md + 1)).length) (e4 : n4 = (t.ks.take (md + 1)).length) : ∃ l r : MT, r.r = rr ∧ SplitR base w W t l r md := by
 subst e1 e2 e3 e4
 refine ⟨.nd t.r V2 K1 (t.ps.take md) (t.ks.take (md + 1)), .nd rr V1 K2 (t.ps.drop (md + 1)) (t.ks.drop (md + 1)), rfl, ⟨rfl, rfl, rfl, rfl, rfl, H.node 0 1 3 rfl rfl rfl, H.node 1 0 2 rfl rfl rfl, fun b hb => H.new b ?_, ?_, H.mu⟩⟩
 ·
  simp only [MT.own, MT.r, MT.vp, MT.vk, blks, List.map_cons, List.map_nil, List.flatMap_cons, List.flatMap_nil, List.mem_append, List.mem_cons, List.append_nil, List.not_mem_nil, or_false] at hb ⊢
  grind
 ·
  have hd := H.dis
  simp only [MT.own, MT.r, MT.vp, MT.vk, blks, List.map_cons, List.map_nil, List.flatMap_cons, List.flatMap_nil, List.append_nil, List.nodup_append, List.nodup_cons, List.mem_append, List.mem_cons, List.not_mem_nil, or_false] at hd ⊢
  grind
theorem Hp.ofNode {base : Nat} {w : World} {t : MT} (hbw : base ≤ w.heap.size) (hN : NodeOk base w t) (hnd : t.own.Nodup) : Hp base t.own w w [bkOf t] [rpOf t, rkOf t] :=
 Hp.start hbw (Mut.start (fun b hb _ => (hN.old b hb).1) (fun b hb => (hN.old b hb).2.2)) (by intro x hx; simp at hx; subst hx; exact ⟨hN.hb, hN.hp⟩) (by intro x hx; simp at hx; rcases hx with rfl | rfl; exact hN.op; exact hN.ok) (by simpa [blks, MT.own] using hnd) (by intro b hb; simpa [blks, MT.own] using hb)
set_option maxRecDepth 100000 in
set_option maxHeartbeats 8000000 in
theorem split_any (base : Nat) (t : MT) (md : Nat) (q : MP) (w : World) (hbw : base ≤ w.heap.size) (hN : NodeOk base w t) (hl : t.ps.length ≤ 1048576) (h3 : 3 ≤ t.ps.length) (hh : t.ps.length / 2 = md) (hq : t.ps[md]? = some q) (hk : t.ks = [] ∨ t.ks.length = t.ps.length + 1) (hnd : t.own.Nodup) :
  Calls Tryz.prog 49 #[pt t.r] w fun e w' => ∃ l r : MT, e = .returned (.tuple #[pv q, pt r.r]) ∧ SplitR base w w' t l r md := by
 have H0 : Hp base t.own w w [⟨t.r, #[t.vp, t.vk], TN⟩] [⟨t.vp, TP, 2, t.ps.length, mpl t.ps⟩, ⟨t.vk, TQ, 1, t.ks.length, ptl (t.ks.map MT.r)⟩] := Hp.ofNode hbw hN hnd
 obtain ⟨A, c, hv, hc, hcm, _⟩ := own_form2 hN.op
 obtain ⟨B, d, hvk, hd, hdm, _⟩ := own_form2 hN.ok
 have hnp := hN.hp
 have hok := hN.ok
 have hop := hN.op
 rw [hv] at hnp hop H0
 rw [hvk] at hnp hok H0
 have hR := Rd.of_own hop
 have hRk := Rd.of_own hok
 have hps : md < t.ps.length := by omega
 have hqq : t.ps[md] = q := by rw [List.getElem?_eq_getElem hps] at hq; exact Option.some.inj hq
 obtain ⟨b, o, rfl, hbb, e0, e1⟩ := hR.pr rfl hps
 rw [hqq] at e0 e1
 have hi : (t.ps.length : Int) / 2 = (md : Int) := by omega
 have hw : IntKind.i64.wrap (md : Int) = (md : Int) := IntWalk.i64_in _ (by omega)
 have hw1 : IntKind.i64.wrap ((md : Int) + 1) = (md : Int) + 1 := IntWalk.i64_in _ (by omega)
 have hc1 : ¬ (c = md + 1) := by omega
 have hc2 : md ≤ c := by omega
 have HDL : Hid ((t.ps.drop (md + 1)).length = t.ps.length - (md + 1)) := Lib.hid (List.length_drop ..)
 have HTL : Hid ((t.ps.take md).length = md) := Lib.hid (by rw [List.length_take]; omega)
 obtain ⟨n, hn⟩ : ∃ n, t.ps.length = n := ⟨_, rfl⟩
 have HN := Lib.hid hn
 rw [hn] at hR hc hi hps hl h3 hk hnp hh HDL H0
 have HH := Lib.hid H0
 clear H0
 have hkk := hRk
 have HR1 := Lib.hid (hR.restP (md + 1) (by omega))
 have HR2 := Lib.hid (hR.headP md (by omega))
 have HNK := Lib.hid hk
 have HV := Lib.hid hv
 have HVK := Lib.hid hvk
 have HRK := Lib.hid hRk
 have hd2 := Lib.hid hd
 obtain ⟨r0, n0, n1, f0, f1⟩ := two_cells hnp
 clear hN hop hok hR hqq hq hv hvk hn hh hk hRk hnd hbw hd
 go_enter Tryz.func49, Tryz.ntmps49
 go_wp2_with fail
 have hE0 : Ext w ((w.alloc (.cells #[.slice none 0 0, .int .i64 0] TP)).alloc (.cells #[.slice q.A q.n q.c, .int .i64 q.id] TP)) := (ex_)
 refine Calls.mono (cloneP_any _ _ _ _ _ (HR1.out.ext hE0) (fun u hu => oneCell_mpl t.ps u (List.mem_of_mem_drop hu)) (by omega) (fun e => by cases e)) ?_
 rintro e w1 ⟨v1, rfl, ho1, hb1⟩
 have hE1 : Ext w w1 := hE0.tr hb1
 rw [mpl_drop] at ho1
 obtain ⟨A1, k1, rfl, _, _, _⟩ := own_form2 ho1
 have H1 := Lib.hid (((HH.out.al rfl).al rfl).addRow hb1 ho1)
 have hs1 : w.heap.size + 2 ≤ w1.heap.size := by have := hb1.size; simpa using this
 have hr0 : t.r < w.heap.size := r0
 obtain ⟨r0, n0, n1, f0, f1⟩ := two_cells (H1.out.at 0 rfl)
 clear e0 e1 ho1 hE0 hb1 HH
 go_wp2_with fail
 have hE2 : Ext w1 (w1.alloc (.cells #[.slice A1 (n - (md + 1)) k1, .slice none 0 0] TN)) := (ex_)
 refine Calls.mono (cloneP_any _ _ _ _ _ (HR2.out.ext (hE1.tr hE2)) (fun u hu => oneCell_mpl t.ps u (List.mem_of_mem_take hu)) (by omega) (fun e => by cases e)) ?_
 rintro e w2 ⟨v2, rfl, ho2, hb2⟩
 rw [mpl_take] at ho2
 obtain ⟨A2, k2, rfl, _, _, _⟩ := own_form2 ho2
 have H2 := Lib.hid ((H1.out.al rfl).addRow hb2 ho2)
 have hE02 := Lib.hid ((hE1.tr hE2).tr hb2)
 have hs2 : w1.heap.size + 1 ≤ w2.heap.size := by have := hb2.size; simpa using this
 obtain ⟨rr, hrd⟩ : ∃ rr, w1.heap.size = rr := ⟨_, rfl⟩
 have hal : (w.alloc (.cells #[.slice none 0 0, .int .i64 0] TP)).heap.size = w.heap.size + 1 := by simp
 rw [hrd, hal] at H2
 rw [hrd] at hs1 hs2 ⊢
 obtain ⟨r0, n0, n1, f0, f1⟩ := two_cells (H2.out.at 0 rfl)
 obtain ⟨_, x0, x1, g0, g1⟩ := two_cells (H2.out.at 1 rfl)
 obtain ⟨_, z0, z1, _, _⟩ := two_cells (H2.out.at 2 rfl)
 obtain ⟨rb, rc0, rc1, rf0, rf1⟩ := two_cells (H2.out.at 3 rfl)
 clear ho2 hE2 hb2 H1 hrd hal hE1 HR1 HR2 hi hw hc1 hc2
 rcases HNK.out with hk0 | hk1
 ·
  have hkl : t.ks.length = 0 := by rw [hk0]; rfl
  rw [hkl] at n1
  go_wp2
  have e1 : t.ks.take (md + 1) = t.ks := by rw [hk0]; rfl
  have e2 : t.ks.drop (md + 1) = [] := by rw [hk0]; rfl
  have H3 := ((H2.out.set 0 rfl 0 (.slice A2 md k2)).set 1 rfl 0 (.slice q.A q.n q.c)).set 1 rfl 1 (.int .i64 q.id)
  have H4 := ((H3.addRow (Ext.refl' _) (World.ownsRow_nil _ _ TQ 1)).sub (N' := [⟨t.r, #[.slice A2 md k2, .slice B t.ks.length d], TN⟩, ⟨rr, #[.slice A1 (n - (md + 1)) k1, .slice none 0 0], TN⟩])
   (L' := [⟨.slice B t.ks.length d, TQ, 1, t.ks.length, ptl (t.ks.map MT.r)⟩, ⟨.slice A1 (n - (md + 1)) k1, TP, 2, n - (md + 1), mpl (t.ps.drop (md + 1))⟩, ⟨.slice A2 md k2, TP, 2, md, mpl (t.ps.take md)⟩, ⟨.slice none 0 0, TQ, 1, 0, []⟩]) (by repeat (first | exact List.Sublist.slnil | exact List.Sublist.refl _ | apply List.Sublist.cons_cons | apply List.Sublist.cons)) (by repeat (first | exact List.Sublist.slnil | exact List.Sublist.refl _ | apply List.Sublist.cons_cons | apply List.Sublist.cons))).perm (.refl _) (List.perm_append_comm (l₁ := [_, _, _]) (l₂ := [_]))
  obtain ⟨l, r, hr, hS⟩ := split_fin (t := t) (md := md) (n4 := t.ks.length) (n3 := 0) (by rw [e1, e2]; exact H4) HDL.out.symm HTL.out.symm (by rw [e2]; rfl) (by rw [e1])
  refine bodyPost_ret (v := .tuple #[pv q, pt rr]) ?_ rfl ⟨l, r, by rw [hr], hS⟩
  obtain ⟨_, x1, x2, _, _⟩ := two_cells (H3.at 1 rfl)
  simp [results, Tryz.results49, go_sem, ↓IntWalk.iteOmega, x1, x2]
 ·
  have hkp : md + 1 < t.ks.length := by omega
  have hd := hd2.out
  have hd1 : ¬ (d = md + 1) := by omega
  have hd3 : md + 1 ≤ d := by omega
  have hdl : t.ks.length ≤ 1048577 := by omega
  obtain ⟨b', o', rfl, _, _⟩ := hkk.2 (by omega)
  have HKD : Hid ((t.ks.drop (md + 1)).length = t.ks.length - (md + 1)) := Lib.hid (List.length_drop ..)
  have HKT : Hid ((t.ks.take (md + 1)).length = md + 1) := Lib.hid (by rw [List.length_take]; omega)
  obtain ⟨nk, hnk⟩ : ∃ nk, t.ks.length = nk := ⟨_, rfl⟩
  rw [hnk] at n1 hkk hd hkp H2 hdl HKD
  have HNK2 := Lib.hid hnk
  have H3 := Lib.hid (H2.out.set 0 rfl 0 (.slice A2 md k2))
  have HR3 := Lib.hid (Rd.of_own (H3.out.own 1 rfl))
  clear hnk hkk H2 HNK hk1
  go_wp2_with fail
  refine Calls.mono (cloneQ_any _ _ _ _ _ (by have := HR3.out.restP (md + 1) (by omega); rw [Nat.mul_one] at this; exact this) (fun u hu => oneCell_ptl _ u (List.mem_of_mem_drop hu)) (by omega) (fun e => by cases e)) ?_
  rintro e w3 ⟨v3, rfl, ho3, hb3⟩
  rw [ptl_drop] at ho3
  obtain ⟨A3, k3, rfl, _, _, _⟩ := own_form2 ho3
  have H4 := Lib.hid (H3.out.addRow hb3 ho3)
  have hs3 : w2.heap.size ≤ w3.heap.size := by have := hb3.size; rwa [set_size] at this
  clear n0 n1 f0 f1 x0 x1 g0 g1 z0 z1 rc0 rc1 rf0 rf1 r0 rb hb3 ho3
  obtain ⟨r0, n0, n1, f0, f1⟩ := two_cells (H4.out.at 0 rfl)
  obtain ⟨_, x0, x1, g0, g1⟩ := two_cells (H4.out.at 1 rfl)
  obtain ⟨_, z0, z1, _, _⟩ := two_cells (H4.out.at 2 rfl)
  obtain ⟨rb, rc0, rc1, rf0, rf1⟩ := two_cells (H4.out.at 3 rfl)
  have H5 := Lib.hid (H4.out.set 3 rfl 1 (.slice A3 (nk - (md + 1)) k3))
  have HR5 := Lib.hid (Rd.of_own (H5.out.own 1 rfl))
  clear H3 HR3 H4
  go_wp2_with fail
  refine Calls.mono (cloneQ_any _ _ _ _ _ (HR5.out.headP (md + 1) (by omega)) (fun u hu => oneCell_ptl _ u (List.mem_of_mem_take hu)) (by omega) (fun e => by cases e)) ?_
  rintro e w4 ⟨v4, rfl, ho4, hb4⟩
  rw [Nat.mul_one, ptl_take] at ho4
  obtain ⟨A4, k4, rfl, _, _, _⟩ := own_form2 ho4
  have H6 := Lib.hid (H5.out.addRow hb4 ho4)
  have hs4 : w3.heap.size ≤ w4.heap.size := by have := hb4.size; rwa [set_size] at this
  clear n0 n1 f0 f1 x0 x1 g0 g1 z0 z1 rc0 rc1 rf0 rf1 r0 rb hb4 ho4
  obtain ⟨r0, n0, n1, f0, f1⟩ := two_cells (H6.out.at 0 rfl)
  obtain ⟨_, x0, x1, g0, g1⟩ := two_cells (H6.out.at 1 rfl)
  obtain ⟨_, z0, z1, _, _⟩ := two_cells (H6.out.at 2 rfl)
  clear H5 HR5
  go_wp2
  have H7 := ((H6.out.set 0 rfl 1 (.slice A4 (md + 1) k4)).set 1 rfl 0 (.slice q.A q.n q.c)).set 1 rfl 1 (.int .i64 q.id)
  have H8 := H7.sub (N' := [⟨t.r, #[.slice A2 md k2, .slice A4 (md + 1) k4], TN⟩, ⟨rr, #[.slice A1 (n - (md + 1)) k1, .slice A3 (nk - (md + 1)) k3], TN⟩])
   (L' := [⟨.slice A1 (n - (md + 1)) k1, TP, 2, n - (md + 1), mpl (t.ps.drop (md + 1))⟩, ⟨.slice A2 md k2, TP, 2, md, mpl (t.ps.take md)⟩, ⟨.slice A3 (nk - (md + 1)) k3, TQ, 1, nk - (md + 1), ptl ((t.ks.drop (md + 1)).map MT.r)⟩, ⟨.slice A4 (md + 1) k4, TQ, 1, md + 1, ptl ((t.ks.take (md + 1)).map MT.r)⟩]) (by repeat (first | exact List.Sublist.slnil | exact List.Sublist.refl _ | apply List.Sublist.cons_cons | apply List.Sublist.cons)) (by repeat (first | exact List.Sublist.slnil | exact List.Sublist.refl _ | apply List.Sublist.cons_cons | apply List.Sublist.cons))
  obtain ⟨l, r, hr, hS⟩ := split_fin (t := t) (md := md) H8 HDL.out.symm HTL.out.symm HKD.out.symm HKT.out.symm
  refine bodyPost_ret (v := .tuple #[pv q, pt rr]) ?_ rfl ⟨l, r, by rw [hr], hS⟩
  obtain ⟨_, x1, x2, _, _⟩ := two_cells (H7.at 1 rfl)
  simp [results, Tryz.results49, go_sem, ↓IntWalk.iteOmega, x1, x2]

end Go.Proofs.YtdiaecgpjgdkdaaGreat
