/- A pair moved from kid to kid: to the right. -/
import Derived.Test.YtdmbgimehepfaaaBtO
import Derived.Deep.RegionHeld3
set_option linter.unusedSimpArgs false
set_option linter.unusedVariables false
namespace Go.Proofs.Ytdmbgimehepfaaa
open Go.RowKit


theorem al_new {w W : World} {o : Obj} (h : W.heap.size = w.heap.size) : (W.alloc o).heap[w.heap.size]? = some o := by rw [← h]; exact heap_alloc_new W o
theorem own_far {w : World} {base : Nat} {e : TypeId} {size n : Nat} {v : Value} {xs : List Value} (h : w.ownsRow base e size v n xs) : v.ownBlock ≠ some w.heap.size := fun hg => by have := (h.lt _ hg).2; omega


set_option maxRecDepth 100000 in
set_option maxHeartbeats 16000000 in
theorem borrowLeft_any (base i : Nat) (t a b : MT) (q q' : MP) (la : Nat) (w : World) (hbw : base ≤ w.heap.size) (hT : NodeOk base w t) (hA : NodeOk base w a) (hB : NodeOk base w b) (hnd : (t.own ++ (a.own ++ b.own)).Nodup)
    (hia : t.ks[i]? = some a) (hib : t.ks[i + 1]? = some b) (hq : t.ps[i]? = some q) (hla : a.ps.length = la + 1) (hq' : a.ps[la]? = some q') (hl1 : t.ps.length ≤ 1048575) (hl2 : t.ks.length = t.ps.length + 1) (hl3 : a.ps.length + b.ps.length + 1 ≤ 1048576) (hl4 : a.ks.length + b.ks.length + 1 ≤ 1048576)
    (hkl : (a.ks = [] ∧ b.ks = []) ∨ (a.ks.length = a.ps.length + 1)) :
    Calls Try.prog 66 #[pt t.r, .int .i64 ((i : Int) + 1)] w fun e w' => e = .returned (.tuple #[]) ∧ ∃ t' a' b', BorR base i w w' t a b t' a' b' ∧ t'.ps = t.ps.set i q' ∧ a'.ps = a.ps.take la ∧ b'.ps = q :: b.ps ∧ a'.ks = a.ks.take (la + 1) ∧ b'.ks = a.ks.drop (la + 1) ++ b.ks := by
  have HQ2 := Lib.hid hq'
  have hkl2 := hkl
  have H0 := Hp.of3 hbw hT hA hB hnd
  have hip : i < t.ps.length := (List.getElem?_eq_some_iff.1 hq).1
  obtain ⟨pb, c, hvp, hc, _⟩ := own_ne0 hT.op (by omega)
  obtain ⟨kb, d, hvk, hd, _⟩ := own_ne0 hT.ok (by omega)
  obtain ⟨ab, ca, hap, hca, _⟩ := own_ne0 hA.op (by omega)
  obtain ⟨B2, db, hbk, hdb, _, hB2n⟩ := own_form2 hB.ok
  obtain ⟨A2, da, hak, hda, _, hA2n⟩ := own_form2 hA.ok
  rw [hvp, hvk, hap, hbk, hak] at H0
  obtain ⟨hpb, q0, q1⟩ := ownP_at (H0.own 0 rfl) hq
  obtain ⟨hkb, k0⟩ := ownQ_at (H0.own 1 rfl) hia
  obtain ⟨_, k1⟩ := ownQ_at (H0.own 1 rfl) hib
  obtain ⟨n, hn⟩ : ∃ n, t.ps.length = n := ⟨_, rfl⟩
  obtain ⟨m, hm⟩ : ∃ m, t.ks.length = m := ⟨_, rfl⟩
  obtain ⟨nb, hnb⟩ : ∃ nb, b.ps.length = nb := ⟨_, rfl⟩
  obtain ⟨mb, hmb⟩ : ∃ mb, b.ks.length = mb := ⟨_, rfl⟩
  obtain ⟨na, hna⟩ : ∃ na, a.ps.length = na := ⟨_, rfl⟩
  obtain ⟨ma, hma⟩ : ∃ ma, a.ks.length = ma := ⟨_, rfl⟩
  rw [hn] at H0 hl1 hip hl2
  rw [hm] at H0 hl2
  rw [hna] at H0 hl3 hca 
  rw [hnb] at H0 hl3 
  rw [hmb] at H0 hl4 hdb
  rw [hma] at H0 hl4 hda
  have H0 := Lib.hid H0
  have him : i + 1 < m := by omega
  have hm6 : m ≤ 1048576 := by omega
  have HN := Lib.hid hn
  have HM := Lib.hid hm
  have HNB := Lib.hid hnb
  have HMB := Lib.hid hmb
  have HNA := Lib.hid hna
  have HMA := Lib.hid hma
  have HIA := Lib.hid hia
  have HQ := Lib.hid hq
  have HIB := Lib.hid hib
  have HLL := Lib.hid hl2
  have HKL := Lib.hid hkl
  have HB2 := Lib.hid hB2n
  have HA2 := Lib.hid hA2n
  have hw1 : IntKind.i64.wrap ((i : Int) + 1) = (i : Int) + 1 := IntWalk.i64_in _ (by omega)
  have hi1 : (0 : Int) ≤ (i : Int) + 1 := by omega
  have hi2 : (i : Int) + 1 < (m : Int) := by omega
  have hi3 : (i : Int) < (m : Int) := by omega
  obtain ⟨rt, t0, t1, ft0, ft1⟩ := H0.out.two 0 rfl
  obtain ⟨ra, a0, a1, fa0, fa1⟩ := H0.out.two 1 rfl
  obtain ⟨rb, b0, b1, fb0, fb1⟩ := H0.out.two 2 rfl
  clear hT hA hB hnd hia hib hq hvp hvk hap  hbk hak hl2 hn hm hnb hmb hna hma hB2n hA2n hkl

  obtain rfl : na = la + 1 := by have := HNA.out; omega
  have hwi : IntKind.i64.wrap (i : Int) = (i : Int) := IntWalk.i64_in _ (by omega)
  have hwl : IntKind.i64.wrap (la : Int) = (la : Int) := IntWalk.i64_in _ (by omega)
  have hwl1 : IntKind.i64.wrap ((la : Int) + 1) = (la : Int) + 1 := IntWalk.i64_in _ (by omega)
  have hll : (la : Int) < (la : Int) + 1 := by omega
  have hl0 : (0 : Int) ≤ (la : Int) + 1 := by omega
  have hl2' : (la : Int) + 1 < (la : Int) + 2 := by omega
  have hl2'' : (la : Int) + 1 ≤ (la : Int) + 2 := by omega
  clear hq' hkl2 hla
  go_enter Try.func66, Try.ntmps66
  go_wp2
  go_quiet (fail)
  go_wp2
  refine wp_region_T 17 (S := (fun w' => w'.cell? ⟨t.r, 0, none⟩ = some (.slice (some ⟨pb, 0, none⟩) n c) ∧ w'.cell? ⟨pb, i * 2, none⟩ = some (.slice q.A q.n q.c) ∧ w'.cell? ⟨pb, i * 2 + 1, none⟩ = some (.int .i64 q.id) ∧ w'.cell? ⟨b.r, 0, none⟩ = some b.vp)) (by kernel_rfl) (by simp [go_sem, ↓IntWalk.iteOmega, *]) (fun hHeld => ?_)
  refine wpAnyT_take (i := 0) (oi := ?oi1) (v := ?v1) ?hi1 (by kernel_rfl) (by kernel_rfl) (by kernel_rfl) (by kernel_rfl) (by kernel_rfl) ?hQ1 ?hy1 (by assumption) ?_
  case hi1 => (simp only [List.getElem?_toArray, List.getElem?_cons_succ, List.getElem?_cons_zero]; try rfl)
  case hQ1 => exact fun _ _ _ h => h
  case hy1 => (refine Or.inl ⟨by rfl, ?_⟩; intro wq hSw; (try dsimp only at hSw); go_simp; (try with_reducible rfl))
  (try simp only [Act.put, List.setIfInBounds_toArray, List.set_cons_zero, List.set_cons_succ])
  refine wpAnyT_take (i := 1) (oi := ?oi2) (v := ?v2) ?hi2 (by kernel_rfl) (by kernel_rfl) (by kernel_rfl) (by kernel_rfl) (by kernel_rfl) ?hQ2 ?hy2 (by assumption) ?_
  case hi2 => (simp only [List.getElem?_toArray, List.getElem?_cons_succ, List.getElem?_cons_zero]; try rfl)
  case hQ2 => exact fun _ _ _ h => h
  case hy2 => (refine Or.inl ⟨by rfl, ?_⟩; intro wq hSw; (try dsimp only at hSw); go_simp; (try with_reducible rfl))
  (try simp only [Act.put, List.setIfInBounds_toArray, List.set_cons_zero, List.set_cons_succ])
  refine wpAnyT_take (i := 2) (oi := ?oi3) (v := ?v3) ?hi3 (by kernel_rfl) (by kernel_rfl) (by kernel_rfl) (by kernel_rfl) (by kernel_rfl) ?hQ3 ?hy3 (by assumption) ?_
  case hi3 => (simp only [List.getElem?_toArray, List.getElem?_cons_succ, List.getElem?_cons_zero]; try rfl)
  case hQ3 => exact fun _ _ _ h => h
  case hy3 => (refine Or.inl ⟨by rfl, ?_⟩; intro wq hSw; (try dsimp only at hSw); go_simp; (try with_reducible rfl))
  (try simp only [Act.put, List.setIfInBounds_toArray, List.set_cons_zero, List.set_cons_succ])
  refine wpAnyT_take (i := 3) (oi := ?oi4) (v := ?v4) ?hi4 (by kernel_rfl) (by kernel_rfl) (by kernel_rfl) (by kernel_rfl) (by kernel_rfl) ?hQ4 ?hy4 (by assumption) ?_
  case hi4 => (simp only [List.getElem?_toArray, List.getElem?_cons_succ, List.getElem?_cons_zero]; try rfl)
  case hQ4 => exact fun _ _ _ h => h
  case hy4 => (refine Or.inl ⟨by rfl, ?_⟩; intro wq hSw; (try dsimp only at hSw); go_simp; (try with_reducible rfl))
  (try simp only [Act.put, List.setIfInBounds_toArray, List.set_cons_zero, List.set_cons_succ])
  refine wpAnyT_take (i := 4) (oi := ?oi5) (v := ?v5) ?hi5 (by kernel_rfl) (by kernel_rfl) (by kernel_rfl) (by kernel_rfl) (by kernel_rfl) ?hQ5 ?hy5 (by assumption) ?_
  case hi5 => (simp only [List.getElem?_toArray, List.getElem?_cons_succ, List.getElem?_cons_zero]; try rfl)
  case hQ5 => exact fun _ _ _ h => h
  case hy5 => (refine Or.inl ⟨by rfl, ?_⟩; intro wq hSw; (try dsimp only at hSw); go_simp; (try with_reducible rfl))
  (try simp only [Act.put, List.setIfInBounds_toArray, List.set_cons_zero, List.set_cons_succ])
  refine wpAnyT_take (i := 5) (oi := ?oi6) (v := ?v6) ?hi6 (by kernel_rfl) (by kernel_rfl) (by kernel_rfl) (by kernel_rfl) (by kernel_rfl) ?hQ6 ?hy6 (by assumption) ?_
  case hi6 => (simp only [List.getElem?_toArray, List.getElem?_cons_succ, List.getElem?_cons_zero]; try rfl)
  case hQ6 => exact fun _ _ _ h => h
  case hy6 => (refine Or.inl ⟨by rfl, ?_⟩; intro wq hSw; (try dsimp only at hSw); go_simp; (try with_reducible rfl))
  (try simp only [Act.put, List.setIfInBounds_toArray, List.set_cons_zero, List.set_cons_succ])
  refine wpAnyT_take (i := 6) (oi := ?oi7) (v := ?v7) ?hi7 (by kernel_rfl) (by kernel_rfl) (by kernel_rfl) (by kernel_rfl) (by kernel_rfl) ?hQ7 ?hy7 (by assumption) ?_
  case hi7 => (simp only [List.getElem?_toArray, List.getElem?_cons_succ, List.getElem?_cons_zero]; try rfl)
  case hQ7 => exact fun _ _ _ h => h
  case hy7 => (refine Or.inl ⟨by rfl, ?_⟩; intro wq hSw; (try dsimp only at hSw); go_simp; (try with_reducible rfl))
  (try simp only [Act.put, List.setIfInBounds_toArray, List.set_cons_zero, List.set_cons_succ])
  refine wpAnyT_take (i := 7) (oi := ?oi8) (v := ?v8) ?hi8 (by kernel_rfl) (by kernel_rfl) (by kernel_rfl) (by kernel_rfl) (by kernel_rfl) ?hQ8 ?hy8 (by assumption) ?_
  case hi8 => (simp only [List.getElem?_toArray, List.getElem?_cons_succ, List.getElem?_cons_zero]; try rfl)
  case hQ8 => exact fun _ _ _ h => h
  case hy8 => (refine Or.inl ⟨by rfl, ?_⟩; intro wq hSw; (try dsimp only at hSw); go_simp; (try with_reducible rfl))
  (try simp only [Act.put, List.setIfInBounds_toArray, List.set_cons_zero, List.set_cons_succ])
  refine wpAnyT_take (i := 8) (oi := ?oi9) (v := ?v9) ?hi9 (by kernel_rfl) (by kernel_rfl) (by kernel_rfl) (by kernel_rfl) (by kernel_rfl) ?hQ9 ?hy9 (by assumption) ?_
  case hi9 => (simp only [List.getElem?_toArray, List.getElem?_cons_succ, List.getElem?_cons_zero]; try rfl)
  case hQ9 => exact fun _ _ _ h => h
  case hy9 => (refine Or.inl ⟨by rfl, ?_⟩; intro wq hSw; (try dsimp only at hSw); go_simp; (try with_reducible rfl))
  (try simp only [Act.put, List.setIfInBounds_toArray, List.set_cons_zero, List.set_cons_succ])
  refine wpAnyT_take (i := 9) (oi := ?oi10) (v := ?v10) ?hi10 (by kernel_rfl) (by kernel_rfl) (by kernel_rfl) (by kernel_rfl) (by kernel_rfl) ?hQ10 ?hy10 (by assumption) ?_
  case hi10 => (simp only [List.getElem?_toArray, List.getElem?_cons_succ, List.getElem?_cons_zero]; try rfl)
  case hQ10 => exact fun _ _ _ h => h
  case hy10 => (refine Or.inl ⟨by rfl, ?_⟩; intro wq hSw; (try dsimp only at hSw); go_simp; (try with_reducible rfl))
  (try simp only [Act.put, List.setIfInBounds_toArray, List.set_cons_zero, List.set_cons_succ])
  refine wpAnyT_take (i := 10) (oi := ?oi11) (v := ?v11) ?hi11 (by kernel_rfl) (by kernel_rfl) (by kernel_rfl) (by kernel_rfl) (by kernel_rfl) ?hQ11 ?hy11 (by assumption) ?_
  case hi11 => (simp only [List.getElem?_toArray, List.getElem?_cons_succ, List.getElem?_cons_zero]; try rfl)
  case hQ11 => exact fun _ _ _ h => h
  case hy11 => (refine Or.inl ⟨by rfl, ?_⟩; intro wq hSw; (try dsimp only at hSw); go_simp; (try with_reducible rfl))
  (try simp only [Act.put, List.setIfInBounds_toArray, List.set_cons_zero, List.set_cons_succ])
  refine wpAnyT_take (i := 11) (oi := ?oi12) (v := ?v12) ?hi12 (by kernel_rfl) (by kernel_rfl) (by kernel_rfl) (by kernel_rfl) (by kernel_rfl) ?hQ12 ?hy12 (by assumption) ?_
  case hi12 => (simp only [List.getElem?_toArray, List.getElem?_cons_succ, List.getElem?_cons_zero]; try rfl)
  case hQ12 => exact fun _ _ _ h => h
  case hy12 => (refine Or.inl ⟨by rfl, ?_⟩; intro wq hSw; (try dsimp only at hSw); go_simp; (try with_reducible rfl))
  (try simp only [Act.put, List.setIfInBounds_toArray, List.set_cons_zero, List.set_cons_succ])
  refine wpAnyT_take (i := 12) (oi := ?oi13) (v := ?v13) ?hi13 (by kernel_rfl) (by kernel_rfl) (by kernel_rfl) (by kernel_rfl) (by kernel_rfl) ?hQ13 ?hy13 (by assumption) ?_
  case hi13 => (simp only [List.getElem?_toArray, List.getElem?_cons_succ, List.getElem?_cons_zero]; try rfl)
  case hQ13 => exact fun _ _ _ h => h
  case hy13 => (refine Or.inl ⟨by rfl, ?_⟩; intro wq hSw; (try dsimp only at hSw); go_simp; (try with_reducible rfl))
  (try simp only [Act.put, List.setIfInBounds_toArray, List.set_cons_zero, List.set_cons_succ])
  refine wpAnyT_ready (rs := [13]) (by kernel_rfl) (by simp) ?_
  refine AllReadyT.cons (o := ?oi14) ?hi14 ?ti14 AllReadyT.nil
  case hi14 => (simp only [List.getElem?_toArray, List.getElem?_cons_succ, List.getElem?_cons_zero]; try rfl)
  case ti14 =>
    intro KQ hKQ
    go_simp
    refine hKQ.out _ _ (by simp [go_sem, ↓IntWalk.iteOmega, *]) (fun hHeld2 => ?_)
    clear hHeld hKQ KQ; have hHeld := hHeld2; clear hHeld2
    (try simp only [Act.put, List.setIfInBounds_toArray, List.set_cons_zero, List.set_cons_succ])
    refine wpAnyT_ready (rs := [14]) (by kernel_rfl) (by simp) ?_
    refine AllReadyT.cons (o := ?oi15) ?hi15 ?ti15 AllReadyT.nil
    case hi15 => (simp only [List.getElem?_toArray, List.getElem?_cons_succ, List.getElem?_cons_zero]; try rfl)
    case ti15 =>
      intro KQ hKQ
      go_simp
      go_at_call 49
      refine Calls.mono (insP_any base nb 0 w.heap.size 1 b.vp (mpl b.ps) (mp2 q) _ (H0.out.ext (by repeat (first | exact Ext.refl' _ | assumption | apply Ext.ex' | apply Ext.al | apply Ext.drN | apply Ext.dr))).bs ((H0.out.ext (by repeat (first | exact Ext.refl' _ | assumption | apply Ext.ex' | apply Ext.al | apply Ext.drN | apply Ext.dr))).own 4 rfl) (by omega) (by omega) (own_far (H0.out.own 4 rfl)) (al_new (by simp)) rfl (by intro u hu; simp [mp2] at hu; rcases hu with rfl | rfl <;> rfl) (oneCell_mpl _)) ?_
      rintro e w1 ⟨v1, rfl, ho1, hg1, hn1⟩
      obtain ⟨A1, k1', rfl, _, _, _⟩ := own_form2 ho1
      have H1 := Lib.hid ((H0.out.ext (by repeat (first | exact Ext.refl' _ | assumption | apply Ext.ex' | apply Ext.al | apply Ext.drN | apply Ext.dr))).grow 4 rfl hg1 ho1 hn1)
      clear rt t0 t1 ft0 ft1 ra a0 a1 fa0 fa1 rb b0 b1 fb0 fb1 q0 q1 hpb ho1 hg1 hn1
      obtain ⟨rt, t0, t1, ft0, ft1⟩ := H1.out.two 0 rfl
      obtain ⟨ra, a0, a1, fa0, fa1⟩ := H1.out.two 1 rfl
      obtain ⟨rb, b0, b1, fb0, fb1⟩ := H1.out.two 2 rfl
      obtain ⟨hpb, q0, q1⟩ := ownP_at (H1.out.own 0 rfl) HQ.out
      refine hKQ.out _ _ (by simp [go_sem, ↓IntWalk.iteOmega, *]) (fun hHeld2 => ?_)
      clear hHeld hKQ KQ; have hHeld := hHeld2; clear hHeld2
      (try simp only [Act.put, List.setIfInBounds_toArray, List.set_cons_zero, List.set_cons_succ])
      refine wpAnyT_take (i := 15) (oi := ?oi16) (v := ?v16) ?hi16 (by kernel_rfl) (by kernel_rfl) (by kernel_rfl) (by kernel_rfl) (by kernel_rfl) ?hQ16 ?hy16 (by assumption) ?_
      case hi16 => (simp only [List.getElem?_toArray, List.getElem?_cons_succ, List.getElem?_cons_zero]; try rfl)
      case hQ16 => exact fun _ _ _ h => h
      case hy16 => (refine Or.inl ⟨by rfl, ?_⟩; intro wq hSw; (try dsimp only at hSw); go_simp; (try with_reducible rfl))
      (try simp only [Act.put, List.setIfInBounds_toArray, List.set_cons_zero, List.set_cons_succ])
      refine wpAnyT_take (i := 16) (oi := ?oi17) (v := ?v17) ?hi17 (by kernel_rfl) (by kernel_rfl) (by kernel_rfl) (by kernel_rfl) (by kernel_rfl) ?hQ17 ?hy17 (by assumption) ?_
      case hi17 => (simp only [List.getElem?_toArray, List.getElem?_cons_succ, List.getElem?_cons_zero]; try rfl)
      case hQ17 => exact fun _ _ _ h => h
      case hy17 => (refine Or.inl ⟨by rfl, ?_⟩; intro wq hSw; (try dsimp only at hSw); go_simp; (try with_reducible rfl))
      (try simp only [Act.put, List.setIfInBounds_toArray, List.set_cons_zero, List.set_cons_succ])
      refine wpAnyT_ready (rs := [17]) (by kernel_rfl) (by simp) ?_
      refine AllReadyT.last (o := ?oi18) ?hi18 ?ti18
      case hi18 => (simp only [List.getElem?_toArray, List.getElem?_cons_succ, List.getElem?_cons_zero]; try rfl)
      case ti18 =>
        intro KQ hKQ
        go_simp
        refine hKQ.out _ _ ?_
        clear hKQ KQ hHeld
        (try simp only [Act.put, List.setIfInBounds_toArray, List.set_cons_zero, List.set_cons_succ])
        refine wpAnyT_done (by kernel_rfl) ?_ _
        have H2 := Lib.hid (H1.out.set 2 rfl 0 (.slice A1 (nb + 1) k1'))
        clear rt t0 t1 ft0 ft1 ra a0 a1 fa0 fa1 rb b0 b1 fb0 fb1 q0 q1 hpb
        obtain ⟨rt, t0, t1, ft0, ft1⟩ := H2.out.two 0 rfl
        obtain ⟨ra, a0, a1, fa0, fa1⟩ := H2.out.two 1 rfl
        obtain ⟨rb, b0, b1, fb0, fb1⟩ := H2.out.two 2 rfl
        obtain ⟨hpb, q0, q1⟩ := ownP_at (H2.out.own 0 rfl) HQ.out
        obtain ⟨hab, u0, u1⟩ := ownP_at (H2.out.own 2 rfl) HQ2.out
        have fq0 := (H2.out.own 0 rfl).frozenAt (i * 2)
        have fq1 := (H2.out.own 0 rfl).frozenAt (i * 2 + 1)
        generalize w1.setCell ⟨b.r, 0, none⟩ (.slice A1 (nb + 1) k1') = W2 at *
        go_wp2
        refine wp_region_T 14 (S := (fun w' => w'.cell? ⟨t.r, 0, none⟩ = some (.slice (some ⟨pb, 0, none⟩) n c) ∧ w'.cell? ⟨a.r, 0, none⟩ = some (.slice (some ⟨ab, 0, none⟩) (la + 1) ca) ∧ w'.cell? ⟨ab, la * 2, none⟩ = some (.slice q'.A q'.n q'.c) ∧ w'.cell? ⟨ab, la * 2 + 1, none⟩ = some (.int .i64 q'.id))) (by kernel_rfl) (by simp [go_sem, ↓IntWalk.iteOmega, *]) (fun hHeld => ?_)
        refine wpAnyT_take (i := 0) (oi := ?oi201) (v := ?v201) ?hi201 (by kernel_rfl) (by kernel_rfl) (by kernel_rfl) (by kernel_rfl) (by kernel_rfl) ?hQ201 ?hy201 (by assumption) ?_
        case hi201 => (simp only [List.getElem?_toArray, List.getElem?_cons_succ, List.getElem?_cons_zero]; try rfl)
        case hQ201 => exact fun _ _ _ h => h
        case hy201 => (refine Or.inl ⟨by rfl, ?_⟩; intro wq hSw; (try dsimp only at hSw); go_simp; (try with_reducible rfl))
        (try simp only [Act.put, List.setIfInBounds_toArray, List.set_cons_zero, List.set_cons_succ])
        refine wpAnyT_take (i := 1) (oi := ?oi202) (v := ?v202) ?hi202 (by kernel_rfl) (by kernel_rfl) (by kernel_rfl) (by kernel_rfl) (by kernel_rfl) ?hQ202 ?hy202 (by assumption) ?_
        case hi202 => (simp only [List.getElem?_toArray, List.getElem?_cons_succ, List.getElem?_cons_zero]; try rfl)
        case hQ202 => exact fun _ _ _ h => h
        case hy202 => (refine Or.inl ⟨by rfl, ?_⟩; intro wq hSw; (try dsimp only at hSw); go_simp; (try with_reducible rfl))
        (try simp only [Act.put, List.setIfInBounds_toArray, List.set_cons_zero, List.set_cons_succ])
        refine wpAnyT_take (i := 2) (oi := ?oi203) (v := ?v203) ?hi203 (by kernel_rfl) (by kernel_rfl) (by kernel_rfl) (by kernel_rfl) (by kernel_rfl) ?hQ203 ?hy203 (by assumption) ?_
        case hi203 => (simp only [List.getElem?_toArray, List.getElem?_cons_succ, List.getElem?_cons_zero]; try rfl)
        case hQ203 => exact fun _ _ _ h => h
        case hy203 => (refine Or.inl ⟨by rfl, ?_⟩; intro wq hSw; (try dsimp only at hSw); go_simp; (try with_reducible rfl))
        (try simp only [Act.put, List.setIfInBounds_toArray, List.set_cons_zero, List.set_cons_succ])
        refine wpAnyT_take (i := 3) (oi := ?oi204) (v := ?v204) ?hi204 (by kernel_rfl) (by kernel_rfl) (by kernel_rfl) (by kernel_rfl) (by kernel_rfl) ?hQ204 ?hy204 (by assumption) ?_
        case hi204 => (simp only [List.getElem?_toArray, List.getElem?_cons_succ, List.getElem?_cons_zero]; try rfl)
        case hQ204 => exact fun _ _ _ h => h
        case hy204 => (refine Or.inl ⟨by rfl, ?_⟩; intro wq hSw; (try dsimp only at hSw); go_simp; (try with_reducible rfl))
        (try simp only [Act.put, List.setIfInBounds_toArray, List.set_cons_zero, List.set_cons_succ])
        refine wpAnyT_take (i := 4) (oi := ?oi205) (v := ?v205) ?hi205 (by kernel_rfl) (by kernel_rfl) (by kernel_rfl) (by kernel_rfl) (by kernel_rfl) ?hQ205 ?hy205 (by assumption) ?_
        case hi205 => (simp only [List.getElem?_toArray, List.getElem?_cons_succ, List.getElem?_cons_zero]; try rfl)
        case hQ205 => exact fun _ _ _ h => h
        case hy205 => (refine Or.inl ⟨by rfl, ?_⟩; intro wq hSw; (try dsimp only at hSw); go_simp; (try with_reducible rfl))
        (try simp only [Act.put, List.setIfInBounds_toArray, List.set_cons_zero, List.set_cons_succ])
        refine wpAnyT_take (i := 5) (oi := ?oi206) (v := ?v206) ?hi206 (by kernel_rfl) (by kernel_rfl) (by kernel_rfl) (by kernel_rfl) (by kernel_rfl) ?hQ206 ?hy206 (by assumption) ?_
        case hi206 => (simp only [List.getElem?_toArray, List.getElem?_cons_succ, List.getElem?_cons_zero]; try rfl)
        case hQ206 => exact fun _ _ _ h => h
        case hy206 => (refine Or.inl ⟨by rfl, ?_⟩; intro wq hSw; (try dsimp only at hSw); go_simp; (try with_reducible rfl))
        (try simp only [Act.put, List.setIfInBounds_toArray, List.set_cons_zero, List.set_cons_succ])
        refine wpAnyT_take (i := 6) (oi := ?oi207) (v := ?v207) ?hi207 (by kernel_rfl) (by kernel_rfl) (by kernel_rfl) (by kernel_rfl) (by kernel_rfl) ?hQ207 ?hy207 (by assumption) ?_
        case hi207 => (simp only [List.getElem?_toArray, List.getElem?_cons_succ, List.getElem?_cons_zero]; try rfl)
        case hQ207 => exact fun _ _ _ h => h
        case hy207 => (refine Or.inl ⟨by rfl, ?_⟩; intro wq hSw; (try dsimp only at hSw); go_simp; (try with_reducible rfl))
        (try simp only [Act.put, List.setIfInBounds_toArray, List.set_cons_zero, List.set_cons_succ])
        refine wpAnyT_take (i := 7) (oi := ?oi208) (v := ?v208) ?hi208 (by kernel_rfl) (by kernel_rfl) (by kernel_rfl) (by kernel_rfl) (by kernel_rfl) ?hQ208 ?hy208 (by assumption) ?_
        case hi208 => (simp only [List.getElem?_toArray, List.getElem?_cons_succ, List.getElem?_cons_zero]; try rfl)
        case hQ208 => exact fun _ _ _ h => h
        case hy208 => (refine Or.inl ⟨by rfl, ?_⟩; intro wq hSw; (try dsimp only at hSw); go_simp; (try with_reducible rfl))
        (try simp only [Act.put, List.setIfInBounds_toArray, List.set_cons_zero, List.set_cons_succ])
        refine wpAnyT_take (i := 8) (oi := ?oi209) (v := ?v209) ?hi209 (by kernel_rfl) (by kernel_rfl) (by kernel_rfl) (by kernel_rfl) (by kernel_rfl) ?hQ209 ?hy209 (by assumption) ?_
        case hi209 => (simp only [List.getElem?_toArray, List.getElem?_cons_succ, List.getElem?_cons_zero]; try rfl)
        case hQ209 => exact fun _ _ _ h => h
        case hy209 => (refine Or.inl ⟨by rfl, ?_⟩; intro wq hSw; (try dsimp only at hSw); go_simp; (try with_reducible rfl))
        (try simp only [Act.put, List.setIfInBounds_toArray, List.set_cons_zero, List.set_cons_succ])
        refine wpAnyT_take (i := 9) (oi := ?oi210) (v := ?v210) ?hi210 (by kernel_rfl) (by kernel_rfl) (by kernel_rfl) (by kernel_rfl) (by kernel_rfl) ?hQ210 ?hy210 (by assumption) ?_
        case hi210 => (simp only [List.getElem?_toArray, List.getElem?_cons_succ, List.getElem?_cons_zero]; try rfl)
        case hQ210 => exact fun _ _ _ h => h
        case hy210 => (refine Or.inl ⟨by rfl, ?_⟩; intro wq hSw; (try dsimp only at hSw); go_simp; (try with_reducible rfl))
        (try simp only [Act.put, List.setIfInBounds_toArray, List.set_cons_zero, List.set_cons_succ])
        refine wpAnyT_take (i := 10) (oi := ?oi211) (v := ?v211) ?hi211 (by kernel_rfl) (by kernel_rfl) (by kernel_rfl) (by kernel_rfl) (by kernel_rfl) ?hQ211 ?hy211 (by assumption) ?_
        case hi211 => (simp only [List.getElem?_toArray, List.getElem?_cons_succ, List.getElem?_cons_zero]; try rfl)
        case hQ211 => exact fun _ _ _ h => h
        case hy211 => (refine Or.inl ⟨by rfl, ?_⟩; intro wq hSw; (try dsimp only at hSw); go_simp; (try with_reducible rfl))
        (try simp only [Act.put, List.setIfInBounds_toArray, List.set_cons_zero, List.set_cons_succ])
        refine wpAnyT_take (i := 11) (oi := ?oi212) (v := ?v212) ?hi212 (by kernel_rfl) (by kernel_rfl) (by kernel_rfl) (by kernel_rfl) (by kernel_rfl) ?hQ212 ?hy212 (by assumption) ?_
        case hi212 => (simp only [List.getElem?_toArray, List.getElem?_cons_succ, List.getElem?_cons_zero]; try rfl)
        case hQ212 => exact fun _ _ _ h => h
        case hy212 => (refine Or.inl ⟨by rfl, ?_⟩; intro wq hSw; (try dsimp only at hSw); go_simp; (try with_reducible rfl))
        (try simp only [Act.put, List.setIfInBounds_toArray, List.set_cons_zero, List.set_cons_succ])
        refine wpAnyT_take (i := 12) (oi := ?oi213) (v := ?v213) ?hi213 (by kernel_rfl) (by kernel_rfl) (by kernel_rfl) (by kernel_rfl) (by kernel_rfl) ?hQ213 ?hy213 (by assumption) ?_
        case hi213 => (simp only [List.getElem?_toArray, List.getElem?_cons_succ, List.getElem?_cons_zero]; try rfl)
        case hQ213 => exact fun _ _ _ h => h
        case hy213 => (refine Or.inl ⟨by rfl, ?_⟩; intro wq hSw; (try dsimp only at hSw); go_simp; (try with_reducible rfl))
        (try simp only [Act.put, List.setIfInBounds_toArray, List.set_cons_zero, List.set_cons_succ])
        refine wpAnyT_take (i := 13) (oi := ?oi214) (v := ?v214) ?hi214 (by kernel_rfl) (by kernel_rfl) (by kernel_rfl) (by kernel_rfl) (by kernel_rfl) ?hQ214 ?hy214 (by assumption) ?_
        case hi214 => (simp only [List.getElem?_toArray, List.getElem?_cons_succ, List.getElem?_cons_zero]; try rfl)
        case hQ214 => exact fun _ _ _ h => h
        case hy214 => (refine Or.inl ⟨by rfl, ?_⟩; intro wq hSw; (try dsimp only at hSw); go_simp; (try with_reducible rfl))
        (try simp only [Act.put, List.setIfInBounds_toArray, List.set_cons_zero, List.set_cons_succ])
        refine wpAnyT_ready (rs := [14]) (by kernel_rfl) (by simp) ?_
        refine AllReadyT.last (o := ?oi215) ?hi215 ?ti215
        case hi215 => (simp only [List.getElem?_toArray, List.getElem?_cons_succ, List.getElem?_cons_zero]; try rfl)
        case ti215 =>
          intro KQ hKQ
          go_simp
          refine hKQ.out _ _ ?_
          clear hKQ KQ hHeld
          (try simp only [Act.put, List.setIfInBounds_toArray, List.set_cons_zero, List.set_cons_succ])
          refine wpAnyT_done (by kernel_rfl) ?_ _
          have H3 := Lib.hid ((H2.out.put 0 rfl (i * 2) (.slice q'.A q'.n q'.c)).put 0 rfl (i * 2 + 1) (.int .i64 q'.id))
          clear rt t0 t1 ft0 ft1 ra a0 a1 fa0 fa1 rb b0 b1 fb0 fb1 q0 q1 hpb u0 u1 hab fq0 fq1
          obtain ⟨rt, t0, t1, ft0, ft1⟩ := H3.out.two 0 rfl
          obtain ⟨ra, a0, a1, fa0, fa1⟩ := H3.out.two 1 rfl
          obtain ⟨rb, b0, b1, fb0, fb1⟩ := H3.out.two 2 rfl
          generalize (W2.setCell ⟨pb, i * 2, none⟩ (.slice q'.A q'.n q'.c)).setCell ⟨pb, i * 2 + 1, none⟩ (.int .i64 q'.id) = W3 at *
          have H5 := Lib.hid ((H3.out.set 1 rfl 0 (.slice (some ⟨ab, 0, none⟩) la ca)).cut 2 rfl la (by omega))
          rcases HKL.out with hk0 | hka
          · obtain rfl : ma = 0 := by have := HMA.out; rw [hk0.1] at this; exact this.symm
            go_wp2
            have H5 := Lib.hid (H5.out.ext (Ext.dr (Ext.refl' _)))
            refine bodyPost_end (v := .tuple #[]) ?_ rfl ?_
            · simp [results, Try.results66]
            exact ⟨rfl, _, _, _, ⟨three_fin (S := t.own ++ (a.own ++ b.own)) (r1 := t.r) (r2 := a.r) (r3 := b.r) (P1 := t.ps.set i q') (K1 := t.ks.take i ++ .nd a.r (.slice (some ⟨ab, 0, none⟩) la ca) (.slice A2 0 da) (a.ps.take la) (a.ks.take (la + 1)) :: .nd b.r (.slice A1 (nb + 1) k1') (.slice B2 mb db) (q :: b.ps) (a.ks.drop (la + 1) ++ b.ks) :: t.ks.drop (i + 2)) (P2 := a.ps.take la) (K2 := a.ks.take (la + 1)) (P3 := q :: b.ps) (K3 := a.ks.drop (la + 1) ++ b.ks) H5.out (mpl_set _ _ _) (kid_swap HIA.out HIB.out rfl rfl) (mpl_take _ _) (by rw [hk0.1]; simp) (by simp [mpl]) (by rw [hk0.1]; simp) (by have := HN.out; simp; omega) (by have := HM.out; simp; omega) (by have := HNA.out; simp; omega) (by rw [hk0.1]; rfl) (by have := HNB.out; simp; omega) (by have := HMB.out; rw [hk0.1]; simp; omega), rfl, rfl, rfl, rfl⟩, rfl, rfl, rfl, rfl, by first | rfl | (show a.ks.drop (la + 1) ++ b.ks = _; rw [hs1]; rfl)⟩
          · obtain rfl : ma = la + 2 := by have := HMA.out; have := HNA.out; omega
            obtain ⟨s, hs⟩ : ∃ s, a.ks[la + 1]? = some s := ⟨_, List.getElem?_eq_getElem (by have := HMA.out; omega)⟩
            have hs1 : a.ks.drop (la + 1) = [s] := by
              have hl := HMA.out
              obtain ⟨hi, rfl⟩ := List.getElem?_eq_some_iff.1 hs
              rw [List.drop_eq_getElem_cons hi, List.drop_eq_nil_of_le (by omega)]
            have HS := Lib.hid hs
            have HS1 := Lib.hid hs1
            obtain ⟨a2, c2, he, _, _⟩ := own_ne0 (H5.out.own 3 rfl) (show 0 < la + 2 by omega)
            simp only [Value.slice.injEq, true_and] at he
            obtain ⟨rfl, rfl⟩ := he
            clear hka hs
            go_wp2
            have hs1 := HS1.out
            obtain ⟨hab2, s0⟩ := ownQ_at (H5.out.own 3 rfl) HS.out
            clear rt t0 t1 ft0 ft1 ra a0 a1 fa0 fa1 rb b0 b1 fb0 fb1
            obtain ⟨rt, t0, t1, ft0, ft1⟩ := H5.out.two 0 rfl
            obtain ⟨ra, a0, a1, fa0, fa1⟩ := H5.out.two 1 rfl
            obtain ⟨rb, b0, b1, fb0, fb1⟩ := H5.out.two 2 rfl
            generalize W3.setCell ⟨a.r, 0, none⟩ (.slice (some ⟨ab, 0, none⟩) la ca) = W5 at *
            refine wp_region_T 17 (S := (fun w' => w'.cell? ⟨a.r, 1, none⟩ = some (.slice (some ⟨a2, 0, none⟩) (la + 2) da) ∧ w'.cell? ⟨b.r, 1, none⟩ = some (.slice B2 mb db) ∧ w'.cell? ⟨a2, la + 1, none⟩ = some (pt s.r))) (by kernel_rfl) (by simp [go_sem, ↓IntWalk.iteOmega, *]) (fun hHeld => ?_)
            refine wpAnyT_take (i := 0) (oi := ?oi401) (v := ?v401) ?hi401 (by kernel_rfl) (by kernel_rfl) (by kernel_rfl) (by kernel_rfl) (by kernel_rfl) ?hQ401 ?hy401 (by assumption) ?_
            case hi401 => (simp only [List.getElem?_toArray, List.getElem?_cons_succ, List.getElem?_cons_zero]; try rfl)
            case hQ401 => exact fun _ _ _ h => h
            case hy401 => (refine Or.inl ⟨by rfl, ?_⟩; intro wq hSw; (try dsimp only at hSw); go_simp; (try with_reducible rfl))
            (try simp only [Act.put, List.setIfInBounds_toArray, List.set_cons_zero, List.set_cons_succ])
            refine wpAnyT_take (i := 1) (oi := ?oi402) (v := ?v402) ?hi402 (by kernel_rfl) (by kernel_rfl) (by kernel_rfl) (by kernel_rfl) (by kernel_rfl) ?hQ402 ?hy402 (by assumption) ?_
            case hi402 => (simp only [List.getElem?_toArray, List.getElem?_cons_succ, List.getElem?_cons_zero]; try rfl)
            case hQ402 => exact fun _ _ _ h => h
            case hy402 => (refine Or.inl ⟨by rfl, ?_⟩; intro wq hSw; (try dsimp only at hSw); go_simp; (try with_reducible rfl))
            (try simp only [Act.put, List.setIfInBounds_toArray, List.set_cons_zero, List.set_cons_succ])
            refine wpAnyT_take (i := 2) (oi := ?oi403) (v := ?v403) ?hi403 (by kernel_rfl) (by kernel_rfl) (by kernel_rfl) (by kernel_rfl) (by kernel_rfl) ?hQ403 ?hy403 (by assumption) ?_
            case hi403 => (simp only [List.getElem?_toArray, List.getElem?_cons_succ, List.getElem?_cons_zero]; try rfl)
            case hQ403 => exact fun _ _ _ h => h
            case hy403 => (refine Or.inl ⟨by rfl, ?_⟩; intro wq hSw; (try dsimp only at hSw); go_simp; (try with_reducible rfl))
            (try simp only [Act.put, List.setIfInBounds_toArray, List.set_cons_zero, List.set_cons_succ])
            refine wpAnyT_take (i := 3) (oi := ?oi404) (v := ?v404) ?hi404 (by kernel_rfl) (by kernel_rfl) (by kernel_rfl) (by kernel_rfl) (by kernel_rfl) ?hQ404 ?hy404 (by assumption) ?_
            case hi404 => (simp only [List.getElem?_toArray, List.getElem?_cons_succ, List.getElem?_cons_zero]; try rfl)
            case hQ404 => exact fun _ _ _ h => h
            case hy404 => (refine Or.inl ⟨by rfl, ?_⟩; intro wq hSw; (try dsimp only at hSw); go_simp; (try with_reducible rfl))
            (try simp only [Act.put, List.setIfInBounds_toArray, List.set_cons_zero, List.set_cons_succ])
            refine wpAnyT_take (i := 4) (oi := ?oi405) (v := ?v405) ?hi405 (by kernel_rfl) (by kernel_rfl) (by kernel_rfl) (by kernel_rfl) (by kernel_rfl) ?hQ405 ?hy405 (by assumption) ?_
            case hi405 => (simp only [List.getElem?_toArray, List.getElem?_cons_succ, List.getElem?_cons_zero]; try rfl)
            case hQ405 => exact fun _ _ _ h => h
            case hy405 => (refine Or.inl ⟨by rfl, ?_⟩; intro wq hSw; (try dsimp only at hSw); go_simp; (try with_reducible rfl))
            (try simp only [Act.put, List.setIfInBounds_toArray, List.set_cons_zero, List.set_cons_succ])
            refine wpAnyT_take (i := 5) (oi := ?oi406) (v := ?v406) ?hi406 (by kernel_rfl) (by kernel_rfl) (by kernel_rfl) (by kernel_rfl) (by kernel_rfl) ?hQ406 ?hy406 (by assumption) ?_
            case hi406 => (simp only [List.getElem?_toArray, List.getElem?_cons_succ, List.getElem?_cons_zero]; try rfl)
            case hQ406 => exact fun _ _ _ h => h
            case hy406 => (refine Or.inl ⟨by rfl, ?_⟩; intro wq hSw; (try dsimp only at hSw); go_simp; (try with_reducible rfl))
            (try simp only [Act.put, List.setIfInBounds_toArray, List.set_cons_zero, List.set_cons_succ])
            refine wpAnyT_take (i := 6) (oi := ?oi407) (v := ?v407) ?hi407 (by kernel_rfl) (by kernel_rfl) (by kernel_rfl) (by kernel_rfl) (by kernel_rfl) ?hQ407 ?hy407 (by assumption) ?_
            case hi407 => (simp only [List.getElem?_toArray, List.getElem?_cons_succ, List.getElem?_cons_zero]; try rfl)
            case hQ407 => exact fun _ _ _ h => h
            case hy407 => (refine Or.inl ⟨by rfl, ?_⟩; intro wq hSw; (try dsimp only at hSw); go_simp; (try with_reducible rfl))
            (try simp only [Act.put, List.setIfInBounds_toArray, List.set_cons_zero, List.set_cons_succ])
            refine wpAnyT_take (i := 7) (oi := ?oi408) (v := ?v408) ?hi408 (by kernel_rfl) (by kernel_rfl) (by kernel_rfl) (by kernel_rfl) (by kernel_rfl) ?hQ408 ?hy408 (by assumption) ?_
            case hi408 => (simp only [List.getElem?_toArray, List.getElem?_cons_succ, List.getElem?_cons_zero]; try rfl)
            case hQ408 => exact fun _ _ _ h => h
            case hy408 => (refine Or.inl ⟨by rfl, ?_⟩; intro wq hSw; (try dsimp only at hSw); go_simp; (try with_reducible rfl))
            (try simp only [Act.put, List.setIfInBounds_toArray, List.set_cons_zero, List.set_cons_succ])
            refine wpAnyT_take (i := 8) (oi := ?oi409) (v := ?v409) ?hi409 (by kernel_rfl) (by kernel_rfl) (by kernel_rfl) (by kernel_rfl) (by kernel_rfl) ?hQ409 ?hy409 (by assumption) ?_
            case hi409 => (simp only [List.getElem?_toArray, List.getElem?_cons_succ, List.getElem?_cons_zero]; try rfl)
            case hQ409 => exact fun _ _ _ h => h
            case hy409 => (refine Or.inl ⟨by rfl, ?_⟩; intro wq hSw; (try dsimp only at hSw); go_simp; (try with_reducible rfl))
            (try simp only [Act.put, List.setIfInBounds_toArray, List.set_cons_zero, List.set_cons_succ])
            refine wpAnyT_take (i := 9) (oi := ?oi410) (v := ?v410) ?hi410 (by kernel_rfl) (by kernel_rfl) (by kernel_rfl) (by kernel_rfl) (by kernel_rfl) ?hQ410 ?hy410 (by assumption) ?_
            case hi410 => (simp only [List.getElem?_toArray, List.getElem?_cons_succ, List.getElem?_cons_zero]; try rfl)
            case hQ410 => exact fun _ _ _ h => h
            case hy410 => (refine Or.inl ⟨by rfl, ?_⟩; intro wq hSw; (try dsimp only at hSw); go_simp; (try with_reducible rfl))
            (try simp only [Act.put, List.setIfInBounds_toArray, List.set_cons_zero, List.set_cons_succ])
            refine wpAnyT_take (i := 10) (oi := ?oi411) (v := ?v411) ?hi411 (by kernel_rfl) (by kernel_rfl) (by kernel_rfl) (by kernel_rfl) (by kernel_rfl) ?hQ411 ?hy411 (by assumption) ?_
            case hi411 => (simp only [List.getElem?_toArray, List.getElem?_cons_succ, List.getElem?_cons_zero]; try rfl)
            case hQ411 => exact fun _ _ _ h => h
            case hy411 => (refine Or.inl ⟨by rfl, ?_⟩; intro wq hSw; (try dsimp only at hSw); go_simp; (try with_reducible rfl))
            (try simp only [Act.put, List.setIfInBounds_toArray, List.set_cons_zero, List.set_cons_succ])
            refine wpAnyT_take (i := 11) (oi := ?oi412) (v := ?v412) ?hi412 (by kernel_rfl) (by kernel_rfl) (by kernel_rfl) (by kernel_rfl) (by kernel_rfl) ?hQ412 ?hy412 (by assumption) ?_
            case hi412 => (simp only [List.getElem?_toArray, List.getElem?_cons_succ, List.getElem?_cons_zero]; try rfl)
            case hQ412 => exact fun _ _ _ h => h
            case hy412 => (refine Or.inl ⟨by rfl, ?_⟩; intro wq hSw; (try dsimp only at hSw); go_simp; (try with_reducible rfl))
            (try simp only [Act.put, List.setIfInBounds_toArray, List.set_cons_zero, List.set_cons_succ])
            refine wpAnyT_take (i := 12) (oi := ?oi413) (v := ?v413) ?hi413 (by kernel_rfl) (by kernel_rfl) (by kernel_rfl) (by kernel_rfl) (by kernel_rfl) ?hQ413 ?hy413 (by assumption) ?_
            case hi413 => (simp only [List.getElem?_toArray, List.getElem?_cons_succ, List.getElem?_cons_zero]; try rfl)
            case hQ413 => exact fun _ _ _ h => h
            case hy413 => (refine Or.inl ⟨by rfl, ?_⟩; intro wq hSw; (try dsimp only at hSw); go_simp; (try with_reducible rfl))
            (try simp only [Act.put, List.setIfInBounds_toArray, List.set_cons_zero, List.set_cons_succ])
            refine wpAnyT_ready (rs := [13]) (by kernel_rfl) (by simp) ?_
            refine AllReadyT.cons (o := ?oi414) ?hi414 ?ti414 AllReadyT.nil
            case hi414 => (simp only [List.getElem?_toArray, List.getElem?_cons_succ, List.getElem?_cons_zero]; try rfl)
            case ti414 =>
              intro KQ hKQ
              go_simp
              refine hKQ.out _ _ (by simp [go_sem, ↓IntWalk.iteOmega, *]) (fun hHeld2 => ?_)
              clear hHeld hKQ KQ; have hHeld := hHeld2; clear hHeld2
              (try simp only [Act.put, List.setIfInBounds_toArray, List.set_cons_zero, List.set_cons_succ])
              refine wpAnyT_ready (rs := [14]) (by kernel_rfl) (by simp) ?_
              refine AllReadyT.cons (o := ?oi415) ?hi415 ?ti415 AllReadyT.nil
              case hi415 => (simp only [List.getElem?_toArray, List.getElem?_cons_succ, List.getElem?_cons_zero]; try rfl)
              case ti415 =>
                intro KQ hKQ
                go_simp
                go_at_call 50
                refine Calls.mono (insQ_any base mb 0 W5.heap.size 1 (.slice B2 mb db) (ptl (b.ks.map MT.r)) [pt s.r] _ (H5.out.ext (by repeat (first | exact Ext.refl' _ | assumption | apply Ext.ex' | apply Ext.al | apply Ext.drN | apply Ext.dr))).bs ((H5.out.ext (by repeat (first | exact Ext.refl' _ | assumption | apply Ext.ex' | apply Ext.al | apply Ext.drN | apply Ext.dr))).own 5 rfl) (by omega) (by omega) (own_far (H5.out.own 5 rfl)) (al_new (by simp)) rfl (by intro u hu; simp at hu; subst hu; rfl) (oneCell_ptl _)) ?_
                rintro e w7 ⟨v7, rfl, ho7, hg7, hn7⟩
                obtain ⟨A7, k7, rfl, _, _, _⟩ := own_form2 ho7
                have H7 := Lib.hid ((H5.out.ext (by repeat (first | exact Ext.refl' _ | assumption | apply Ext.ex' | apply Ext.al | apply Ext.drN | apply Ext.dr))).grow 5 rfl hg7 ho7 hn7)
                clear rt t0 t1 ft0 ft1 ra a0 a1 fa0 fa1 rb b0 b1 fb0 fb1 s0 hab2 ho7 hg7 hn7
                obtain ⟨rt, t0, t1, ft0, ft1⟩ := H7.out.two 0 rfl
                obtain ⟨ra, a0, a1, fa0, fa1⟩ := H7.out.two 1 rfl
                obtain ⟨rb, b0, b1, fb0, fb1⟩ := H7.out.two 2 rfl
                obtain ⟨hab2, s0⟩ := ownQ_at (H7.out.own 3 rfl) HS.out
                refine hKQ.out _ _ (by simp [go_sem, ↓IntWalk.iteOmega, *]) (fun hHeld2 => ?_)
                clear hHeld hKQ KQ; have hHeld := hHeld2; clear hHeld2
                (try simp only [Act.put, List.setIfInBounds_toArray, List.set_cons_zero, List.set_cons_succ])
                refine wpAnyT_take (i := 15) (oi := ?oi416) (v := ?v416) ?hi416 (by kernel_rfl) (by kernel_rfl) (by kernel_rfl) (by kernel_rfl) (by kernel_rfl) ?hQ416 ?hy416 (by assumption) ?_
                case hi416 => (simp only [List.getElem?_toArray, List.getElem?_cons_succ, List.getElem?_cons_zero]; try rfl)
                case hQ416 => exact fun _ _ _ h => h
                case hy416 => (refine Or.inl ⟨by rfl, ?_⟩; intro wq hSw; (try dsimp only at hSw); go_simp; (try with_reducible rfl))
                (try simp only [Act.put, List.setIfInBounds_toArray, List.set_cons_zero, List.set_cons_succ])
                refine wpAnyT_take (i := 16) (oi := ?oi417) (v := ?v417) ?hi417 (by kernel_rfl) (by kernel_rfl) (by kernel_rfl) (by kernel_rfl) (by kernel_rfl) ?hQ417 ?hy417 (by assumption) ?_
                case hi417 => (simp only [List.getElem?_toArray, List.getElem?_cons_succ, List.getElem?_cons_zero]; try rfl)
                case hQ417 => exact fun _ _ _ h => h
                case hy417 => (refine Or.inl ⟨by rfl, ?_⟩; intro wq hSw; (try dsimp only at hSw); go_simp; (try with_reducible rfl))
                (try simp only [Act.put, List.setIfInBounds_toArray, List.set_cons_zero, List.set_cons_succ])
                refine wpAnyT_ready (rs := [17]) (by kernel_rfl) (by simp) ?_
                refine AllReadyT.last (o := ?oi418) ?hi418 ?ti418
                case hi418 => (simp only [List.getElem?_toArray, List.getElem?_cons_succ, List.getElem?_cons_zero]; try rfl)
                case ti418 =>
                  intro KQ hKQ
                  go_simp
                  refine hKQ.out _ _ ?_
                  clear hKQ KQ hHeld
                  (try simp only [Act.put, List.setIfInBounds_toArray, List.set_cons_zero, List.set_cons_succ])
                  refine wpAnyT_done (by kernel_rfl) ?_ _
                  have H8 := Lib.hid (H7.out.set 2 rfl 1 (.slice A7 (mb + 1) k7))
                  clear rt t0 t1 ft0 ft1 ra a0 a1 fa0 fa1 rb b0 b1 fb0 fb1 s0 hab2
                  obtain ⟨rt, t0, t1, ft0, ft1⟩ := H8.out.two 0 rfl
                  obtain ⟨ra, a0, a1, fa0, fa1⟩ := H8.out.two 1 rfl
                  obtain ⟨rb, b0, b1, fb0, fb1⟩ := H8.out.two 2 rfl
                  generalize w7.setCell ⟨b.r, 1, none⟩ (.slice A7 (mb + 1) k7) = W8 at *
                  go_wp2
                  have H9 := (H8.out.set 1 rfl 1 (.slice (some ⟨a2, 0, none⟩) (la + 1) da)).cut 3 rfl (la + 1) (by omega)
                  refine bodyPost_end (v := .tuple #[]) ?_ rfl ?_
                  · simp [results, Try.results66]
                  exact ⟨rfl, _, _, _, ⟨three_fin (S := t.own ++ (a.own ++ b.own)) (r1 := t.r) (r2 := a.r) (r3 := b.r) (P1 := t.ps.set i q') (K1 := t.ks.take i ++ .nd a.r (.slice (some ⟨ab, 0, none⟩) la ca) (.slice (some ⟨a2, 0, none⟩) (la + 1) da) (a.ps.take la) (a.ks.take (la + 1)) :: .nd b.r (.slice A1 (nb + 1) k1') (.slice A7 (mb + 1) k7) (q :: b.ps) (a.ks.drop (la + 1) ++ b.ks) :: t.ks.drop (i + 2)) (P2 := a.ps.take la) (K2 := a.ks.take (la + 1)) (P3 := q :: b.ps) (K3 := a.ks.drop (la + 1) ++ b.ks) H9 (mpl_set _ _ _) (kid_swap HIA.out HIB.out rfl rfl) (mpl_take _ _) (by rw [Nat.mul_one, ptl_take]) (by simp [mpl]) (by rw [hs1]; simp [ptl]) (by have := HN.out; simp; omega) (by have := HM.out; simp; omega) (by have := HNA.out; simp; omega) (by have := HMA.out; simp; omega) (by have := HNB.out; simp; omega) (by have := HMB.out; rw [hs1]; simp; omega), rfl, rfl, rfl, rfl⟩, rfl, rfl, rfl, rfl, by first | rfl | (show a.ks.drop (la + 1) ++ b.ks = _; rw [hs1]; rfl)⟩

end Go.Proofs.Ytdmbgimehepfaaa
