/- A pair moved from kid to kid. -/
import Derived.Test.YtdmbgimehepfaaaBtJ
import Derived.Deep.RegionHeld3
set_option linter.unusedSimpArgs false
set_option linter.unusedVariables false
namespace Go.Proofs.Ytdmbgimehepfaaa
open Go.RowKit


section
variable {base : Nat} {S : List Nat} {w W W' : World} {N : List Bk} {L : List Rw}
/-- a cell of a row is written -/
theorem Hp.put (h : Hp base S w W N L) (j : Nat) {g n c k : Nat} {e : TypeId} {xs : List Value} (hj : L[j]? = some ⟨.slice (some ⟨g, 0, none⟩) n c, e, k, n, xs⟩) (o : Nat) (u : Value) : Hp base S w (W.setCell ⟨g, o, none⟩ u) N (L.set j ⟨.slice (some ⟨g, 0, none⟩) n c, e, k, n, xs.set o u⟩) := by
  obtain ⟨h1, h2⟩ := (h.own j hj).stored o u
  exact h.grow j hj h2 h1 (fun _ h => .inl h)
/-- a row is cut -/
theorem Hp.cut (h : Hp base S w W N L) (j : Nat) {g n c k : Nat} {e : TypeId} {xs : List Value} (hj : L[j]? = some ⟨.slice (some ⟨g, 0, none⟩) n c, e, k, n, xs⟩) (n' : Nat) (hn : n' ≤ n) : Hp base S w W N (L.set j ⟨.slice (some ⟨g, 0, none⟩) n' c, e, k, n', xs.take (n' * k)⟩) := by
  obtain ⟨cur, hB, hc, hx⟩ := own_blk (show W.ownsRow base e k (.slice (some ⟨g, 0, none⟩) n c) n xs from h.own j hj)
  subst hx
  have h1 := Nat.mul_le_mul_right k hn
  have := hB.own (n := n') (by omega)
  refine h.grow j hj (World.grownBy.refl _ _) ?_ (fun _ h => .inl h)
  rw [List.take_take, Nat.min_eq_left h1]
  exact this
end
theorem mpl_set (l : List MP) (i : Nat) (q : MP) : ((mpl l).set (i * 2) (.slice q.A q.n q.c)).set (i * 2 + 1) (.int .i64 q.id) = mpl (l.set i q) := by
  induction l generalizing i with
  | nil => rfl
  | cons p l ih =>
    cases i with
    | zero => rfl
    | succ i =>
      have e1 : (i + 1) * 2 = i * 2 + 1 + 1 := by omega
      have e2 : mpl (p :: l) = .slice p.A p.n p.c :: .int .i64 p.id :: mpl l := by simp [mpl, mp2]
      have e3 : mpl ((p :: l).set (i + 1) q) = .slice p.A p.n p.c :: .int .i64 p.id :: mpl (l.set i q) := by simp [mpl, mp2]
      rw [e1, e2, e3, List.set_cons_succ, List.set_cons_succ, List.set_cons_succ, List.set_cons_succ, ih]
theorem kid_swap {K : List MT} {i : Nat} {a b a' b' : MT} (ha : K[i]? = some a) (hb : K[i + 1]? = some b) (ra : a'.r = a.r) (rb : b'.r = b.r) : ptl (K.map MT.r) = ptl ((K.take i ++ a' :: b' :: K.drop (i + 2)).map MT.r) := by
  obtain ⟨hi, rfl⟩ := List.getElem?_eq_some_iff.1 ha
  obtain ⟨hj, rfl⟩ := List.getElem?_eq_some_iff.1 hb
  have e : K = K.take i ++ (K[i] :: K[i + 1] :: K.drop (i + 2)) := by rw [List.getElem_cons_drop hj, List.getElem_cons_drop hi, List.take_append_drop]
  have e2 := congrArg (List.map MT.r) e
  unfold ptl
  exact congrArg _ (e2.trans (by simp only [List.map_append, List.map_cons, ra, rb]))
/-- what a borrowing leaves -/
structure BorR (base i : Nat) (w w' : World) (t a b t' a' b' : MT) : Prop extends Three base (t.own ++ (a.own ++ b.own)) w w' t' a' b' where
  tr : t'.r = t.r
  ar : a'.r = a.r
  br : b'.r = b.r
  tks : t'.ks = t.ks.take i ++ a' :: b' :: t.ks.drop (i + 2)


set_option maxRecDepth 100000 in
set_option maxHeartbeats 16000000 in
theorem borrowRight_any (base i : Nat) (t a b : MT) (q q' : MP) (w : World) (hbw : base ≤ w.heap.size) (hT : NodeOk base w t) (hA : NodeOk base w a) (hB : NodeOk base w b) (hnd : (t.own ++ (a.own ++ b.own)).Nodup)
    (hia : t.ks[i]? = some a) (hib : t.ks[i + 1]? = some b) (hq : t.ps[i]? = some q) (hq' : b.ps[0]? = some q') (hl1 : t.ps.length ≤ 1048575) (hl2 : t.ks.length = t.ps.length + 1) (hl3 : a.ps.length + b.ps.length + 1 ≤ 1048576) (hl4 : a.ks.length + b.ks.length + 1 ≤ 1048576)
    (hkl : (a.ks = [] ∧ b.ks = []) ∨ (0 < a.ks.length ∧ 0 < b.ks.length)) :
    Calls Try.prog 67 #[pt t.r, .int .i64 i] w fun e w' => e = .returned (.tuple #[]) ∧ ∃ t' a' b', BorR base i w w' t a b t' a' b' ∧ t'.ps = t.ps.set i q' ∧ a'.ps = a.ps ++ [q] ∧ b'.ps = b.ps.drop 1 ∧ a'.ks = a.ks ++ b.ks.take 1 ∧ b'.ks = b.ks.drop 1 := by
  have hpos : 0 < b.ps.length := (List.getElem?_eq_some_iff.1 hq').1
  have HQ2 := Lib.hid hq'
  have hkl2 := hkl
  have H0 := Hp.of3 hbw hT hA hB hnd
  have hip : i < t.ps.length := (List.getElem?_eq_some_iff.1 hq).1
  obtain ⟨pb, c, hvp, hc, _⟩ := own_ne0 hT.op (by omega)
  obtain ⟨kb, d, hvk, hd, _⟩ := own_ne0 hT.ok (by omega)
  obtain ⟨bb, cb, hbp, hcb, _⟩ := own_ne0 hB.op (by omega)
  obtain ⟨B2, db, hbk, hdb, _, hB2n⟩ := own_form2 hB.ok
  obtain ⟨A2, da, hak, hda, _, hA2n⟩ := own_form2 hA.ok
  rw [hvp, hvk, hbp, hbk, hak] at H0
  obtain ⟨hpb, q0, q1⟩ := ownP_at (H0.own 0 rfl) hq
  obtain ⟨hkb, k0⟩ := ownQ_at (H0.own 1 rfl) hia
  obtain ⟨_, k1⟩ := ownQ_at (H0.own 1 rfl) hib
  obtain ⟨n, hn⟩ : ∃ n, t.ps.length = n := ⟨_, rfl⟩
  obtain ⟨m, hm⟩ : ∃ m, t.ks.length = m := ⟨_, rfl⟩
  obtain ⟨nb, hnb⟩ : ∃ nb, b.ps.length = nb := ⟨_, rfl⟩
  obtain ⟨mb, hmb⟩ : ∃ mb, b.ks.length = mb := ⟨_, rfl⟩
  obtain ⟨na, hna⟩ : ∃ na, a.ps.length = na := ⟨_, rfl⟩
  obtain ⟨ma, hma⟩ : ∃ ma, a.ks.length = ma := ⟨_, rfl⟩
  rw [hn] at H0 hl1 hip hl2
  rw [hm] at H0 hl2
  rw [hna] at H0 hl3  
  rw [hnb] at H0 hl3 hcb
  rw [hmb] at H0 hl4 hdb
  rw [hma] at H0 hl4 hda
  have H0 := Lib.hid H0
  have him : i + 1 < m := by omega
  have hm6 : m ≤ 1048576 := by omega
  have HN := Lib.hid hn
  have HM := Lib.hid hm
  have HNB := Lib.hid hnb
  have HMB := Lib.hid hmb
  have HNA := Lib.hid hna
  have HMA := Lib.hid hma
  have HIA := Lib.hid hia
  have HQ := Lib.hid hq
  have HIB := Lib.hid hib
  have HLL := Lib.hid hl2
  have HKL := Lib.hid hkl
  have HB2 := Lib.hid hB2n
  have HA2 := Lib.hid hA2n
  have hw1 : IntKind.i64.wrap ((i : Int) + 1) = (i : Int) + 1 := IntWalk.i64_in _ (by omega)
  have hi1 : (0 : Int) ≤ (i : Int) + 1 := by omega
  have hi2 : (i : Int) + 1 < (m : Int) := by omega
  have hi3 : (i : Int) < (m : Int) := by omega
  obtain ⟨rt, t0, t1, ft0, ft1⟩ := H0.out.two 0 rfl
  obtain ⟨ra, a0, a1, fa0, fa1⟩ := H0.out.two 1 rfl
  obtain ⟨rb, b0, b1, fb0, fb1⟩ := H0.out.two 2 rfl
  clear hT hA hB hnd hia hib hq hvp hvk  hbp hbk hak hl2 hn hm hnb hmb hna hma hB2n hA2n hkl

  have hnb0 : 0 < nb := by have := HNB.out; omega
  clear hpos hq' hkl2
  go_enter Try.func67, Try.ntmps67
  go_wp2
  go_quiet (fail)
  go_wp2
  refine wp_region_T 16 (S := (fun w' => w'.cell? ⟨t.r, 0, none⟩ = some (.slice (some ⟨pb, 0, none⟩) n c) ∧ w'.cell? ⟨pb, i * 2, none⟩ = some (.slice q.A q.n q.c) ∧ w'.cell? ⟨pb, i * 2 + 1, none⟩ = some (.int .i64 q.id) ∧ w'.cell? ⟨a.r, 0, none⟩ = some a.vp)) (by kernel_rfl) (by simp [go_sem, ↓IntWalk.iteOmega, *]) (fun hHeld => ?_)
  refine wpAnyT_take (i := 0) (oi := ?oi1) (v := ?v1) ?hi1 (by kernel_rfl) (by kernel_rfl) (by kernel_rfl) (by kernel_rfl) (by kernel_rfl) ?hQ1 ?hy1 (by assumption) ?_
  case hi1 => (simp only [List.getElem?_toArray, List.getElem?_cons_succ, List.getElem?_cons_zero]; try rfl)
  case hQ1 => exact fun _ _ _ h => h
  case hy1 => (refine Or.inl ⟨by rfl, ?_⟩; intro wq hSw; (try dsimp only at hSw); go_simp; (try with_reducible rfl))
  (try simp only [Act.put, List.setIfInBounds_toArray, List.set_cons_zero, List.set_cons_succ])
  refine wpAnyT_take (i := 1) (oi := ?oi2) (v := ?v2) ?hi2 (by kernel_rfl) (by kernel_rfl) (by kernel_rfl) (by kernel_rfl) (by kernel_rfl) ?hQ2 ?hy2 (by assumption) ?_
  case hi2 => (simp only [List.getElem?_toArray, List.getElem?_cons_succ, List.getElem?_cons_zero]; try rfl)
  case hQ2 => exact fun _ _ _ h => h
  case hy2 => (refine Or.inl ⟨by rfl, ?_⟩; intro wq hSw; (try dsimp only at hSw); go_simp; (try with_reducible rfl))
  (try simp only [Act.put, List.setIfInBounds_toArray, List.set_cons_zero, List.set_cons_succ])
  refine wpAnyT_take (i := 2) (oi := ?oi3) (v := ?v3) ?hi3 (by kernel_rfl) (by kernel_rfl) (by kernel_rfl) (by kernel_rfl) (by kernel_rfl) ?hQ3 ?hy3 (by assumption) ?_
  case hi3 => (simp only [List.getElem?_toArray, List.getElem?_cons_succ, List.getElem?_cons_zero]; try rfl)
  case hQ3 => exact fun _ _ _ h => h
  case hy3 => (refine Or.inl ⟨by rfl, ?_⟩; intro wq hSw; (try dsimp only at hSw); go_simp; (try with_reducible rfl))
  (try simp only [Act.put, List.setIfInBounds_toArray, List.set_cons_zero, List.set_cons_succ])
  refine wpAnyT_take (i := 3) (oi := ?oi4) (v := ?v4) ?hi4 (by kernel_rfl) (by kernel_rfl) (by kernel_rfl) (by kernel_rfl) (by kernel_rfl) ?hQ4 ?hy4 (by assumption) ?_
  case hi4 => (simp only [List.getElem?_toArray, List.getElem?_cons_succ, List.getElem?_cons_zero]; try rfl)
  case hQ4 => exact fun _ _ _ h => h
  case hy4 => (refine Or.inl ⟨by rfl, ?_⟩; intro wq hSw; (try dsimp only at hSw); go_simp; (try with_reducible rfl))
  (try simp only [Act.put, List.setIfInBounds_toArray, List.set_cons_zero, List.set_cons_succ])
  refine wpAnyT_take (i := 4) (oi := ?oi5) (v := ?v5) ?hi5 (by kernel_rfl) (by kernel_rfl) (by kernel_rfl) (by kernel_rfl) (by kernel_rfl) ?hQ5 ?hy5 (by assumption) ?_
  case hi5 => (simp only [List.getElem?_toArray, List.getElem?_cons_succ, List.getElem?_cons_zero]; try rfl)
  case hQ5 => exact fun _ _ _ h => h
  case hy5 => (refine Or.inl ⟨by rfl, ?_⟩; intro wq hSw; (try dsimp only at hSw); go_simp; (try with_reducible rfl))
  (try simp only [Act.put, List.setIfInBounds_toArray, List.set_cons_zero, List.set_cons_succ])
  refine wpAnyT_take (i := 5) (oi := ?oi6) (v := ?v6) ?hi6 (by kernel_rfl) (by kernel_rfl) (by kernel_rfl) (by kernel_rfl) (by kernel_rfl) ?hQ6 ?hy6 (by assumption) ?_
  case hi6 => (simp only [List.getElem?_toArray, List.getElem?_cons_succ, List.getElem?_cons_zero]; try rfl)
  case hQ6 => exact fun _ _ _ h => h
  case hy6 => (refine Or.inl ⟨by rfl, ?_⟩; intro wq hSw; (try dsimp only at hSw); go_simp; (try with_reducible rfl))
  (try simp only [Act.put, List.setIfInBounds_toArray, List.set_cons_zero, List.set_cons_succ])
  refine wpAnyT_take (i := 6) (oi := ?oi7) (v := ?v7) ?hi7 (by kernel_rfl) (by kernel_rfl) (by kernel_rfl) (by kernel_rfl) (by kernel_rfl) ?hQ7 ?hy7 (by assumption) ?_
  case hi7 => (simp only [List.getElem?_toArray, List.getElem?_cons_succ, List.getElem?_cons_zero]; try rfl)
  case hQ7 => exact fun _ _ _ h => h
  case hy7 => (refine Or.inl ⟨by rfl, ?_⟩; intro wq hSw; (try dsimp only at hSw); go_simp; (try with_reducible rfl))
  (try simp only [Act.put, List.setIfInBounds_toArray, List.set_cons_zero, List.set_cons_succ])
  refine wpAnyT_take (i := 7) (oi := ?oi8) (v := ?v8) ?hi8 (by kernel_rfl) (by kernel_rfl) (by kernel_rfl) (by kernel_rfl) (by kernel_rfl) ?hQ8 ?hy8 (by assumption) ?_
  case hi8 => (simp only [List.getElem?_toArray, List.getElem?_cons_succ, List.getElem?_cons_zero]; try rfl)
  case hQ8 => exact fun _ _ _ h => h
  case hy8 => (refine Or.inl ⟨by rfl, ?_⟩; intro wq hSw; (try dsimp only at hSw); go_simp; (try with_reducible rfl))
  (try simp only [Act.put, List.setIfInBounds_toArray, List.set_cons_zero, List.set_cons_succ])
  refine wpAnyT_take (i := 8) (oi := ?oi9) (v := ?v9) ?hi9 (by kernel_rfl) (by kernel_rfl) (by kernel_rfl) (by kernel_rfl) (by kernel_rfl) ?hQ9 ?hy9 (by assumption) ?_
  case hi9 => (simp only [List.getElem?_toArray, List.getElem?_cons_succ, List.getElem?_cons_zero]; try rfl)
  case hQ9 => exact fun _ _ _ h => h
  case hy9 => (refine Or.inl ⟨by rfl, ?_⟩; intro wq hSw; (try dsimp only at hSw); go_simp; (try with_reducible rfl))
  (try simp only [Act.put, List.setIfInBounds_toArray, List.set_cons_zero, List.set_cons_succ])
  refine wpAnyT_take (i := 9) (oi := ?oi10) (v := ?v10) ?hi10 (by kernel_rfl) (by kernel_rfl) (by kernel_rfl) (by kernel_rfl) (by kernel_rfl) ?hQ10 ?hy10 (by assumption) ?_
  case hi10 => (simp only [List.getElem?_toArray, List.getElem?_cons_succ, List.getElem?_cons_zero]; try rfl)
  case hQ10 => exact fun _ _ _ h => h
  case hy10 => (refine Or.inl ⟨by rfl, ?_⟩; intro wq hSw; (try dsimp only at hSw); go_simp; (try with_reducible rfl))
  (try simp only [Act.put, List.setIfInBounds_toArray, List.set_cons_zero, List.set_cons_succ])
  refine wpAnyT_take (i := 10) (oi := ?oi11) (v := ?v11) ?hi11 (by kernel_rfl) (by kernel_rfl) (by kernel_rfl) (by kernel_rfl) (by kernel_rfl) ?hQ11 ?hy11 (by assumption) ?_
  case hi11 => (simp only [List.getElem?_toArray, List.getElem?_cons_succ, List.getElem?_cons_zero]; try rfl)
  case hQ11 => exact fun _ _ _ h => h
  case hy11 => (refine Or.inl ⟨by rfl, ?_⟩; intro wq hSw; (try dsimp only at hSw); go_simp; (try with_reducible rfl))
  (try simp only [Act.put, List.setIfInBounds_toArray, List.set_cons_zero, List.set_cons_succ])
  refine wpAnyT_take (i := 11) (oi := ?oi12) (v := ?v12) ?hi12 (by kernel_rfl) (by kernel_rfl) (by kernel_rfl) (by kernel_rfl) (by kernel_rfl) ?hQ12 ?hy12 (by assumption) ?_
  case hi12 => (simp only [List.getElem?_toArray, List.getElem?_cons_succ, List.getElem?_cons_zero]; try rfl)
  case hQ12 => exact fun _ _ _ h => h
  case hy12 => (refine Or.inl ⟨by rfl, ?_⟩; intro wq hSw; (try dsimp only at hSw); go_simp; (try with_reducible rfl))
  (try simp only [Act.put, List.setIfInBounds_toArray, List.set_cons_zero, List.set_cons_succ])
  refine wpAnyT_ready (rs := [12]) (by kernel_rfl) (by simp) ?_
  refine AllReadyT.cons (o := ?oi13) ?hi13 ?ti13 AllReadyT.nil
  case hi13 => (simp only [List.getElem?_toArray, List.getElem?_cons_succ, List.getElem?_cons_zero]; try rfl)
  case ti13 =>
    intro KQ hKQ
    go_simp
    refine hKQ.out _ _ (by simp [go_sem, ↓IntWalk.iteOmega, *]) (fun hHeld2 => ?_)
    clear hHeld hKQ KQ; have hHeld := hHeld2; clear hHeld2
    (try simp only [Act.put, List.setIfInBounds_toArray, List.set_cons_zero, List.set_cons_succ])
    refine wpAnyT_ready (rs := [13]) (by kernel_rfl) (by simp) ?_
    refine AllReadyT.cons (o := ?oi14) ?hi14 ?ti14 AllReadyT.nil
    case hi14 => (simp only [List.getElem?_toArray, List.getElem?_cons_succ, List.getElem?_cons_zero]; try rfl)
    case ti14 =>
      intro KQ hKQ
      refine step_app3 _ (by rfl) (.tmp 25) (.tmp 33) (by rfl) elPair base (H0.out.ext (by repeat (first | exact Ext.refl' _ | assumption | apply Ext.ex' | apply Ext.al | apply Ext.drN | apply Ext.dr))).bs a.vp na (mpl a.ps) (by rfl) ((H0.out.ext (by repeat (first | exact Ext.refl' _ | assumption | apply Ext.ex' | apply Ext.al | apply Ext.drN | apply Ext.dr))).own 2 rfl) _ 1 1 (mp2 q) (by rfl) (Rd.lit _ _ _ _ _ (by rfl) (by rfl)) (by intro u hu; simp [mp2] at hu; rcases hu with rfl | rfl <;> rfl) (by unfold maxLen; omega) (by omega) ?_
      intro v1 w1 ho1 hg1 hn1
      obtain ⟨A1, k1', rfl, _, _, _⟩ := own_form2 ho1
      have H1 := Lib.hid ((H0.out.ext (by repeat (first | exact Ext.refl' _ | assumption | apply Ext.ex' | apply Ext.al | apply Ext.drN | apply Ext.dr))).grow 2 rfl hg1 ho1 hn1)
      clear rt t0 t1 ft0 ft1 ra a0 a1 fa0 fa1 rb b0 b1 fb0 fb1 q0 q1 hpb ho1 hg1 hn1
      obtain ⟨rt, t0, t1, ft0, ft1⟩ := H1.out.two 0 rfl
      obtain ⟨ra, a0, a1, fa0, fa1⟩ := H1.out.two 1 rfl
      obtain ⟨rb, b0, b1, fb0, fb1⟩ := H1.out.two 2 rfl
      obtain ⟨hpb, q0, q1⟩ := ownP_at (H1.out.own 0 rfl) HQ.out
      refine hKQ.out _ _ (by simp [go_sem, ↓IntWalk.iteOmega, *]) (fun hHeld2 => ?_)
      clear hHeld hKQ KQ; have hHeld := hHeld2; clear hHeld2
      (try simp only [Act.put, List.setIfInBounds_toArray, List.set_cons_zero, List.set_cons_succ])
      refine wpAnyT_take (i := 14) (oi := ?oi15) (v := ?v15) ?hi15 (by kernel_rfl) (by kernel_rfl) (by kernel_rfl) (by kernel_rfl) (by kernel_rfl) ?hQ15 ?hy15 (by assumption) ?_
      case hi15 => (simp only [List.getElem?_toArray, List.getElem?_cons_succ, List.getElem?_cons_zero]; try rfl)
      case hQ15 => exact fun _ _ _ h => h
      case hy15 => (refine Or.inl ⟨by rfl, ?_⟩; intro wq hSw; (try dsimp only at hSw); go_simp; (try with_reducible rfl))
      (try simp only [Act.put, List.setIfInBounds_toArray, List.set_cons_zero, List.set_cons_succ])
      refine wpAnyT_take (i := 15) (oi := ?oi16) (v := ?v16) ?hi16 (by kernel_rfl) (by kernel_rfl) (by kernel_rfl) (by kernel_rfl) (by kernel_rfl) ?hQ16 ?hy16 (by assumption) ?_
      case hi16 => (simp only [List.getElem?_toArray, List.getElem?_cons_succ, List.getElem?_cons_zero]; try rfl)
      case hQ16 => exact fun _ _ _ h => h
      case hy16 => (refine Or.inl ⟨by rfl, ?_⟩; intro wq hSw; (try dsimp only at hSw); go_simp; (try with_reducible rfl))
      (try simp only [Act.put, List.setIfInBounds_toArray, List.set_cons_zero, List.set_cons_succ])
      refine wpAnyT_ready (rs := [16]) (by kernel_rfl) (by simp) ?_
      refine AllReadyT.last (o := ?oi17) ?hi17 ?ti17
      case hi17 => (simp only [List.getElem?_toArray, List.getElem?_cons_succ, List.getElem?_cons_zero]; try rfl)
      case ti17 =>
        intro KQ hKQ
        go_simp
        refine hKQ.out _ _ ?_
        clear hKQ KQ hHeld
        (try simp only [Act.put, List.setIfInBounds_toArray, List.set_cons_zero, List.set_cons_succ])
        refine wpAnyT_done (by kernel_rfl) ?_ _
        have H2 := Lib.hid (H1.out.set 1 rfl 0 (.slice A1 (na + 1) k1'))
        clear rt t0 t1 ft0 ft1 ra a0 a1 fa0 fa1 rb b0 b1 fb0 fb1 q0 q1 hpb
        obtain ⟨rt, t0, t1, ft0, ft1⟩ := H2.out.two 0 rfl
        obtain ⟨ra, a0, a1, fa0, fa1⟩ := H2.out.two 1 rfl
        obtain ⟨rb, b0, b1, fb0, fb1⟩ := H2.out.two 2 rfl
        obtain ⟨hpb, q0, q1⟩ := ownP_at (H2.out.own 0 rfl) HQ.out
        obtain ⟨hbb, u0, u1⟩ := ownP_at (H2.out.own 4 rfl) HQ2.out
        rw [Nat.zero_mul] at u0 u1
        rw [Nat.zero_add] at u1
        have fq0 := (H2.out.own 0 rfl).frozenAt (i * 2)
        have fq1 := (H2.out.own 0 rfl).frozenAt (i * 2 + 1)
        generalize w1.setCell ⟨a.r, 0, none⟩ (.slice A1 (na + 1) k1') = W2 at *
        go_wp2
        refine wp_region_T 12 (S := (fun w' => w'.cell? ⟨t.r, 0, none⟩ = some (.slice (some ⟨pb, 0, none⟩) n c) ∧ w'.cell? ⟨b.r, 0, none⟩ = some (.slice (some ⟨bb, 0, none⟩) nb cb) ∧ w'.cell? ⟨bb, 0, none⟩ = some (.slice q'.A q'.n q'.c) ∧ w'.cell? ⟨bb, 1, none⟩ = some (.int .i64 q'.id))) (by kernel_rfl) (by simp [go_sem, ↓IntWalk.iteOmega, *]) (fun hHeld => ?_)
        refine wpAnyT_take (i := 0) (oi := ?oi201) (v := ?v201) ?hi201 (by kernel_rfl) (by kernel_rfl) (by kernel_rfl) (by kernel_rfl) (by kernel_rfl) ?hQ201 ?hy201 (by assumption) ?_
        case hi201 => (simp only [List.getElem?_toArray, List.getElem?_cons_succ, List.getElem?_cons_zero]; try rfl)
        case hQ201 => exact fun _ _ _ h => h
        case hy201 => (refine Or.inl ⟨by rfl, ?_⟩; intro wq hSw; (try dsimp only at hSw); go_simp; (try with_reducible rfl))
        (try simp only [Act.put, List.setIfInBounds_toArray, List.set_cons_zero, List.set_cons_succ])
        refine wpAnyT_take (i := 1) (oi := ?oi202) (v := ?v202) ?hi202 (by kernel_rfl) (by kernel_rfl) (by kernel_rfl) (by kernel_rfl) (by kernel_rfl) ?hQ202 ?hy202 (by assumption) ?_
        case hi202 => (simp only [List.getElem?_toArray, List.getElem?_cons_succ, List.getElem?_cons_zero]; try rfl)
        case hQ202 => exact fun _ _ _ h => h
        case hy202 => (refine Or.inl ⟨by rfl, ?_⟩; intro wq hSw; (try dsimp only at hSw); go_simp; (try with_reducible rfl))
        (try simp only [Act.put, List.setIfInBounds_toArray, List.set_cons_zero, List.set_cons_succ])
        refine wpAnyT_take (i := 2) (oi := ?oi203) (v := ?v203) ?hi203 (by kernel_rfl) (by kernel_rfl) (by kernel_rfl) (by kernel_rfl) (by kernel_rfl) ?hQ203 ?hy203 (by assumption) ?_
        case hi203 => (simp only [List.getElem?_toArray, List.getElem?_cons_succ, List.getElem?_cons_zero]; try rfl)
        case hQ203 => exact fun _ _ _ h => h
        case hy203 => (refine Or.inl ⟨by rfl, ?_⟩; intro wq hSw; (try dsimp only at hSw); go_simp; (try with_reducible rfl))
        (try simp only [Act.put, List.setIfInBounds_toArray, List.set_cons_zero, List.set_cons_succ])
        refine wpAnyT_take (i := 3) (oi := ?oi204) (v := ?v204) ?hi204 (by kernel_rfl) (by kernel_rfl) (by kernel_rfl) (by kernel_rfl) (by kernel_rfl) ?hQ204 ?hy204 (by assumption) ?_
        case hi204 => (simp only [List.getElem?_toArray, List.getElem?_cons_succ, List.getElem?_cons_zero]; try rfl)
        case hQ204 => exact fun _ _ _ h => h
        case hy204 => (refine Or.inl ⟨by rfl, ?_⟩; intro wq hSw; (try dsimp only at hSw); go_simp; (try with_reducible rfl))
        (try simp only [Act.put, List.setIfInBounds_toArray, List.set_cons_zero, List.set_cons_succ])
        refine wpAnyT_take (i := 4) (oi := ?oi205) (v := ?v205) ?hi205 (by kernel_rfl) (by kernel_rfl) (by kernel_rfl) (by kernel_rfl) (by kernel_rfl) ?hQ205 ?hy205 (by assumption) ?_
        case hi205 => (simp only [List.getElem?_toArray, List.getElem?_cons_succ, List.getElem?_cons_zero]; try rfl)
        case hQ205 => exact fun _ _ _ h => h
        case hy205 => (refine Or.inl ⟨by rfl, ?_⟩; intro wq hSw; (try dsimp only at hSw); go_simp; (try with_reducible rfl))
        (try simp only [Act.put, List.setIfInBounds_toArray, List.set_cons_zero, List.set_cons_succ])
        refine wpAnyT_take (i := 5) (oi := ?oi206) (v := ?v206) ?hi206 (by kernel_rfl) (by kernel_rfl) (by kernel_rfl) (by kernel_rfl) (by kernel_rfl) ?hQ206 ?hy206 (by assumption) ?_
        case hi206 => (simp only [List.getElem?_toArray, List.getElem?_cons_succ, List.getElem?_cons_zero]; try rfl)
        case hQ206 => exact fun _ _ _ h => h
        case hy206 => (refine Or.inl ⟨by rfl, ?_⟩; intro wq hSw; (try dsimp only at hSw); go_simp; (try with_reducible rfl))
        (try simp only [Act.put, List.setIfInBounds_toArray, List.set_cons_zero, List.set_cons_succ])
        refine wpAnyT_take (i := 6) (oi := ?oi207) (v := ?v207) ?hi207 (by kernel_rfl) (by kernel_rfl) (by kernel_rfl) (by kernel_rfl) (by kernel_rfl) ?hQ207 ?hy207 (by assumption) ?_
        case hi207 => (simp only [List.getElem?_toArray, List.getElem?_cons_succ, List.getElem?_cons_zero]; try rfl)
        case hQ207 => exact fun _ _ _ h => h
        case hy207 => (refine Or.inl ⟨by rfl, ?_⟩; intro wq hSw; (try dsimp only at hSw); go_simp; (try with_reducible rfl))
        (try simp only [Act.put, List.setIfInBounds_toArray, List.set_cons_zero, List.set_cons_succ])
        refine wpAnyT_take (i := 7) (oi := ?oi208) (v := ?v208) ?hi208 (by kernel_rfl) (by kernel_rfl) (by kernel_rfl) (by kernel_rfl) (by kernel_rfl) ?hQ208 ?hy208 (by assumption) ?_
        case hi208 => (simp only [List.getElem?_toArray, List.getElem?_cons_succ, List.getElem?_cons_zero]; try rfl)
        case hQ208 => exact fun _ _ _ h => h
        case hy208 => (refine Or.inl ⟨by rfl, ?_⟩; intro wq hSw; (try dsimp only at hSw); go_simp; (try with_reducible rfl))
        (try simp only [Act.put, List.setIfInBounds_toArray, List.set_cons_zero, List.set_cons_succ])
        refine wpAnyT_take (i := 8) (oi := ?oi209) (v := ?v209) ?hi209 (by kernel_rfl) (by kernel_rfl) (by kernel_rfl) (by kernel_rfl) (by kernel_rfl) ?hQ209 ?hy209 (by assumption) ?_
        case hi209 => (simp only [List.getElem?_toArray, List.getElem?_cons_succ, List.getElem?_cons_zero]; try rfl)
        case hQ209 => exact fun _ _ _ h => h
        case hy209 => (refine Or.inl ⟨by rfl, ?_⟩; intro wq hSw; (try dsimp only at hSw); go_simp; (try with_reducible rfl))
        (try simp only [Act.put, List.setIfInBounds_toArray, List.set_cons_zero, List.set_cons_succ])
        refine wpAnyT_take (i := 9) (oi := ?oi210) (v := ?v210) ?hi210 (by kernel_rfl) (by kernel_rfl) (by kernel_rfl) (by kernel_rfl) (by kernel_rfl) ?hQ210 ?hy210 (by assumption) ?_
        case hi210 => (simp only [List.getElem?_toArray, List.getElem?_cons_succ, List.getElem?_cons_zero]; try rfl)
        case hQ210 => exact fun _ _ _ h => h
        case hy210 => (refine Or.inl ⟨by rfl, ?_⟩; intro wq hSw; (try dsimp only at hSw); go_simp; (try with_reducible rfl))
        (try simp only [Act.put, List.setIfInBounds_toArray, List.set_cons_zero, List.set_cons_succ])
        refine wpAnyT_take (i := 10) (oi := ?oi211) (v := ?v211) ?hi211 (by kernel_rfl) (by kernel_rfl) (by kernel_rfl) (by kernel_rfl) (by kernel_rfl) ?hQ211 ?hy211 (by assumption) ?_
        case hi211 => (simp only [List.getElem?_toArray, List.getElem?_cons_succ, List.getElem?_cons_zero]; try rfl)
        case hQ211 => exact fun _ _ _ h => h
        case hy211 => (refine Or.inl ⟨by rfl, ?_⟩; intro wq hSw; (try dsimp only at hSw); go_simp; (try with_reducible rfl))
        (try simp only [Act.put, List.setIfInBounds_toArray, List.set_cons_zero, List.set_cons_succ])
        refine wpAnyT_take (i := 11) (oi := ?oi212) (v := ?v212) ?hi212 (by kernel_rfl) (by kernel_rfl) (by kernel_rfl) (by kernel_rfl) (by kernel_rfl) ?hQ212 ?hy212 (by assumption) ?_
        case hi212 => (simp only [List.getElem?_toArray, List.getElem?_cons_succ, List.getElem?_cons_zero]; try rfl)
        case hQ212 => exact fun _ _ _ h => h
        case hy212 => (refine Or.inl ⟨by rfl, ?_⟩; intro wq hSw; (try dsimp only at hSw); go_simp; (try with_reducible rfl))
        (try simp only [Act.put, List.setIfInBounds_toArray, List.set_cons_zero, List.set_cons_succ])
        refine wpAnyT_ready (rs := [12]) (by kernel_rfl) (by simp) ?_
        refine AllReadyT.last (o := ?oi213) ?hi213 ?ti213
        case hi213 => (simp only [List.getElem?_toArray, List.getElem?_cons_succ, List.getElem?_cons_zero]; try rfl)
        case ti213 =>
          intro KQ hKQ
          go_simp
          refine hKQ.out _ _ ?_
          clear hKQ KQ hHeld
          (try simp only [Act.put, List.setIfInBounds_toArray, List.set_cons_zero, List.set_cons_succ])
          refine wpAnyT_done (by kernel_rfl) ?_ _
          have H3 := Lib.hid ((H2.out.put 0 rfl (i * 2) (.slice q'.A q'.n q'.c)).put 0 rfl (i * 2 + 1) (.int .i64 q'.id))
          clear rt t0 t1 ft0 ft1 ra a0 a1 fa0 fa1 rb b0 b1 fb0 fb1 q0 q1 hpb u0 u1 hbb fq0 fq1
          obtain ⟨rt, t0, t1, ft0, ft1⟩ := H3.out.two 0 rfl
          obtain ⟨ra, a0, a1, fa0, fa1⟩ := H3.out.two 1 rfl
          obtain ⟨rb, b0, b1, fb0, fb1⟩ := H3.out.two 2 rfl
          generalize (W2.setCell ⟨pb, i * 2, none⟩ (.slice q'.A q'.n q'.c)).setCell ⟨pb, i * 2 + 1, none⟩ (.int .i64 q'.id) = W3 at *
          go_wp2_with fail
          refine Calls.mono (delP_any base bb cb nb 0 (mpl b.ps) _ (H3.out.ext (by repeat (first | exact Ext.refl' _ | assumption | apply Ext.ex' | apply Ext.al | apply Ext.drN | apply Ext.dr))|>.own 4 rfl) hnb0 (by omega) (oneCell_mpl _)) ?_
          rintro e w4 ⟨rfl, ho4, hg4⟩
          have H4 := Lib.hid ((H3.out.ext (by repeat (first | exact Ext.refl' _ | assumption | apply Ext.ex' | apply Ext.al | apply Ext.drN | apply Ext.dr))).grow 4 rfl hg4 ho4 (fun _ h => .inl h))
          clear rt t0 t1 ft0 ft1 ra a0 a1 fa0 fa1 rb b0 b1 fb0 fb1 ho4 hg4
          obtain ⟨rt, t0, t1, ft0, ft1⟩ := H4.out.two 0 rfl
          obtain ⟨ra, a0, a1, fa0, fa1⟩ := H4.out.two 1 rfl
          obtain ⟨rb, b0, b1, fb0, fb1⟩ := H4.out.two 2 rfl
          have H6 := Lib.hid (H4.out.set 2 rfl 0 (.slice (some ⟨bb, 0, none⟩) (nb - 1) cb))
          rcases HKL.out with hk0 | ⟨hka, hkb0⟩
          · obtain rfl : mb = 0 := by have := HMB.out; rw [hk0.2] at this; exact this.symm
            go_wp2
            refine bodyPost_end (v := .tuple #[]) ?_ rfl ?_
            · simp [results, Try.results67]
            exact ⟨rfl, _, _, _, ⟨three_fin (S := t.own ++ (a.own ++ b.own)) (r1 := t.r) (r2 := a.r) (r3 := b.r) (P1 := t.ps.set i q') (K1 := t.ks.take i ++ .nd a.r (.slice A1 (na + 1) k1') (.slice A2 ma da) (a.ps ++ [q]) (a.ks ++ b.ks.take 1) :: .nd b.r (.slice (some ⟨bb, 0, none⟩) (nb - 1) cb) (.slice B2 0 db) (b.ps.drop 1) (b.ks.drop 1) :: t.ks.drop (i + 2)) (P2 := a.ps ++ [q]) (K2 := a.ks ++ b.ks.take 1) (P3 := b.ps.drop 1) (K3 := b.ks.drop 1) H6.out (mpl_set _ _ _) (kid_swap HIA.out HIB.out rfl rfl) (by simp [mpl]) (by rw [hk0.2]; simp) (by rw [← mpl_drop]; simp) (by rw [hk0.2]; simp [ptl]) (by have := HN.out; simp; omega) (by have := HM.out; simp; omega) (by have := HNA.out; simp; omega) (by have := HMA.out; rw [hk0.2]; simp; omega) (by have := HNB.out; simp; omega) (by rw [hk0.2]; rfl), rfl, rfl, rfl, rfl⟩, rfl, rfl, rfl, rfl, rfl⟩
          · have hmb0 : 0 < mb := by have := HMB.out; omega
            obtain ⟨s, hs⟩ : ∃ s, b.ks[0]? = some s := ⟨_, List.getElem?_eq_getElem (by have := HMB.out; omega)⟩
            have hs1 : b.ks.take 1 = [s] := by cases hb : b.ks with | nil => rw [hb] at hs; cases hs | cons x l => rw [hb] at hs; simp at hs; subst hs; rfl
            have HS := Lib.hid hs
            have HS1 := Lib.hid hs1
            obtain ⟨b2, c2, he, _, _⟩ := own_ne0 (H6.out.own 5 rfl) hmb0
            simp only [Value.slice.injEq, true_and] at he
            obtain ⟨rfl, rfl⟩ := he
            clear hka hkb0 hs
            go_wp2
            have hs1 := HS1.out
            obtain ⟨_, s0⟩ := ownQ_at (H6.out.own 5 rfl) HS.out
            clear rt t0 t1 ft0 ft1 ra a0 a1 fa0 fa1 rb b0 b1 fb0 fb1
            obtain ⟨rt, t0, t1, ft0, ft1⟩ := H6.out.two 0 rfl
            obtain ⟨ra, a0, a1, fa0, fa1⟩ := H6.out.two 1 rfl
            obtain ⟨rb, b0, b1, fb0, fb1⟩ := H6.out.two 2 rfl
            generalize w4.setCell ⟨b.r, 0, none⟩ (.slice (some ⟨bb, 0, none⟩) (nb - 1) cb) = W6 at *
            refine wp_region_T 15 (S := (fun w' => w'.cell? ⟨a.r, 1, none⟩ = some (.slice A2 ma da) ∧ w'.cell? ⟨b.r, 1, none⟩ = some (.slice (some ⟨b2, 0, none⟩) mb db) ∧ w'.cell? ⟨b2, 0, none⟩ = some (pt s.r))) (by kernel_rfl) (by simp [go_sem, ↓IntWalk.iteOmega, *]) (fun hHeld => ?_)
            refine wpAnyT_take (i := 0) (oi := ?oi401) (v := ?v401) ?hi401 (by kernel_rfl) (by kernel_rfl) (by kernel_rfl) (by kernel_rfl) (by kernel_rfl) ?hQ401 ?hy401 (by assumption) ?_
            case hi401 => (simp only [List.getElem?_toArray, List.getElem?_cons_succ, List.getElem?_cons_zero]; try rfl)
            case hQ401 => exact fun _ _ _ h => h
            case hy401 => (refine Or.inl ⟨by rfl, ?_⟩; intro wq hSw; (try dsimp only at hSw); go_simp; (try with_reducible rfl))
            (try simp only [Act.put, List.setIfInBounds_toArray, List.set_cons_zero, List.set_cons_succ])
            refine wpAnyT_take (i := 1) (oi := ?oi402) (v := ?v402) ?hi402 (by kernel_rfl) (by kernel_rfl) (by kernel_rfl) (by kernel_rfl) (by kernel_rfl) ?hQ402 ?hy402 (by assumption) ?_
            case hi402 => (simp only [List.getElem?_toArray, List.getElem?_cons_succ, List.getElem?_cons_zero]; try rfl)
            case hQ402 => exact fun _ _ _ h => h
            case hy402 => (refine Or.inl ⟨by rfl, ?_⟩; intro wq hSw; (try dsimp only at hSw); go_simp; (try with_reducible rfl))
            (try simp only [Act.put, List.setIfInBounds_toArray, List.set_cons_zero, List.set_cons_succ])
            refine wpAnyT_take (i := 2) (oi := ?oi403) (v := ?v403) ?hi403 (by kernel_rfl) (by kernel_rfl) (by kernel_rfl) (by kernel_rfl) (by kernel_rfl) ?hQ403 ?hy403 (by assumption) ?_
            case hi403 => (simp only [List.getElem?_toArray, List.getElem?_cons_succ, List.getElem?_cons_zero]; try rfl)
            case hQ403 => exact fun _ _ _ h => h
            case hy403 => (refine Or.inl ⟨by rfl, ?_⟩; intro wq hSw; (try dsimp only at hSw); go_simp; (try with_reducible rfl))
            (try simp only [Act.put, List.setIfInBounds_toArray, List.set_cons_zero, List.set_cons_succ])
            refine wpAnyT_take (i := 3) (oi := ?oi404) (v := ?v404) ?hi404 (by kernel_rfl) (by kernel_rfl) (by kernel_rfl) (by kernel_rfl) (by kernel_rfl) ?hQ404 ?hy404 (by assumption) ?_
            case hi404 => (simp only [List.getElem?_toArray, List.getElem?_cons_succ, List.getElem?_cons_zero]; try rfl)
            case hQ404 => exact fun _ _ _ h => h
            case hy404 => (refine Or.inl ⟨by rfl, ?_⟩; intro wq hSw; (try dsimp only at hSw); go_simp; (try with_reducible rfl))
            (try simp only [Act.put, List.setIfInBounds_toArray, List.set_cons_zero, List.set_cons_succ])
            refine wpAnyT_take (i := 4) (oi := ?oi405) (v := ?v405) ?hi405 (by kernel_rfl) (by kernel_rfl) (by kernel_rfl) (by kernel_rfl) (by kernel_rfl) ?hQ405 ?hy405 (by assumption) ?_
            case hi405 => (simp only [List.getElem?_toArray, List.getElem?_cons_succ, List.getElem?_cons_zero]; try rfl)
            case hQ405 => exact fun _ _ _ h => h
            case hy405 => (refine Or.inl ⟨by rfl, ?_⟩; intro wq hSw; (try dsimp only at hSw); go_simp; (try with_reducible rfl))
            (try simp only [Act.put, List.setIfInBounds_toArray, List.set_cons_zero, List.set_cons_succ])
            refine wpAnyT_take (i := 5) (oi := ?oi406) (v := ?v406) ?hi406 (by kernel_rfl) (by kernel_rfl) (by kernel_rfl) (by kernel_rfl) (by kernel_rfl) ?hQ406 ?hy406 (by assumption) ?_
            case hi406 => (simp only [List.getElem?_toArray, List.getElem?_cons_succ, List.getElem?_cons_zero]; try rfl)
            case hQ406 => exact fun _ _ _ h => h
            case hy406 => (refine Or.inl ⟨by rfl, ?_⟩; intro wq hSw; (try dsimp only at hSw); go_simp; (try with_reducible rfl))
            (try simp only [Act.put, List.setIfInBounds_toArray, List.set_cons_zero, List.set_cons_succ])
            refine wpAnyT_take (i := 6) (oi := ?oi407) (v := ?v407) ?hi407 (by kernel_rfl) (by kernel_rfl) (by kernel_rfl) (by kernel_rfl) (by kernel_rfl) ?hQ407 ?hy407 (by assumption) ?_
            case hi407 => (simp only [List.getElem?_toArray, List.getElem?_cons_succ, List.getElem?_cons_zero]; try rfl)
            case hQ407 => exact fun _ _ _ h => h
            case hy407 => (refine Or.inl ⟨by rfl, ?_⟩; intro wq hSw; (try dsimp only at hSw); go_simp; (try with_reducible rfl))
            (try simp only [Act.put, List.setIfInBounds_toArray, List.set_cons_zero, List.set_cons_succ])
            refine wpAnyT_take (i := 7) (oi := ?oi408) (v := ?v408) ?hi408 (by kernel_rfl) (by kernel_rfl) (by kernel_rfl) (by kernel_rfl) (by kernel_rfl) ?hQ408 ?hy408 (by assumption) ?_
            case hi408 => (simp only [List.getElem?_toArray, List.getElem?_cons_succ, List.getElem?_cons_zero]; try rfl)
            case hQ408 => exact fun _ _ _ h => h
            case hy408 => (refine Or.inl ⟨by rfl, ?_⟩; intro wq hSw; (try dsimp only at hSw); go_simp; (try with_reducible rfl))
            (try simp only [Act.put, List.setIfInBounds_toArray, List.set_cons_zero, List.set_cons_succ])
            refine wpAnyT_take (i := 8) (oi := ?oi409) (v := ?v409) ?hi409 (by kernel_rfl) (by kernel_rfl) (by kernel_rfl) (by kernel_rfl) (by kernel_rfl) ?hQ409 ?hy409 (by assumption) ?_
            case hi409 => (simp only [List.getElem?_toArray, List.getElem?_cons_succ, List.getElem?_cons_zero]; try rfl)
            case hQ409 => exact fun _ _ _ h => h
            case hy409 => (refine Or.inl ⟨by rfl, ?_⟩; intro wq hSw; (try dsimp only at hSw); go_simp; (try with_reducible rfl))
            (try simp only [Act.put, List.setIfInBounds_toArray, List.set_cons_zero, List.set_cons_succ])
            refine wpAnyT_take (i := 9) (oi := ?oi410) (v := ?v410) ?hi410 (by kernel_rfl) (by kernel_rfl) (by kernel_rfl) (by kernel_rfl) (by kernel_rfl) ?hQ410 ?hy410 (by assumption) ?_
            case hi410 => (simp only [List.getElem?_toArray, List.getElem?_cons_succ, List.getElem?_cons_zero]; try rfl)
            case hQ410 => exact fun _ _ _ h => h
            case hy410 => (refine Or.inl ⟨by rfl, ?_⟩; intro wq hSw; (try dsimp only at hSw); go_simp; (try with_reducible rfl))
            (try simp only [Act.put, List.setIfInBounds_toArray, List.set_cons_zero, List.set_cons_succ])
            refine wpAnyT_take (i := 10) (oi := ?oi411) (v := ?v411) ?hi411 (by kernel_rfl) (by kernel_rfl) (by kernel_rfl) (by kernel_rfl) (by kernel_rfl) ?hQ411 ?hy411 (by assumption) ?_
            case hi411 => (simp only [List.getElem?_toArray, List.getElem?_cons_succ, List.getElem?_cons_zero]; try rfl)
            case hQ411 => exact fun _ _ _ h => h
            case hy411 => (refine Or.inl ⟨by rfl, ?_⟩; intro wq hSw; (try dsimp only at hSw); go_simp; (try with_reducible rfl))
            (try simp only [Act.put, List.setIfInBounds_toArray, List.set_cons_zero, List.set_cons_succ])
            refine wpAnyT_ready (rs := [11]) (by kernel_rfl) (by simp) ?_
            refine AllReadyT.cons (o := ?oi412) ?hi412 ?ti412 AllReadyT.nil
            case hi412 => (simp only [List.getElem?_toArray, List.getElem?_cons_succ, List.getElem?_cons_zero]; try rfl)
            case ti412 =>
              intro KQ hKQ
              go_simp
              refine hKQ.out _ _ (by simp [go_sem, ↓IntWalk.iteOmega, *]) (fun hHeld2 => ?_)
              clear hHeld hKQ KQ; have hHeld := hHeld2; clear hHeld2
              (try simp only [Act.put, List.setIfInBounds_toArray, List.set_cons_zero, List.set_cons_succ])
              refine wpAnyT_ready (rs := [12]) (by kernel_rfl) (by simp) ?_
              refine AllReadyT.cons (o := ?oi413) ?hi413 ?ti413 AllReadyT.nil
              case hi413 => (simp only [List.getElem?_toArray, List.getElem?_cons_succ, List.getElem?_cons_zero]; try rfl)
              case ti413 =>
                intro KQ hKQ
                refine step_app3 _ (by rfl) (.tmp 67) (.tmp 74) (by rfl) elPtr base (H6.out.ext (by repeat (first | exact Ext.refl' _ | assumption | apply Ext.ex' | apply Ext.al | apply Ext.drN | apply Ext.dr))).bs (.slice A2 ma da) ma (ptl (a.ks.map MT.r)) (by rfl) ((H6.out.ext (by repeat (first | exact Ext.refl' _ | assumption | apply Ext.ex' | apply Ext.al | apply Ext.drN | apply Ext.dr))).own 3 rfl) _ 1 1 [pt s.r] (by rfl) (Rd.lit _ _ _ _ _ (by rfl) (by rfl)) (by intro u hu; simp at hu; subst hu; rfl) (by unfold maxLen; omega) (by omega) ?_
                intro v7 w7 ho7 hg7 hn7
                obtain ⟨A7, k7, rfl, _, _, _⟩ := own_form2 ho7
                have H7 := Lib.hid ((H6.out.ext (by repeat (first | exact Ext.refl' _ | assumption | apply Ext.ex' | apply Ext.al | apply Ext.drN | apply Ext.dr))).grow 3 rfl hg7 ho7 hn7)
                clear rt t0 t1 ft0 ft1 ra a0 a1 fa0 fa1 rb b0 b1 fb0 fb1 s0 ho7 hg7 hn7
                obtain ⟨rt, t0, t1, ft0, ft1⟩ := H7.out.two 0 rfl
                obtain ⟨ra, a0, a1, fa0, fa1⟩ := H7.out.two 1 rfl
                obtain ⟨rb, b0, b1, fb0, fb1⟩ := H7.out.two 2 rfl
                obtain ⟨_, s0⟩ := ownQ_at (H7.out.own 5 rfl) HS.out
                refine hKQ.out _ _ (by simp [go_sem, ↓IntWalk.iteOmega, *]) (fun hHeld2 => ?_)
                clear hHeld hKQ KQ; have hHeld := hHeld2; clear hHeld2
                (try simp only [Act.put, List.setIfInBounds_toArray, List.set_cons_zero, List.set_cons_succ])
                refine wpAnyT_take (i := 13) (oi := ?oi414) (v := ?v414) ?hi414 (by kernel_rfl) (by kernel_rfl) (by kernel_rfl) (by kernel_rfl) (by kernel_rfl) ?hQ414 ?hy414 (by assumption) ?_
                case hi414 => (simp only [List.getElem?_toArray, List.getElem?_cons_succ, List.getElem?_cons_zero]; try rfl)
                case hQ414 => exact fun _ _ _ h => h
                case hy414 => (refine Or.inl ⟨by rfl, ?_⟩; intro wq hSw; (try dsimp only at hSw); go_simp; (try with_reducible rfl))
                (try simp only [Act.put, List.setIfInBounds_toArray, List.set_cons_zero, List.set_cons_succ])
                refine wpAnyT_take (i := 14) (oi := ?oi415) (v := ?v415) ?hi415 (by kernel_rfl) (by kernel_rfl) (by kernel_rfl) (by kernel_rfl) (by kernel_rfl) ?hQ415 ?hy415 (by assumption) ?_
                case hi415 => (simp only [List.getElem?_toArray, List.getElem?_cons_succ, List.getElem?_cons_zero]; try rfl)
                case hQ415 => exact fun _ _ _ h => h
                case hy415 => (refine Or.inl ⟨by rfl, ?_⟩; intro wq hSw; (try dsimp only at hSw); go_simp; (try with_reducible rfl))
                (try simp only [Act.put, List.setIfInBounds_toArray, List.set_cons_zero, List.set_cons_succ])
                refine wpAnyT_ready (rs := [15]) (by kernel_rfl) (by simp) ?_
                refine AllReadyT.last (o := ?oi416) ?hi416 ?ti416
                case hi416 => (simp only [List.getElem?_toArray, List.getElem?_cons_succ, List.getElem?_cons_zero]; try rfl)
                case ti416 =>
                  intro KQ hKQ
                  go_simp
                  refine hKQ.out _ _ ?_
                  clear hKQ KQ hHeld
                  (try simp only [Act.put, List.setIfInBounds_toArray, List.set_cons_zero, List.set_cons_succ])
                  refine wpAnyT_done (by kernel_rfl) ?_ _
                  have H8 := Lib.hid (H7.out.set 1 rfl 1 (.slice A7 (ma + 1) k7))
                  clear rt t0 t1 ft0 ft1 ra a0 a1 fa0 fa1 rb b0 b1 fb0 fb1 s0
                  obtain ⟨rt, t0, t1, ft0, ft1⟩ := H8.out.two 0 rfl
                  obtain ⟨ra, a0, a1, fa0, fa1⟩ := H8.out.two 1 rfl
                  obtain ⟨rb, b0, b1, fb0, fb1⟩ := H8.out.two 2 rfl
                  generalize w7.setCell ⟨a.r, 1, none⟩ (.slice A7 (ma + 1) k7) = W8 at *
                  go_wp2_with fail
                  refine Calls.mono (delQ_any base b2 db mb 0 (ptl (b.ks.map MT.r)) W8 (H8.out.own 5 rfl) hmb0 (by omega) (oneCell_ptl _)) ?_
                  rintro e w9 ⟨rfl, ho9, hg9⟩
                  have H9 := Lib.hid (H8.out.grow 5 rfl hg9 ho9 (fun _ h => .inl h))
                  clear rt t0 t1 ft0 ft1 ra a0 a1 fa0 fa1 rb b0 b1 fb0 fb1 ho9 hg9
                  obtain ⟨rt, t0, t1, ft0, ft1⟩ := H9.out.two 0 rfl
                  obtain ⟨ra, a0, a1, fa0, fa1⟩ := H9.out.two 1 rfl
                  obtain ⟨rb, b0, b1, fb0, fb1⟩ := H9.out.two 2 rfl
                  go_wp2
                  have H10 := H9.out.set 2 rfl 1 (.slice (some ⟨b2, 0, none⟩) (mb - 1) db)
                  refine bodyPost_end (v := .tuple #[]) ?_ rfl ?_
                  · simp [results, Try.results67]
                  exact ⟨rfl, _, _, _, ⟨three_fin (S := t.own ++ (a.own ++ b.own)) (r1 := t.r) (r2 := a.r) (r3 := b.r) (P1 := t.ps.set i q') (K1 := t.ks.take i ++ .nd a.r (.slice A1 (na + 1) k1') (.slice A7 (ma + 1) k7) (a.ps ++ [q]) (a.ks ++ b.ks.take 1) :: .nd b.r (.slice (some ⟨bb, 0, none⟩) (nb - 1) cb) (.slice (some ⟨b2, 0, none⟩) (mb - 1) db) (b.ps.drop 1) (b.ks.drop 1) :: t.ks.drop (i + 2)) (P2 := a.ps ++ [q]) (K2 := a.ks ++ b.ks.take 1) (P3 := b.ps.drop 1) (K3 := b.ks.drop 1) H10 (mpl_set _ _ _) (kid_swap HIA.out HIB.out rfl rfl) (by simp [mpl]) (by rw [hs1]; simp [ptl]) (by rw [← mpl_drop]; simp) (by rw [Nat.zero_mul, List.take_zero, List.nil_append, Nat.mul_one, Nat.zero_add, ptl_drop]) (by have := HN.out; simp; omega) (by have := HM.out; simp; omega) (by have := HNA.out; simp; omega) (by have := HMA.out; rw [hs1]; simp; omega) (by have := HNB.out; simp; omega) (by have := HMB.out; simp; omega), rfl, rfl, rfl, rfl⟩, rfl, rfl, rfl, rfl, rfl⟩

end Go.Proofs.Ytdmbgimehepfaaa
