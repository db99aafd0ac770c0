/- Two kids joined. -/
import Derived.Test.YtdmbgimehepfaaaBtH
import Derived.Test.YtdmbgimehepfaaaHld
import Derived.Deep.RegionHeld3
set_option linter.unusedSimpArgs false
set_option linter.unusedVariables false
namespace Go.Proofs.Ytdmbgimehepfaaa
open Go.RowKit


section
variable {P : Program} (w : World)
theorem step_app3 {ops : Array Oper} {o : Oper} {a : Act} {K : Act → World → Prop} {Q : Exit → Act → World → Prop} {D : Prop} (hgd : o.guard = none) (s x : Operand) {t e : TypeId} {z : Value} {size bytes : Nat}
    (ho : o.op = .call { callee := .builtin .append, args := #[s, x], argTypes := #[t, t] }) (E : El P t e z size bytes) (base : Nat) (hbase : base ≤ w.heap.size) (v : Value) (n : Nat) (xs : List Value) (hs : a.eval s = v) (hown : w.ownsRow base e size v n xs)
    (A : Option Addr) (m c : Nat) (news : List Value) (hx : a.eval x = .slice A m c) (hr : Rd w size A m news) (h1 : ∀ u ∈ news, u.oneCell' = true) (h63 : n + m ≤ maxLen) (hbytes : (n + m) * bytes ≤ 140737488355328)
    (h : ∀ v' w', w'.ownsRow base e size v' (n + m) (xs ++ news) → w.grownBy w' v.ownBlock → (∀ g, v'.ownBlock = some g → v.ownBlock = some g ∨ w.heap.size ≤ g) → K (a.put o.dst v') w') : if Region.wanted o (yielded ops a.tmps) = true then Oper.wp P o a w K Q else D := by
  have hw : Region.wanted o (yielded ops a.tmps) = true := by simp [Region.wanted, hgd]
  rw [if_pos hw]
  obtain ⟨v', w', hrun, h2, h3, h4⟩ := run_app3 (P := P) (ty := o.type) w E base hbase v n xs hown A m c news hr h1 h63 hbytes
  exact wp_runA w s x t t ho _ _ hs hx hrun (h v' w' h2 h3 h4)
end
/-- two nodes, then three, at the end of a walk -/
structure Two (base : Nat) (S : List Nat) (w W : World) (t a : MT) : Prop where
  okt : NodeOk base W t
  oka : NodeOk base W a
  nodup : (t.own ++ a.own).Nodup
  new : ∀ x ∈ t.own ++ a.own, x ∈ S ∨ w.heap.size ≤ x
  tur : Mut base S w W
structure Three (base : Nat) (S : List Nat) (w W : World) (t a b : MT) : Prop where
  okt : NodeOk base W t
  oka : NodeOk base W a
  okb : NodeOk base W b
  nodup : (t.own ++ (a.own ++ b.own)).Nodup
  new : ∀ x ∈ t.own ++ (a.own ++ b.own), x ∈ S ∨ w.heap.size ≤ x
  tur : Mut base S w W
abbrev rowP (v : Value) (n : Nat) (ps : List MP) : Rw := ⟨v, TP, 2, n, mpl ps⟩
abbrev rowQ (v : Value) (n : Nat) (ks : List MT) : Rw := ⟨v, TQ, 1, n, ptl (ks.map MT.r)⟩
theorem two_fin {base : Nat} {S : List Nat} {w W : World} {r1 r2 n1 m1 n2 m2 : Nat} {p1 k1 p2 k2 : Value} {P1 P2 : List MP} {K1 K2 : List MT} {X1 Y1 X2 Y2 : List Value} (H : Hp base S w W [⟨r1, #[p1, k1], TN⟩, ⟨r2, #[p2, k2], TN⟩] [⟨p1, TP, 2, n1, X1⟩, ⟨k1, TQ, 1, m1, Y1⟩, ⟨p2, TP, 2, n2, X2⟩, ⟨k2, TQ, 1, m2, Y2⟩])
    (x1 : X1 = mpl P1) (y1 : Y1 = ptl (K1.map MT.r)) (x2 : X2 = mpl P2) (y2 : Y2 = ptl (K2.map MT.r)) (e1 : n1 = P1.length) (e2 : m1 = K1.length) (e3 : n2 = P2.length) (e4 : m2 = K2.length) : Two base S w W (.nd r1 p1 k1 P1 K1) (.nd r2 p2 k2 P2 K2) := by
  subst e1 e2 e3 e4 x1 y1 x2 y2
  refine ⟨H.node 0 0 1 rfl rfl rfl, H.node 1 2 3 rfl rfl rfl, ?_, fun b hb => H.new b ?_, H.mu⟩
  · have hd := H.dis
    simp only [MT.own, MT.r, MT.vp, MT.vk, blks, List.map_cons, List.map_nil, List.flatMap_cons, List.flatMap_nil, List.append_nil, List.nodup_append, List.nodup_cons, List.mem_append, List.mem_cons, List.not_mem_nil, or_false] at hd ⊢
    grind
  · simp only [MT.own, MT.r, MT.vp, MT.vk, blks, List.map_cons, List.map_nil, List.flatMap_cons, List.flatMap_nil, List.append_nil, List.nodup_append, List.nodup_cons, List.mem_append, List.mem_cons, List.not_mem_nil, or_false] at hb ⊢
    grind
theorem three_fin {base : Nat} {S : List Nat} {w W : World} {r1 r2 r3 n1 m1 n2 m2 n3 m3 : Nat} {p1 k1 p2 k2 p3 k3 : Value} {P1 P2 P3 : List MP} {K1 K2 K3 : List MT} {X1 Y1 X2 Y2 X3 Y3 : List Value} (H : Hp base S w W [⟨r1, #[p1, k1], TN⟩, ⟨r2, #[p2, k2], TN⟩, ⟨r3, #[p3, k3], TN⟩] [⟨p1, TP, 2, n1, X1⟩, ⟨k1, TQ, 1, m1, Y1⟩, ⟨p2, TP, 2, n2, X2⟩, ⟨k2, TQ, 1, m2, Y2⟩, ⟨p3, TP, 2, n3, X3⟩, ⟨k3, TQ, 1, m3, Y3⟩])
    (x1 : X1 = mpl P1) (y1 : Y1 = ptl (K1.map MT.r)) (x2 : X2 = mpl P2) (y2 : Y2 = ptl (K2.map MT.r)) (x3 : X3 = mpl P3) (y3 : Y3 = ptl (K3.map MT.r)) (e1 : n1 = P1.length) (e2 : m1 = K1.length) (e3 : n2 = P2.length) (e4 : m2 = K2.length) (e5 : n3 = P3.length) (e6 : m3 = K3.length) : Three base S w W (.nd r1 p1 k1 P1 K1) (.nd r2 p2 k2 P2 K2) (.nd r3 p3 k3 P3 K3) := by
  subst e1 e2 e3 e4 e5 e6 x1 y1 x2 y2 x3 y3
  refine ⟨H.node 0 0 1 rfl rfl rfl, H.node 1 2 3 rfl rfl rfl, H.node 2 4 5 rfl rfl rfl, ?_, fun b hb => H.new b ?_, H.mu⟩
  · have hd := H.dis
    simp only [MT.own, MT.r, MT.vp, MT.vk, blks, List.map_cons, List.map_nil, List.flatMap_cons, List.flatMap_nil, List.append_nil, List.nodup_append, List.nodup_cons, List.mem_append, List.mem_cons, List.not_mem_nil, or_false] at hd ⊢
    grind
  · simp only [MT.own, MT.r, MT.vp, MT.vk, blks, List.map_cons, List.map_nil, List.flatMap_cons, List.flatMap_nil, List.append_nil, List.nodup_append, List.nodup_cons, List.mem_append, List.mem_cons, List.not_mem_nil, or_false] at hb ⊢
    grind
theorem Hp.of3 {base : Nat} {w : World} {t a b : MT} (hbw : base ≤ w.heap.size) (hT : NodeOk base w t) (hA : NodeOk base w a) (hB : NodeOk base w b) (hnd : (t.own ++ (a.own ++ b.own)).Nodup) :
    Hp base (t.own ++ (a.own ++ b.own)) w w [⟨t.r, #[t.vp, t.vk], TN⟩, ⟨a.r, #[a.vp, a.vk], TN⟩, ⟨b.r, #[b.vp, b.vk], TN⟩] [rowP t.vp t.ps.length t.ps, rowQ t.vk t.ks.length t.ks, rowP a.vp a.ps.length a.ps, rowQ a.vk a.ks.length a.ks, rowP b.vp b.ps.length b.ps, rowQ b.vk b.ks.length b.ks] := by
  have hold : ∀ x ∈ t.own ++ (a.own ++ b.own), base ≤ x ∧ x < w.heap.size ∧ ∀ c ty f, w.heap[x]? = some (.cells c ty f) → TreeT ty := by
    intro x hx
    rcases List.mem_append.1 hx with hx | hx
    · exact hT.old x hx
    · rcases List.mem_append.1 hx with hx | hx
      · exact hA.old x hx
      · exact hB.old x hx
  refine Hp.start hbw (Mut.start (fun x hx _ => (hold x hx).1) (fun x hx => (hold x hx).2.2)) ?_ ?_ ?_ ?_
  · intro x hx
    simp only [List.mem_cons, List.not_mem_nil, or_false] at hx
    rcases hx with rfl | rfl | rfl
    · exact ⟨hT.hb, hT.hp⟩
    · exact ⟨hA.hb, hA.hp⟩
    · exact ⟨hB.hb, hB.hp⟩
  · intro x hx
    simp only [List.mem_cons, List.not_mem_nil, or_false] at hx
    rcases hx with rfl | rfl | rfl | rfl | rfl | rfl
    · exact hT.op
    · exact hT.ok
    · exact hA.op
    · exact hA.ok
    · exact hB.op
    · exact hB.ok
  · simp only [MT.own, MT.r, MT.vp, MT.vk, blks, List.map_cons, List.map_nil, List.flatMap_cons, List.flatMap_nil, List.append_nil, List.nodup_append, List.nodup_cons, List.mem_append, List.mem_cons, List.not_mem_nil, or_false] at hnd ⊢
    grind
  · intro x hx
    simp only [MT.own, MT.r, MT.vp, MT.vk, blks, List.map_cons, List.map_nil, List.flatMap_cons, List.flatMap_nil, List.append_nil, List.nodup_append, List.nodup_cons, List.mem_append, List.mem_cons, List.not_mem_nil, or_false] at hx ⊢
    grind
/-- a row of kids: its cells -/
theorem Rd.kid {w : World} {A : Option Addr} {ks : List MT} {n : Nat} (h : Rd w 1 A n (ptl (ks.map MT.r))) {k : MT} {i : Nat} (hi : ks[i]? = some k) : ∃ b o, A = some ⟨b, o, none⟩ ∧ b < w.heap.size ∧ w.cell? ⟨b, o + i, none⟩ = some (pt k.r) := by
  have hlt := (List.getElem?_eq_some_iff.1 hi).1
  have hl := h.1
  simp only [ptl_length, List.length_map] at hl
  obtain ⟨b, o, hA, hb, hc⟩ := h.2 (by omega)
  exact ⟨b, o, hA, hb, hc i _ (by simp [ptl, hi])⟩
theorem own_ne0 {w : World} {base : Nat} {e : TypeId} {size n : Nat} {v : Value} {xs : List Value} (h : w.ownsRow base e size v n xs) (hn : 0 < n) : ∃ g c, v = .slice (some ⟨g, 0, none⟩) n c ∧ n ≤ c ∧ c ≤ maxLen := by
  rcases own_forms h with ⟨rfl, rfl, rfl⟩ | ⟨g, cap, cur, rfl, hB, hnc, _⟩
  · omega
  · exact ⟨g, cap, rfl, hnc, hB.hm⟩
theorem ownP_at {w : World} {base g n c : Nat} {l : List MP} (h : w.ownsRow base TP 2 (.slice (some ⟨g, 0, none⟩) n c) n (mpl l)) {i : Nat} {q : MP} (hq : l[i]? = some q) : g < w.heap.size ∧ w.cell? ⟨g, i * 2, none⟩ = some (.slice q.A q.n q.c) ∧ w.cell? ⟨g, i * 2 + 1, none⟩ = some (.int .i64 q.id) := by
  obtain ⟨hi, rfl⟩ := List.getElem?_eq_some_iff.1 hq
  have hl := h.1
  rw [mpl_length] at hl
  obtain ⟨b, o, h1, hb, x0, x1⟩ := (Rd.of_own h).pr (by omega) hi
  simp only [Option.some.injEq, Addr.mk.injEq, and_true] at h1
  obtain ⟨rfl, rfl⟩ := h1
  rw [Nat.zero_add] at x0 x1
  exact ⟨hb, x0, x1⟩
theorem ownQ_at {w : World} {base g n c : Nat} {ks : List MT} (h : w.ownsRow base TQ 1 (.slice (some ⟨g, 0, none⟩) n c) n (ptl (ks.map MT.r))) {i : Nat} {k : MT} (hk : ks[i]? = some k) : g < w.heap.size ∧ w.cell? ⟨g, i, none⟩ = some (pt k.r) := by
  obtain ⟨b, o, h1, hb, x0⟩ := (Rd.of_own h).kid hk
  simp only [Option.some.injEq, Addr.mk.injEq, and_true] at h1
  obtain ⟨rfl, rfl⟩ := h1
  rw [Nat.zero_add] at x0
  exact ⟨hb, x0⟩
theorem kid_join {K : List MT} {i : Nat} {a a' : MT} (h : K[i]? = some a) (hr : a'.r = a.r) : (ptl (K.map MT.r)).take (i + 1) ++ (ptl (K.map MT.r)).drop (i + 2) = ptl ((K.take i ++ a' :: K.drop (i + 2)).map MT.r) := by
  obtain ⟨hi, rfl⟩ := List.getElem?_eq_some_iff.1 h
  rw [ptl_take, ptl_drop, ← ptl_append, ← List.map_append, List.take_succ_eq_append_getElem hi]
  simp only [List.map_append, List.map_cons, List.map_nil, hr, List.append_assoc, List.singleton_append]
/-- what merge leaves -/
structure MergeR (base i : Nat) (w w' : World) (t a b : MT) (q : MP) (t' a' : MT) : Prop extends Two base (t.own ++ (a.own ++ b.own)) w w' t' a' where
  tr : t'.r = t.r
  ar : a'.r = a.r
  tps : t'.ps = t.ps.take i ++ t.ps.drop (i + 1)
  tks : t'.ks = t.ks.take i ++ a' :: t.ks.drop (i + 2)
  aps : a'.ps = a.ps ++ q :: b.ps
  aks : a'.ks = a.ks ++ b.ks


set_option maxRecDepth 100000 in
set_option maxHeartbeats 8000000 in
theorem merge_any (base i : Nat) (t a b : MT) (q : MP) (w : World) (hbw : base ≤ w.heap.size) (hT : NodeOk base w t) (hA : NodeOk base w a) (hB : NodeOk base w b) (hnd : (t.own ++ (a.own ++ b.own)).Nodup)
    (hia : t.ks[i]? = some a) (hib : t.ks[i + 1]? = some b) (hq : t.ps[i]? = some q) (hl1 : t.ps.length ≤ 1048575) (hl2 : t.ks.length = t.ps.length + 1) (hl3 : a.ps.length + b.ps.length + 1 ≤ 1048576) (hl4 : a.ks.length + b.ks.length ≤ 1048576) :
    Calls Try.prog 68 #[pt t.r, .int .i64 i] w fun e w' => e = .returned (.tuple #[]) ∧ ∃ t' a', MergeR base i w w' t a b q t' a' := by
  have H0 := Hp.of3 hbw hT hA hB hnd
  have hip : i < t.ps.length := (List.getElem?_eq_some_iff.1 hq).1
  have hqq : t.ps[i] = q := by rw [List.getElem?_eq_getElem hip] at hq; exact Option.some.inj hq
  obtain ⟨pb, c, hvp, hc, _⟩ := own_ne0 hT.op (by omega)
  obtain ⟨kb, d, hvk, hd, _⟩ := own_ne0 hT.ok (by omega)
  obtain ⟨B1, cb, hbp, hcb, _, _⟩ := own_form2 hB.op
  obtain ⟨B2, db, hbk, hdb, _, _⟩ := own_form2 hB.ok
  rw [hvp, hvk, hbp, hbk] at H0
  obtain ⟨pb', o', h1, hpb, q0, q1⟩ := (Rd.of_own (H0.own 0 rfl)).pr rfl hip
  simp only [Option.some.injEq, Addr.mk.injEq, and_true] at h1
  obtain ⟨rfl, rfl⟩ := h1
  rw [hqq, Nat.zero_add] at q0 q1
  obtain ⟨kb', o', h1, hkb, k0⟩ := (Rd.of_own (H0.own 1 rfl)).kid hia
  simp only [Option.some.injEq, Addr.mk.injEq, and_true] at h1
  obtain ⟨rfl, rfl⟩ := h1
  obtain ⟨kb', o', h1, _, k1⟩ := (Rd.of_own (H0.own 1 rfl)).kid hib
  simp only [Option.some.injEq, Addr.mk.injEq, and_true] at h1
  obtain ⟨rfl, rfl⟩ := h1
  rw [Nat.zero_add] at k0 k1
  have HL2 := Lib.hid hl2
  obtain ⟨n, hn⟩ : ∃ n, t.ps.length = n := ⟨_, rfl⟩
  obtain ⟨m, hm⟩ : ∃ m, t.ks.length = m := ⟨_, rfl⟩
  obtain ⟨nb, hnb⟩ : ∃ nb, b.ps.length = nb := ⟨_, rfl⟩
  obtain ⟨mb, hmb⟩ : ∃ mb, b.ks.length = mb := ⟨_, rfl⟩
  rw [hn] at H0 hl1 hip hl2
  rw [hm] at H0 hl2
  rw [hnb] at H0 hl3
  rw [hmb] at H0 hl4
  have H0 := Lib.hid H0
  have him : i + 1 < m := by omega
  have hm6 : m ≤ 1048576 := by omega
  have HN := Lib.hid hn
  have HM := Lib.hid hm
  have HNB := Lib.hid hnb
  have HMB := Lib.hid hmb
  have HIA := Lib.hid hia
  have HQ := Lib.hid hq
  have HIB := Lib.hid hib
  have HLL := Lib.hid hl2
  have hw1 : IntKind.i64.wrap ((i : Int) + 1) = (i : Int) + 1 := IntWalk.i64_in _ (by omega)
  have hw2 : IntKind.i64.wrap ((i : Int) + 2) = (i : Int) + 2 := IntWalk.i64_in _ (by omega)
  have hi1 : (0 : Int) ≤ (i : Int) + 1 := by omega
  have hi2 : (i : Int) + 1 < (m : Int) := by omega
  have hi3 : (i : Int) < (m : Int) := by omega
  obtain ⟨rt, t0, t1, ft0, ft1⟩ := H0.out.two 0 rfl
  obtain ⟨ra, a0, a1, fa0, fa1⟩ := H0.out.two 1 rfl
  obtain ⟨rb, b0, b1, fb0, fb1⟩ := H0.out.two 2 rfl
  clear hT hA hB hnd hia hib hq hqq hvp hvk hbp hbk hl2 hn hm hnb hmb
  go_enter Try.func68, Try.ntmps68
  go_wp2
  go_quiet (fail)
  go_wp2
  refine wp_region_T 21 (S := (fun w' => w'.cell? ⟨t.r, 0, none⟩ = some (.slice (some ⟨pb, 0, none⟩) n c) ∧ w'.cell? ⟨pb, i * 2, none⟩ = some (.slice q.A q.n q.c) ∧ w'.cell? ⟨pb, i * 2 + 1, none⟩ = some (.int .i64 q.id) ∧ w'.cell? ⟨a.r, 0, none⟩ = some a.vp ∧ w'.cell? ⟨b.r, 0, none⟩ = some (.slice B1 nb cb))) (by kernel_rfl) (by simp [go_sem, ↓IntWalk.iteOmega, *]) (fun hHeld => ?_)
  refine wpAnyT_take (i := 0) (oi := ?oi1) (v := ?v1) ?hi1 (by kernel_rfl) (by kernel_rfl) (by kernel_rfl) (by kernel_rfl) (by kernel_rfl) ?hQ1 ?hy1 (by assumption) ?_
  case hi1 => (simp only [List.getElem?_toArray, List.getElem?_cons_succ, List.getElem?_cons_zero]; try rfl)
  case hQ1 => exact fun _ _ _ h => h
  case hy1 => (refine Or.inl ⟨by rfl, ?_⟩; intro wq hSw; (try dsimp only at hSw); go_simp; (try with_reducible rfl))
  (try simp only [Act.put, List.setIfInBounds_toArray, List.set_cons_zero, List.set_cons_succ])
  refine wpAnyT_take (i := 1) (oi := ?oi2) (v := ?v2) ?hi2 (by kernel_rfl) (by kernel_rfl) (by kernel_rfl) (by kernel_rfl) (by kernel_rfl) ?hQ2 ?hy2 (by assumption) ?_
  case hi2 => (simp only [List.getElem?_toArray, List.getElem?_cons_succ, List.getElem?_cons_zero]; try rfl)
  case hQ2 => exact fun _ _ _ h => h
  case hy2 => (refine Or.inl ⟨by rfl, ?_⟩; intro wq hSw; (try dsimp only at hSw); go_simp; (try with_reducible rfl))
  (try simp only [Act.put, List.setIfInBounds_toArray, List.set_cons_zero, List.set_cons_succ])
  refine wpAnyT_take (i := 2) (oi := ?oi3) (v := ?v3) ?hi3 (by kernel_rfl) (by kernel_rfl) (by kernel_rfl) (by kernel_rfl) (by kernel_rfl) ?hQ3 ?hy3 (by assumption) ?_
  case hi3 => (simp only [List.getElem?_toArray, List.getElem?_cons_succ, List.getElem?_cons_zero]; try rfl)
  case hQ3 => exact fun _ _ _ h => h
  case hy3 => (refine Or.inl ⟨by rfl, ?_⟩; intro wq hSw; (try dsimp only at hSw); go_simp; (try with_reducible rfl))
  (try simp only [Act.put, List.setIfInBounds_toArray, List.set_cons_zero, List.set_cons_succ])
  refine wpAnyT_take (i := 3) (oi := ?oi4) (v := ?v4) ?hi4 (by kernel_rfl) (by kernel_rfl) (by kernel_rfl) (by kernel_rfl) (by kernel_rfl) ?hQ4 ?hy4 (by assumption) ?_
  case hi4 => (simp only [List.getElem?_toArray, List.getElem?_cons_succ, List.getElem?_cons_zero]; try rfl)
  case hQ4 => exact fun _ _ _ h => h
  case hy4 => (refine Or.inl ⟨by rfl, ?_⟩; intro wq hSw; (try dsimp only at hSw); go_simp; (try with_reducible rfl))
  (try simp only [Act.put, List.setIfInBounds_toArray, List.set_cons_zero, List.set_cons_succ])
  refine wpAnyT_take (i := 4) (oi := ?oi5) (v := ?v5) ?hi5 (by kernel_rfl) (by kernel_rfl) (by kernel_rfl) (by kernel_rfl) (by kernel_rfl) ?hQ5 ?hy5 (by assumption) ?_
  case hi5 => (simp only [List.getElem?_toArray, List.getElem?_cons_succ, List.getElem?_cons_zero]; try rfl)
  case hQ5 => exact fun _ _ _ h => h
  case hy5 => (refine Or.inl ⟨by rfl, ?_⟩; intro wq hSw; (try dsimp only at hSw); go_simp; (try with_reducible rfl))
  (try simp only [Act.put, List.setIfInBounds_toArray, List.set_cons_zero, List.set_cons_succ])
  refine wpAnyT_take (i := 5) (oi := ?oi6) (v := ?v6) ?hi6 (by kernel_rfl) (by kernel_rfl) (by kernel_rfl) (by kernel_rfl) (by kernel_rfl) ?hQ6 ?hy6 (by assumption) ?_
  case hi6 => (simp only [List.getElem?_toArray, List.getElem?_cons_succ, List.getElem?_cons_zero]; try rfl)
  case hQ6 => exact fun _ _ _ h => h
  case hy6 => (refine Or.inl ⟨by rfl, ?_⟩; intro wq hSw; (try dsimp only at hSw); go_simp; (try with_reducible rfl))
  (try simp only [Act.put, List.setIfInBounds_toArray, List.set_cons_zero, List.set_cons_succ])
  refine wpAnyT_take (i := 6) (oi := ?oi7) (v := ?v7) ?hi7 (by kernel_rfl) (by kernel_rfl) (by kernel_rfl) (by kernel_rfl) (by kernel_rfl) ?hQ7 ?hy7 (by assumption) ?_
  case hi7 => (simp only [List.getElem?_toArray, List.getElem?_cons_succ, List.getElem?_cons_zero]; try rfl)
  case hQ7 => exact fun _ _ _ h => h
  case hy7 => (refine Or.inl ⟨by rfl, ?_⟩; intro wq hSw; (try dsimp only at hSw); go_simp; (try with_reducible rfl))
  (try simp only [Act.put, List.setIfInBounds_toArray, List.set_cons_zero, List.set_cons_succ])
  refine wpAnyT_take (i := 7) (oi := ?oi8) (v := ?v8) ?hi8 (by kernel_rfl) (by kernel_rfl) (by kernel_rfl) (by kernel_rfl) (by kernel_rfl) ?hQ8 ?hy8 (by assumption) ?_
  case hi8 => (simp only [List.getElem?_toArray, List.getElem?_cons_succ, List.getElem?_cons_zero]; try rfl)
  case hQ8 => exact fun _ _ _ h => h
  case hy8 => (refine Or.inl ⟨by rfl, ?_⟩; intro wq hSw; (try dsimp only at hSw); go_simp; (try with_reducible rfl))
  (try simp only [Act.put, List.setIfInBounds_toArray, List.set_cons_zero, List.set_cons_succ])
  refine wpAnyT_take (i := 8) (oi := ?oi9) (v := ?v9) ?hi9 (by kernel_rfl) (by kernel_rfl) (by kernel_rfl) (by kernel_rfl) (by kernel_rfl) ?hQ9 ?hy9 (by assumption) ?_
  case hi9 => (simp only [List.getElem?_toArray, List.getElem?_cons_succ, List.getElem?_cons_zero]; try rfl)
  case hQ9 => exact fun _ _ _ h => h
  case hy9 => (refine Or.inl ⟨by rfl, ?_⟩; intro wq hSw; (try dsimp only at hSw); go_simp; (try with_reducible rfl))
  (try simp only [Act.put, List.setIfInBounds_toArray, List.set_cons_zero, List.set_cons_succ])
  refine wpAnyT_take (i := 9) (oi := ?oi10) (v := ?v10) ?hi10 (by kernel_rfl) (by kernel_rfl) (by kernel_rfl) (by kernel_rfl) (by kernel_rfl) ?hQ10 ?hy10 (by assumption) ?_
  case hi10 => (simp only [List.getElem?_toArray, List.getElem?_cons_succ, List.getElem?_cons_zero]; try rfl)
  case hQ10 => exact fun _ _ _ h => h
  case hy10 => (refine Or.inl ⟨by rfl, ?_⟩; intro wq hSw; (try dsimp only at hSw); go_simp; (try with_reducible rfl))
  (try simp only [Act.put, List.setIfInBounds_toArray, List.set_cons_zero, List.set_cons_succ])
  refine wpAnyT_take (i := 10) (oi := ?oi11) (v := ?v11) ?hi11 (by kernel_rfl) (by kernel_rfl) (by kernel_rfl) (by kernel_rfl) (by kernel_rfl) ?hQ11 ?hy11 (by assumption) ?_
  case hi11 => (simp only [List.getElem?_toArray, List.getElem?_cons_succ, List.getElem?_cons_zero]; try rfl)
  case hQ11 => exact fun _ _ _ h => h
  case hy11 => (refine Or.inl ⟨by rfl, ?_⟩; intro wq hSw; (try dsimp only at hSw); go_simp; (try with_reducible rfl))
  (try simp only [Act.put, List.setIfInBounds_toArray, List.set_cons_zero, List.set_cons_succ])
  refine wpAnyT_take (i := 11) (oi := ?oi12) (v := ?v12) ?hi12 (by kernel_rfl) (by kernel_rfl) (by kernel_rfl) (by kernel_rfl) (by kernel_rfl) ?hQ12 ?hy12 (by assumption) ?_
  case hi12 => (simp only [List.getElem?_toArray, List.getElem?_cons_succ, List.getElem?_cons_zero]; try rfl)
  case hQ12 => exact fun _ _ _ h => h
  case hy12 => (refine Or.inl ⟨by rfl, ?_⟩; intro wq hSw; (try dsimp only at hSw); go_simp; (try with_reducible rfl))
  (try simp only [Act.put, List.setIfInBounds_toArray, List.set_cons_zero, List.set_cons_succ])
  refine wpAnyT_take (i := 14) (oi := ?oi13) (v := ?v13) ?hi13 (by kernel_rfl) (by kernel_rfl) (by kernel_rfl) (by kernel_rfl) (by kernel_rfl) ?hQ13 ?hy13 (by assumption) ?_
  case hi13 => (simp only [List.getElem?_toArray, List.getElem?_cons_succ, List.getElem?_cons_zero]; try rfl)
  case hQ13 => exact fun _ _ _ h => h
  case hy13 => (refine Or.inl ⟨by rfl, ?_⟩; intro wq hSw; (try dsimp only at hSw); go_simp; (try with_reducible rfl))
  (try simp only [Act.put, List.setIfInBounds_toArray, List.set_cons_zero, List.set_cons_succ])
  refine wpAnyT_take (i := 15) (oi := ?oi14) (v := ?v14) ?hi14 (by kernel_rfl) (by kernel_rfl) (by kernel_rfl) (by kernel_rfl) (by kernel_rfl) ?hQ14 ?hy14 (by assumption) ?_
  case hi14 => (simp only [List.getElem?_toArray, List.getElem?_cons_succ, List.getElem?_cons_zero]; try rfl)
  case hQ14 => exact fun _ _ _ h => h
  case hy14 => (refine Or.inl ⟨by rfl, ?_⟩; intro wq hSw; (try dsimp only at hSw); go_simp; (try with_reducible rfl))
  (try simp only [Act.put, List.setIfInBounds_toArray, List.set_cons_zero, List.set_cons_succ])
  refine wpAnyT_take (i := 16) (oi := ?oi15) (v := ?v15) ?hi15 (by kernel_rfl) (by kernel_rfl) (by kernel_rfl) (by kernel_rfl) (by kernel_rfl) ?hQ15 ?hy15 (by assumption) ?_
  case hi15 => (simp only [List.getElem?_toArray, List.getElem?_cons_succ, List.getElem?_cons_zero]; try rfl)
  case hQ15 => exact fun _ _ _ h => h
  case hy15 => (refine Or.inl ⟨by rfl, ?_⟩; intro wq hSw; (try dsimp only at hSw); go_simp; (try with_reducible rfl))
  (try simp only [Act.put, List.setIfInBounds_toArray, List.set_cons_zero, List.set_cons_succ])
  refine wpAnyT_take (i := 17) (oi := ?oi16) (v := ?v16) ?hi16 (by kernel_rfl) (by kernel_rfl) (by kernel_rfl) (by kernel_rfl) (by kernel_rfl) ?hQ16 ?hy16 (by assumption) ?_
  case hi16 => (simp only [List.getElem?_toArray, List.getElem?_cons_succ, List.getElem?_cons_zero]; try rfl)
  case hQ16 => exact fun _ _ _ h => h
  case hy16 => (refine Or.inl ⟨by rfl, ?_⟩; intro wq hSw; (try dsimp only at hSw); go_simp; (try with_reducible rfl))
  (try simp only [Act.put, List.setIfInBounds_toArray, List.set_cons_zero, List.set_cons_succ])
  refine wpAnyT_ready (rs := [12]) (by kernel_rfl) (by simp) ?_
  refine AllReadyT.cons (o := ?oi17) ?hi17 ?ti17 AllReadyT.nil
  case hi17 => (simp only [List.getElem?_toArray, List.getElem?_cons_succ, List.getElem?_cons_zero]; try rfl)
  case ti17 =>
    intro KQ hKQ
    go_simp
    refine hKQ.out _ _ (by simp [go_sem, ↓IntWalk.iteOmega, *]) (fun hHeld2 => ?_)
    clear hHeld hKQ KQ; have hHeld := hHeld2; clear hHeld2
    (try simp only [Act.put, List.setIfInBounds_toArray, List.set_cons_zero, List.set_cons_succ])
    refine wpAnyT_ready (rs := [13]) (by kernel_rfl) (by simp) ?_
    refine AllReadyT.cons (o := ?oi18) ?hi18 ?ti18 AllReadyT.nil
    case hi18 => (simp only [List.getElem?_toArray, List.getElem?_cons_succ, List.getElem?_cons_zero]; try rfl)
    case ti18 =>
      intro KQ hKQ
      refine step_app3 _ (by rfl) (.tmp 25) (.tmp 33) (by rfl) elPair base (H0.out.ext (by repeat (first | exact Ext.refl' _ | assumption | apply Ext.ex' | apply Ext.al | apply Ext.drN | apply Ext.dr))).bs a.vp a.ps.length (mpl a.ps) (by rfl) ((H0.out.ext (by repeat (first | exact Ext.refl' _ | assumption | apply Ext.ex' | apply Ext.al | apply Ext.drN | apply Ext.dr))).own 2 rfl) _ 1 1 (mp2 q) (by rfl) (Rd.lit _ _ _ _ _ (by rfl) (by rfl)) (by intro u hu; simp [mp2] at hu; rcases hu with rfl | rfl <;> rfl) (by unfold maxLen; omega) (by omega) ?_
      intro v1 w1 ho1 hg1 hn1
      have H1 := Lib.hid ((H0.out.ext (by repeat (first | exact Ext.refl' _ | assumption | apply Ext.ex' | apply Ext.al | apply Ext.drN | apply Ext.dr))).grow 2 rfl hg1 ho1 hn1)
      clear rt t0 t1 ft0 ft1 ra a0 a1 fa0 fa1 rb b0 b1 fb0 fb1 q0 q1 hpb ho1 hg1 hn1
      obtain ⟨rt, t0, t1, ft0, ft1⟩ := H1.out.two 0 rfl
      obtain ⟨ra, a0, a1, fa0, fa1⟩ := H1.out.two 1 rfl
      obtain ⟨rb, b0, b1, fb0, fb1⟩ := H1.out.two 2 rfl
      obtain ⟨hpb, q0, q1⟩ := ownP_at (H1.out.own 0 rfl) HQ.out
      refine hKQ.out _ _ (by simp [go_sem, ↓IntWalk.iteOmega, *]) (fun hHeld2 => ?_)
      clear hHeld hKQ KQ; have hHeld := hHeld2; clear hHeld2
      (try simp only [Act.put, List.setIfInBounds_toArray, List.set_cons_zero, List.set_cons_succ])
      refine wpAnyT_ready (rs := [18]) (by kernel_rfl) (by simp) ?_
      refine AllReadyT.cons (o := ?oi19) ?hi19 ?ti19 AllReadyT.nil
      case hi19 => (simp only [List.getElem?_toArray, List.getElem?_cons_succ, List.getElem?_cons_zero]; try rfl)
      case ti19 =>
        intro KQ hKQ
        refine step_app3 _ (by rfl) (.tmp 34) (.tmp 38) (by rfl) elPair base H1.out.bs v1 (a.ps.length + 1) (mpl a.ps ++ mp2 q) (by rfl) (H1.out.own 2 rfl) B1 nb cb (mpl b.ps) (by rfl) (Rd.of_own (H1.out.own 4 rfl)) (oneCell_mpl _) (by unfold maxLen; omega) (by omega) ?_
        intro v2 w2 ho2 hg2 hn2
        obtain ⟨A2, k2, rfl, _, _, _⟩ := own_form2 ho2
        have H2 := Lib.hid (H1.out.grow 2 rfl hg2 ho2 hn2)
        clear rt t0 t1 ft0 ft1 ra a0 a1 fa0 fa1 rb b0 b1 fb0 fb1 q0 q1 hpb ho2 hg2 hn2
        obtain ⟨rt, t0, t1, ft0, ft1⟩ := H2.out.two 0 rfl
        obtain ⟨ra, a0, a1, fa0, fa1⟩ := H2.out.two 1 rfl
        obtain ⟨rb, b0, b1, fb0, fb1⟩ := H2.out.two 2 rfl
        obtain ⟨hpb, q0, q1⟩ := ownP_at (H2.out.own 0 rfl) HQ.out
        refine hKQ.out _ _ (by simp [go_sem, ↓IntWalk.iteOmega, *]) (fun hHeld2 => ?_)
        clear hHeld hKQ KQ; have hHeld := hHeld2; clear hHeld2
        (try simp only [Act.put, List.setIfInBounds_toArray, List.set_cons_zero, List.set_cons_succ])
        refine wpAnyT_take (i := 19) (oi := ?oi20) (v := ?v20) ?hi20 (by kernel_rfl) (by kernel_rfl) (by kernel_rfl) (by kernel_rfl) (by kernel_rfl) ?hQ20 ?hy20 (by assumption) ?_
        case hi20 => (simp only [List.getElem?_toArray, List.getElem?_cons_succ, List.getElem?_cons_zero]; try rfl)
        case hQ20 => exact fun _ _ _ h => h
        case hy20 => (refine Or.inl ⟨by rfl, ?_⟩; intro wq hSw; (try dsimp only at hSw); go_simp; (try with_reducible rfl))
        (try simp only [Act.put, List.setIfInBounds_toArray, List.set_cons_zero, List.set_cons_succ])
        refine wpAnyT_take (i := 20) (oi := ?oi21) (v := ?v21) ?hi21 (by kernel_rfl) (by kernel_rfl) (by kernel_rfl) (by kernel_rfl) (by kernel_rfl) ?hQ21 ?hy21 (by assumption) ?_
        case hi21 => (simp only [List.getElem?_toArray, List.getElem?_cons_succ, List.getElem?_cons_zero]; try rfl)
        case hQ21 => exact fun _ _ _ h => h
        case hy21 => (refine Or.inl ⟨by rfl, ?_⟩; intro wq hSw; (try dsimp only at hSw); go_simp; (try with_reducible rfl))
        (try simp only [Act.put, List.setIfInBounds_toArray, List.set_cons_zero, List.set_cons_succ])
        refine wpAnyT_ready (rs := [21]) (by kernel_rfl) (by simp) ?_
        refine AllReadyT.last (o := ?oi22) ?hi22 ?ti22
        case hi22 => (simp only [List.getElem?_toArray, List.getElem?_cons_succ, List.getElem?_cons_zero]; try rfl)
        case ti22 =>
          intro KQ hKQ
          go_simp
          refine hKQ.out _ _ ?_
          clear hKQ KQ hHeld
          (try simp only [Act.put, List.setIfInBounds_toArray, List.set_cons_zero, List.set_cons_succ])
          refine wpAnyT_done (by kernel_rfl) ?_ _
          have H3 := Lib.hid (H2.out.set 1 rfl 0 (.slice A2 (a.ps.length + 1 + nb) k2))
          clear rt t0 t1 ft0 ft1 ra a0 a1 fa0 fa1 rb b0 b1 fb0 fb1 q0 q1 hpb
          obtain ⟨rt, t0, t1, ft0, ft1⟩ := H3.out.two 0 rfl
          obtain ⟨ra, a0, a1, fa0, fa1⟩ := H3.out.two 1 rfl
          obtain ⟨rb, b0, b1, fb0, fb1⟩ := H3.out.two 2 rfl
          generalize w2.setCell ⟨a.r, 0, none⟩ (.slice A2 (a.ps.length + 1 + nb) k2) = W3 at *
          go_wp2
          refine wp_region_T 12 (S := (fun w' => w'.cell? ⟨a.r, 1, none⟩ = some a.vk ∧ w'.cell? ⟨b.r, 1, none⟩ = some (.slice B2 mb db))) (by kernel_rfl) (by simp [go_sem, ↓IntWalk.iteOmega, *]) (fun hHeld => ?_)
          refine wpAnyT_take (i := 0) (oi := ?oi101) (v := ?v101) ?hi101 (by kernel_rfl) (by kernel_rfl) (by kernel_rfl) (by kernel_rfl) (by kernel_rfl) ?hQ101 ?hy101 (by assumption) ?_
          case hi101 => (simp only [List.getElem?_toArray, List.getElem?_cons_succ, List.getElem?_cons_zero]; try rfl)
          case hQ101 => exact fun _ _ _ h => h
          case hy101 => (refine Or.inl ⟨by rfl, ?_⟩; intro wq hSw; (try dsimp only at hSw); go_simp; (try with_reducible rfl))
          (try simp only [Act.put, List.setIfInBounds_toArray, List.set_cons_zero, List.set_cons_succ])
          refine wpAnyT_take (i := 1) (oi := ?oi102) (v := ?v102) ?hi102 (by kernel_rfl) (by kernel_rfl) (by kernel_rfl) (by kernel_rfl) (by kernel_rfl) ?hQ102 ?hy102 (by assumption) ?_
          case hi102 => (simp only [List.getElem?_toArray, List.getElem?_cons_succ, List.getElem?_cons_zero]; try rfl)
          case hQ102 => exact fun _ _ _ h => h
          case hy102 => (refine Or.inl ⟨by rfl, ?_⟩; intro wq hSw; (try dsimp only at hSw); go_simp; (try with_reducible rfl))
          (try simp only [Act.put, List.setIfInBounds_toArray, List.set_cons_zero, List.set_cons_succ])
          refine wpAnyT_take (i := 2) (oi := ?oi103) (v := ?v103) ?hi103 (by kernel_rfl) (by kernel_rfl) (by kernel_rfl) (by kernel_rfl) (by kernel_rfl) ?hQ103 ?hy103 (by assumption) ?_
          case hi103 => (simp only [List.getElem?_toArray, List.getElem?_cons_succ, List.getElem?_cons_zero]; try rfl)
          case hQ103 => exact fun _ _ _ h => h
          case hy103 => (refine Or.inl ⟨by rfl, ?_⟩; intro wq hSw; (try dsimp only at hSw); go_simp; (try with_reducible rfl))
          (try simp only [Act.put, List.setIfInBounds_toArray, List.set_cons_zero, List.set_cons_succ])
          refine wpAnyT_take (i := 3) (oi := ?oi104) (v := ?v104) ?hi104 (by kernel_rfl) (by kernel_rfl) (by kernel_rfl) (by kernel_rfl) (by kernel_rfl) ?hQ104 ?hy104 (by assumption) ?_
          case hi104 => (simp only [List.getElem?_toArray, List.getElem?_cons_succ, List.getElem?_cons_zero]; try rfl)
          case hQ104 => exact fun _ _ _ h => h
          case hy104 => (refine Or.inl ⟨by rfl, ?_⟩; intro wq hSw; (try dsimp only at hSw); go_simp; (try with_reducible rfl))
          (try simp only [Act.put, List.setIfInBounds_toArray, List.set_cons_zero, List.set_cons_succ])
          refine wpAnyT_take (i := 4) (oi := ?oi105) (v := ?v105) ?hi105 (by kernel_rfl) (by kernel_rfl) (by kernel_rfl) (by kernel_rfl) (by kernel_rfl) ?hQ105 ?hy105 (by assumption) ?_
          case hi105 => (simp only [List.getElem?_toArray, List.getElem?_cons_succ, List.getElem?_cons_zero]; try rfl)
          case hQ105 => exact fun _ _ _ h => h
          case hy105 => (refine Or.inl ⟨by rfl, ?_⟩; intro wq hSw; (try dsimp only at hSw); go_simp; (try with_reducible rfl))
          (try simp only [Act.put, List.setIfInBounds_toArray, List.set_cons_zero, List.set_cons_succ])
          refine wpAnyT_take (i := 5) (oi := ?oi106) (v := ?v106) ?hi106 (by kernel_rfl) (by kernel_rfl) (by kernel_rfl) (by kernel_rfl) (by kernel_rfl) ?hQ106 ?hy106 (by assumption) ?_
          case hi106 => (simp only [List.getElem?_toArray, List.getElem?_cons_succ, List.getElem?_cons_zero]; try rfl)
          case hQ106 => exact fun _ _ _ h => h
          case hy106 => (refine Or.inl ⟨by rfl, ?_⟩; intro wq hSw; (try dsimp only at hSw); go_simp; (try with_reducible rfl))
          (try simp only [Act.put, List.setIfInBounds_toArray, List.set_cons_zero, List.set_cons_succ])
          refine wpAnyT_take (i := 6) (oi := ?oi107) (v := ?v107) ?hi107 (by kernel_rfl) (by kernel_rfl) (by kernel_rfl) (by kernel_rfl) (by kernel_rfl) ?hQ107 ?hy107 (by assumption) ?_
          case hi107 => (simp only [List.getElem?_toArray, List.getElem?_cons_succ, List.getElem?_cons_zero]; try rfl)
          case hQ107 => exact fun _ _ _ h => h
          case hy107 => (refine Or.inl ⟨by rfl, ?_⟩; intro wq hSw; (try dsimp only at hSw); go_simp; (try with_reducible rfl))
          (try simp only [Act.put, List.setIfInBounds_toArray, List.set_cons_zero, List.set_cons_succ])
          refine wpAnyT_take (i := 7) (oi := ?oi108) (v := ?v108) ?hi108 (by kernel_rfl) (by kernel_rfl) (by kernel_rfl) (by kernel_rfl) (by kernel_rfl) ?hQ108 ?hy108 (by assumption) ?_
          case hi108 => (simp only [List.getElem?_toArray, List.getElem?_cons_succ, List.getElem?_cons_zero]; try rfl)
          case hQ108 => exact fun _ _ _ h => h
          case hy108 => (refine Or.inl ⟨by rfl, ?_⟩; intro wq hSw; (try dsimp only at hSw); go_simp; (try with_reducible rfl))
          (try simp only [Act.put, List.setIfInBounds_toArray, List.set_cons_zero, List.set_cons_succ])
          refine wpAnyT_take (i := 8) (oi := ?oi109) (v := ?v109) ?hi109 (by kernel_rfl) (by kernel_rfl) (by kernel_rfl) (by kernel_rfl) (by kernel_rfl) ?hQ109 ?hy109 (by assumption) ?_
          case hi109 => (simp only [List.getElem?_toArray, List.getElem?_cons_succ, List.getElem?_cons_zero]; try rfl)
          case hQ109 => exact fun _ _ _ h => h
          case hy109 => (refine Or.inl ⟨by rfl, ?_⟩; intro wq hSw; (try dsimp only at hSw); go_simp; (try with_reducible rfl))
          (try simp only [Act.put, List.setIfInBounds_toArray, List.set_cons_zero, List.set_cons_succ])
          refine wpAnyT_ready (rs := [9]) (by kernel_rfl) (by simp) ?_
          refine AllReadyT.cons (o := ?oi110) ?hi110 ?ti110 AllReadyT.nil
          case hi110 => (simp only [List.getElem?_toArray, List.getElem?_cons_succ, List.getElem?_cons_zero]; try rfl)
          case ti110 =>
            intro KQ hKQ
            refine step_app3 _ (by rfl) (.tmp 46) (.tmp 50) (by rfl) elPtr base (H3.out.ext (by repeat (first | exact Ext.refl' _ | assumption | apply Ext.ex' | apply Ext.al | apply Ext.drN | apply Ext.dr))).bs a.vk a.ks.length (ptl (a.ks.map MT.r)) (by rfl) ((H3.out.ext (by repeat (first | exact Ext.refl' _ | assumption | apply Ext.ex' | apply Ext.al | apply Ext.drN | apply Ext.dr))).own 3 rfl) B2 mb db (ptl (b.ks.map MT.r)) (by rfl) (Rd.of_own ((H3.out.ext (by repeat (first | exact Ext.refl' _ | assumption | apply Ext.ex' | apply Ext.al | apply Ext.drN | apply Ext.dr))).own 5 rfl)) (oneCell_ptl _) (by unfold maxLen; omega) (by omega) ?_
            intro v3 w3 ho3 hg3 hn3
            obtain ⟨A3, k3, rfl, _, _, _⟩ := own_form2 ho3
            have H4 := Lib.hid ((H3.out.ext (by repeat (first | exact Ext.refl' _ | assumption | apply Ext.ex' | apply Ext.al | apply Ext.drN | apply Ext.dr))).grow 3 rfl hg3 ho3 hn3)
            clear rt t0 t1 ft0 ft1 ra a0 a1 fa0 fa1 rb b0 b1 fb0 fb1 ho3 hg3 hn3
            obtain ⟨rt, t0, t1, ft0, ft1⟩ := H4.out.two 0 rfl
            obtain ⟨ra, a0, a1, fa0, fa1⟩ := H4.out.two 1 rfl
            obtain ⟨rb, b0, b1, fb0, fb1⟩ := H4.out.two 2 rfl
            refine hKQ.out _ _ (by simp [go_sem, ↓IntWalk.iteOmega, *]) (fun hHeld2 => ?_)
            clear hHeld hKQ KQ; have hHeld := hHeld2; clear hHeld2
            (try simp only [Act.put, List.setIfInBounds_toArray, List.set_cons_zero, List.set_cons_succ])
            refine wpAnyT_take (i := 10) (oi := ?oi111) (v := ?v111) ?hi111 (by kernel_rfl) (by kernel_rfl) (by kernel_rfl) (by kernel_rfl) (by kernel_rfl) ?hQ111 ?hy111 (by assumption) ?_
            case hi111 => (simp only [List.getElem?_toArray, List.getElem?_cons_succ, List.getElem?_cons_zero]; try rfl)
            case hQ111 => exact fun _ _ _ h => h
            case hy111 => (refine Or.inl ⟨by rfl, ?_⟩; intro wq hSw; (try dsimp only at hSw); go_simp; (try with_reducible rfl))
            (try simp only [Act.put, List.setIfInBounds_toArray, List.set_cons_zero, List.set_cons_succ])
            refine wpAnyT_take (i := 11) (oi := ?oi112) (v := ?v112) ?hi112 (by kernel_rfl) (by kernel_rfl) (by kernel_rfl) (by kernel_rfl) (by kernel_rfl) ?hQ112 ?hy112 (by assumption) ?_
            case hi112 => (simp only [List.getElem?_toArray, List.getElem?_cons_succ, List.getElem?_cons_zero]; try rfl)
            case hQ112 => exact fun _ _ _ h => h
            case hy112 => (refine Or.inl ⟨by rfl, ?_⟩; intro wq hSw; (try dsimp only at hSw); go_simp; (try with_reducible rfl))
            (try simp only [Act.put, List.setIfInBounds_toArray, List.set_cons_zero, List.set_cons_succ])
            refine wpAnyT_ready (rs := [12]) (by kernel_rfl) (by simp) ?_
            refine AllReadyT.last (o := ?oi113) ?hi113 ?ti113
            case hi113 => (simp only [List.getElem?_toArray, List.getElem?_cons_succ, List.getElem?_cons_zero]; try rfl)
            case ti113 =>
              intro KQ hKQ
              go_simp
              refine hKQ.out _ _ ?_
              clear hKQ KQ hHeld
              (try simp only [Act.put, List.setIfInBounds_toArray, List.set_cons_zero, List.set_cons_succ])
              refine wpAnyT_done (by kernel_rfl) ?_ _
              have H5 := Lib.hid (H4.out.set 1 rfl 1 (.slice A3 (a.ks.length + mb) k3))
              clear rt t0 t1 ft0 ft1 ra a0 a1 fa0 fa1 rb b0 b1 fb0 fb1
              obtain ⟨rt, t0, t1, ft0, ft1⟩ := H5.out.two 0 rfl
              obtain ⟨ra, a0, a1, fa0, fa1⟩ := H5.out.two 1 rfl
              obtain ⟨rb, b0, b1, fb0, fb1⟩ := H5.out.two 2 rfl
              generalize w3.setCell ⟨a.r, 1, none⟩ (.slice A3 (a.ks.length + mb) k3) = W5 at *
              go_wp2_with fail
              refine Calls.mono (delP_any base pb c n i (mpl t.ps) W5 (H5.out.own 0 rfl) hip (by omega) (oneCell_mpl _)) ?_
              rintro e w6 ⟨rfl, ho6, hg6⟩
              rw [mpl_take, mpl_drop, ← mpl_append] at ho6
              have H6 := Lib.hid (H5.out.grow 0 rfl hg6 ho6 (fun _ h => .inl h))
              clear rt t0 t1 ft0 ft1 ra a0 a1 fa0 fa1 rb b0 b1 fb0 fb1 ho6 hg6
              obtain ⟨rt, t0, t1, ft0, ft1⟩ := H6.out.two 0 rfl
              obtain ⟨ra, a0, a1, fa0, fa1⟩ := H6.out.two 1 rfl
              obtain ⟨rb, b0, b1, fb0, fb1⟩ := H6.out.two 2 rfl
              have H7 := Lib.hid (H6.out.set 0 rfl 0 (.slice (some ⟨pb, 0, none⟩) (n - 1) c))
              have HD := delQ_any base kb d m (i + 1) (ptl (t.ks.map MT.r)) _ (H7.out.own 1 rfl) him (by omega) (oneCell_ptl _)
              rw [show (((i + 1 : Nat) : Int)) + 1 = (i : Int) + 2 by omega, show ((i + 1 : Nat) : Int) = (i : Int) + 1 by omega] at HD
              have HD := Lib.hid HD
              go_wp2_with fail
              refine Calls.mono HD.out ?_
              rintro e w8 ⟨rfl, ho8, hg8⟩
              rw [Nat.mul_one, Nat.mul_one, kid_join HIA.out (a' := .nd a.r (.slice A2 (a.ps.length + 1 + nb) k2) (.slice A3 (a.ks.length + mb) k3) (a.ps ++ q :: b.ps) (a.ks ++ b.ks)) rfl] at ho8
              have H8 := Lib.hid (H7.out.grow 1 rfl hg8 ho8 (fun _ h => .inl h))
              clear rt t0 t1 ft0 ft1 ra a0 a1 fa0 fa1 rb b0 b1 fb0 fb1 ho8 hg8 HD
              obtain ⟨rt, t0, t1, ft0, ft1⟩ := H8.out.two 0 rfl
              obtain ⟨ra, a0, a1, fa0, fa1⟩ := H8.out.two 1 rfl
              obtain ⟨rb, b0, b1, fb0, fb1⟩ := H8.out.two 2 rfl
              go_wp2
              have H9 := H8.out.set 0 rfl 1 (.slice (some ⟨kb, 0, none⟩) (m - 1) d)
              generalize w8.setCell ⟨t.r, 1, none⟩ (.slice (some ⟨kb, 0, none⟩) (m - 1) d) = W9 at *
              refine bodyPost_end (v := .tuple #[]) ?_ rfl ?_
              · simp [results, Try.results68]
              refine ⟨rfl, _, _, two_fin (S := t.own ++ (a.own ++ b.own)) (r1 := t.r) (r2 := a.r) (p1 := .slice (some ⟨pb, 0, none⟩) (n - 1) c) (k1 := .slice (some ⟨kb, 0, none⟩) (m - 1) d) (p2 := .slice A2 (a.ps.length + 1 + nb) k2) (k2 := .slice A3 (a.ks.length + mb) k3) (n1 := n - 1) (m1 := m - 1) (n2 := a.ps.length + 1 + nb) (m2 := a.ks.length + mb)
                (P1 := t.ps.take i ++ t.ps.drop (i + 1)) (K1 := t.ks.take i ++ .nd a.r (.slice A2 (a.ps.length + 1 + nb) k2) (.slice A3 (a.ks.length + mb) k3) (a.ps ++ q :: b.ps) (a.ks ++ b.ks) :: t.ks.drop (i + 2)) (P2 := a.ps ++ q :: b.ps) (K2 := a.ks ++ b.ks) (H9.sub (by repeat (first | exact List.Sublist.slnil | exact List.Sublist.refl _ | apply List.Sublist.cons_cons | apply List.Sublist.cons)) (by repeat (first | exact List.Sublist.slnil | exact List.Sublist.refl _ | apply List.Sublist.cons_cons | apply List.Sublist.cons))) rfl rfl (by simp [mpl]) (by simp [ptl]) ?_ ?_ ?_ ?_, rfl, rfl, rfl, rfl, rfl, rfl⟩
              · have := HN.out; simp; omega
              · have := HM.out; simp; omega
              · have := HNB.out; simp; omega
              · have := HMB.out; simp; omega
end Go.Proofs.Ytdmbgimehepfaaa
