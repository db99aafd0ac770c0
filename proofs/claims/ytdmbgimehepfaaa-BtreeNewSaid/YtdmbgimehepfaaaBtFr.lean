/- The identities found: Get, Prefix, Range. -/
import Derived.Test.YtdmbgimehepfaaaBtVs
set_option linter.unusedSimpArgs false
set_option linter.unusedVariables false
namespace Go.Proofs.Ytdmbgimehepfaaa
open Go.RowKit


abbrev TI' : TypeId := 3
abbrev TL' : TypeId := 30
abbrev TW' : TypeId := 45
theorem elI : El Try.prog 30 3 (.int .i64 0) 1 8 := ⟨Try.underlying30, info_parts (by kernel_rfl), rfl, by decide⟩
/-- the boxes of from's closure -/
def IFr (w : World) (WV : Value) (bw bo : Nat) (cw : List Va → Bool) (ds : List MP) (W : World) : Prop :=
  W.heap[bw]? = some (.cells #[WV] TW' (0, 0)) ∧ w.heap.size ≤ bw ∧ w.heap.size ≤ bo ∧ ∃ v, W.heap[bo]? = some (.cells #[v] TL' (0, 0)) ∧ W.ownsRow w.heap.size TI' 1 v (ds.filter fun q => cw q.key).length (ic ((ds.filter fun q => cw q.key).map MP.id))
def MFr (w : World) (b : Nat) (ty : TypeId) : Prop := w.heap.size ≤ b ∧ (ty = TI' ∨ ty = TL')
theorem IFr.ext {w W W' : World} {WV : Value} {bw bo : Nat} {cw : List Va → Bool} {ds : List MP} (h : IFr w WV bw bo cw ds W) (e : Ext W W') : IFr w WV bw bo cw ds W' := by
  obtain ⟨h1, h2, h3, v, h4, h5⟩ := h
  exact ⟨e.at h1, h2, h3, v, e.at h4, ownsRow_ext h5 e⟩
theorem own_typ {w : World} {base g : Nat} {e : TypeId} {size n : Nat} {v : Value} {xs : List Value} (h : w.ownsRow base e size v n xs) (hg : v.ownBlock = some g) : ∃ c, w.heap[g]? = some (.cells c e (0, 0)) := by
  rcases own_forms h with ⟨rfl, _, _⟩ | ⟨g', cap, cur, rfl, hB, _, _⟩
  · cases hg
  · have : g' = g := by simpa [Value.ownBlock] using hg
    subst this
    exact ⟨_, hB.hp⟩
theorem Trn.grown {M : Nat → TypeId → Prop} {W W' : World} {row : Option Nat} (h : W.grownBy W' row) (hM : ∀ g, row = some g → ∃ c ty f, W.heap[g]? = some (.cells c ty f) ∧ M g ty) : Trn M W W' :=
  ⟨h.os, h.tape, h.output, h.size, fun b hb hn => h.block b hb fun e => by
    obtain ⟨c, ty, f, h1, h2⟩ := hM b e.symm
    exact hn c ty f h1 h2⟩
theorem Trn.set {M : Nat → TypeId → Prop} {W : World} {b o : Nat} {u : Value} {c : Array Value} {ty : TypeId} {f : Nat × Nat} (h : W.heap[b]? = some (.cells c ty f)) (hM : M b ty) : Trn M W (W.setCell ⟨b, o, none⟩ u) :=
  ⟨rfl, rfl, rfl, by rw [set_size]; exact Nat.le_refl _, fun k _ hn => set_other fun e => by subst e; exact hn c ty f h hM⟩
theorem one_cell {W : World} {b : Nat} {x : Value} {t : TypeId} (h : W.heap[b]? = some (.cells #[x] t (0, 0))) : b < W.heap.size ∧ W.cell? ⟨b, 0, none⟩ = some x ∧ W.frozen? ⟨b, 0, none⟩ = false := by
  refine ⟨(Array.getElem?_eq_some_iff.1 h).1, ?_, ?_⟩ <;> simp [World.cell?, World.frozen?, h]
/-- what from returns -/
def fromF (l : List MP) (K : List Va) (cw : List Va → Bool) : List Int := ((l.filter (geB (K, -9223372036854775808))).takeWhile fun q => cw q.key).map MP.id
theorem tw_all {cont : MP → Bool} : ∀ {L : List MP}, (∀ q ∈ L, cont q = true) → L.takeWhile cont = L ∧ L.filter cont = L
  | [], _ => ⟨rfl, rfl⟩
  | a :: L, h => by
    obtain ⟨h1, h2⟩ := tw_all (L := L) fun q hq => h q (by simp [hq])
    have ha := h a (by simp)
    exact ⟨by rw [List.takeWhile_cons, if_pos ha, h1], by rw [List.filter_cons, if_pos ha, h2]⟩
theorem tw_some {cont : MP → Bool} {q : MP} {B : List MP} (hq : cont q = false) : ∀ {A : List MP}, (∀ x ∈ A, cont x = true) → (A ++ q :: B).takeWhile cont = A ∧ (A ++ [q]).filter cont = A
  | [], _ => ⟨by rw [List.nil_append, List.takeWhile_cons, if_neg (by rw [hq]; simp)], by rw [List.nil_append, List.filter_cons, if_neg (by rw [hq]; simp)]; rfl⟩
  | a :: A, h => by
    obtain ⟨h1, h2⟩ := tw_some (A := A) (B := B) hq fun x hx => h x (by simp [hx])
    have ha := h a (by simp)
    exact ⟨by rw [List.cons_append, List.takeWhile_cons, if_pos ha, h1], by rw [List.cons_append, List.filter_cons, if_pos ha, h2]⟩
theorem VQ.from {cont : MP → Bool} {I : List MP → World → Prop} {L : List MP} {b : Bool} {W : World} (h : VQ cont I [] L b W) : ∃ ds, I ds W ∧ ds.filter cont = L.takeWhile cont := by
  rcases h with ⟨_, h1, h2⟩ | ⟨_, A, q, B, rfl, h1, h2, h3⟩
  · exact ⟨_, h2, by rw [List.nil_append, (tw_all h1).1, (tw_all h1).2]⟩
  · exact ⟨_, h3, by rw [List.nil_append, (tw_some h2 h1).1, (tw_some (B := B) h2 h1).2]⟩


set_option maxHeartbeats 2000000 in
theorem wGet_any (q : MP) (bk : Nat) (A : Option Addr) (c : Nat) (K : List Va) (ty : TypeId) (w : World) (hq : KR w q) (hc : q.n ≤ q.c) (hR : Rd w 3 A K.length (vcl K)) (hK : K.length ≤ 1048576) (hb : w.heap[bk]? = some (.cells #[.slice A K.length c] ty (0, 0))) :
    Calls Try.prog 34 #[.slice q.A q.n q.c, pt bk] w fun e w' => e = .returned (.bool (decide (cmpR q.key K = 0))) ∧ Ext w w' := by
  obtain ⟨rb, c0, _⟩ := one_cell hb
  have HT : Hid (∀ W, Ext w W → Calls Try.prog 35 #[.slice q.A q.n q.c, .slice A K.length c] W fun e w' => e = .returned (.int .i64 (cmpR q.key K)) ∧ Ext W w') := Lib.hid fun W hE => by
    have := hq.le
    rw [hq.n]
    exact tcmp_any q.A A q.c c q.key K W (hq.rd.ext hE) (hR.ext hE) (by omega) (by omega)
  generalize hz : cmpR q.key K = z at HT ⊢
  clear hq hR hz hb
  go_enter Try.func34, Try.ntmps34
  go_wp2_with (go_at_call 35; (with_reducible refine Calls.mono (HT.out _ (by repeat (first | exact Ext.refl' _ | assumption | apply Ext.ex' | apply Ext.al | apply Ext.drN | apply Ext.dr))) ?_); rintro e w1 ⟨rfl, hb1⟩; obtain ⟨y1, rfl⟩ := hb1.get; clear hb1)
  go_ret
  exact ⟨by first | rfl | simp, by repeat (first | exact Ext.refl' _ | assumption | apply Ext.ex' | apply Ext.al | apply Ext.drN | apply Ext.dr)⟩


set_option maxHeartbeats 2000000 in
theorem wRange_any (q : MP) (bk : Nat) (A : Option Addr) (c : Nat) (K : List Va) (ty : TypeId) (w : World) (hq : KR w q) (hc : q.n ≤ q.c) (hR : Rd w 3 A K.length (vcl K)) (hK : K.length ≤ 1048576) (hb : w.heap[bk]? = some (.cells #[.slice A K.length c] ty (0, 0))) :
    Calls Try.prog 37 #[.slice q.A q.n q.c, pt bk] w fun e w' => e = .returned (.bool (decide (cmpR q.key K < 0))) ∧ Ext w w' := by
  obtain ⟨rb, c0, _⟩ := one_cell hb
  have HT : Hid (∀ W, Ext w W → Calls Try.prog 35 #[.slice q.A q.n q.c, .slice A K.length c] W fun e w' => e = .returned (.int .i64 (cmpR q.key K)) ∧ Ext W w') := Lib.hid fun W hE => by
    have := hq.le
    rw [hq.n]
    exact tcmp_any q.A A q.c c q.key K W (hq.rd.ext hE) (hR.ext hE) (by omega) (by omega)
  generalize hz : cmpR q.key K = z at HT ⊢
  clear hq hR hz hb
  go_enter Try.func37, Try.ntmps37
  go_wp2_with (go_at_call 35; (with_reducible refine Calls.mono (HT.out _ (by repeat (first | exact Ext.refl' _ | assumption | apply Ext.ex' | apply Ext.al | apply Ext.drN | apply Ext.dr))) ?_); rintro e w1 ⟨rfl, hb1⟩; obtain ⟨y1, rfl⟩ := hb1.get; clear hb1)
  go_ret
  exact ⟨by first | rfl | simp, by repeat (first | exact Ext.refl' _ | assumption | apply Ext.ex' | apply Ext.al | apply Ext.drN | apply Ext.dr)⟩


theorem Rd.cutP {w : World} {A : Option Addr} {n sz : Nat} {xs : List Value} (h : Rd w sz A n xs) (k : Nat) (hk : k ≤ n) : Rd w sz A k (xs.take (k * sz)) := by
  have h1 := Nat.mul_le_mul_right sz hk
  have hl := h.1
  refine ⟨by rw [List.length_take]; omega, fun h0 => ?_⟩
  obtain ⟨b, o, he, hb, hc⟩ := h.2 (by omega)
  refine ⟨b, o, he, hb, fun j u hu => hc j u ?_⟩
  rw [List.getElem?_take] at hu
  split at hu
  · exact hu
  · cases hu
theorem vcl_take (l : List Va) (i : Nat) : (vcl l).take (i * 3) = vcl (l.take i) := fmt (k := 3) (fun _ => rfl) l i
set_option maxRecDepth 100000 in
set_option maxHeartbeats 4000000 in
theorem wPrefix_any (q : MP) (bk : Nat) (A : Option Addr) (c : Nat) (K : List Va) (ty : TypeId) (w : World) (hq : KR w q) (hc : q.n ≤ q.c) (hR : Rd w 3 A K.length (vcl K)) (hK : K.length ≤ 1048576) (hb : w.heap[bk]? = some (.cells #[.slice A K.length c] ty (0, 0))) :
    Calls Try.prog 36 #[.slice q.A q.n q.c, pt bk] w fun e w' => e = .returned (.bool (decide (K.length ≤ q.key.length) && decide (cmpR (q.key.take K.length) K = 0))) ∧ Ext w w' := by
  obtain ⟨rb, c0, _⟩ := one_cell hb
  have hqn := hq.n
  obtain ⟨qn, hqe⟩ : ∃ n, q.key.length = n := ⟨_, rfl⟩
  obtain ⟨kn, hke⟩ : ∃ n, K.length = n := ⟨_, rfl⟩
  rw [hke] at c0
  by_cases h : kn ≤ qn
  · have HT : Hid (∀ W, Ext w W → Calls Try.prog 35 #[.slice q.A kn q.c, .slice A kn c] W fun e w' => e = .returned (.int .i64 (cmpR (q.key.take K.length) K)) ∧ Ext W w') := Lib.hid fun W hE => by
      have h1 := (hq.rd.ext hE).cutP kn (by omega)
      rw [vcl_take] at h1
      have hl : (q.key.take kn).length = kn := by rw [List.length_take]; omega
      have h2 := tcmp_any q.A A q.c c (q.key.take kn) K W (by rw [hl]; exact h1) (hR.ext hE) (by omega) (by omega)
      rw [hl, hke] at h2
      rw [hke]
      exact h2
    have hd : decide (K.length ≤ q.key.length) = true := decide_eq_true (by omega)
    rw [hd, Bool.true_and]
    have hkz : (kn : Int) ≤ (qn : Int) := by omega
    have hkc : kn ≤ q.c := by omega
    rw [hqn, hqe]
    generalize cmpR (q.key.take K.length) K = z at HT ⊢
    clear hq hR hd hb hqn hqe hke hc
    go_enter Try.func36, Try.ntmps36
    go_wp2
    refine wp_region_held_drew (S := (fun w' => w'.cell? ⟨bk, 0, none⟩ = some (.slice A kn c))) (by kernel_rfl) (by simp [go_sem, ↓IntWalk.iteOmega, *]) (fun hHeld => ?_)
    refine wpAnyH_take (i := 0) (oi := ?oi1) (v := ?v1) ?hi1 (by kernel_rfl) (by kernel_rfl) (by kernel_rfl) ?hQ1 ?hy1 (by assumption) ?_
    case hi1 => (simp only [List.getElem?_toArray, List.getElem?_cons_succ, List.getElem?_cons_zero]; try rfl)
    case hQ1 => exact fun _ _ _ h => h
    case hy1 => (refine Or.inl ⟨by rfl, ?_⟩; intro wq hSw; (try dsimp only at hSw); go_simp; (try with_reducible rfl))
    (try simp only [Act.put, List.setIfInBounds_toArray, List.set_cons_zero, List.set_cons_succ])
    refine wpAnyH_take (i := 1) (oi := ?oi2) (v := ?v2) ?hi2 (by kernel_rfl) (by kernel_rfl) (by kernel_rfl) ?hQ2 ?hy2 (by assumption) ?_
    case hi2 => (simp only [List.getElem?_toArray, List.getElem?_cons_succ, List.getElem?_cons_zero]; try rfl)
    case hQ2 => exact fun _ _ _ h => h
    case hy2 => (refine Or.inl ⟨by rfl, ?_⟩; intro wq hSw; (try dsimp only at hSw); go_simp; (try with_reducible rfl))
    (try simp only [Act.put, List.setIfInBounds_toArray, List.set_cons_zero, List.set_cons_succ])
    refine wpAnyH_take (i := 2) (oi := ?oi3) (v := ?v3) ?hi3 (by kernel_rfl) (by kernel_rfl) (by kernel_rfl) ?hQ3 ?hy3 (by assumption) ?_
    case hi3 => (simp only [List.getElem?_toArray, List.getElem?_cons_succ, List.getElem?_cons_zero]; try rfl)
    case hQ3 => exact fun _ _ _ h => h
    case hy3 => (refine Or.inl ⟨by rfl, ?_⟩; intro wq hSw; (try dsimp only at hSw); go_simp; (try with_reducible rfl))
    (try simp only [Act.put, List.setIfInBounds_toArray, List.set_cons_zero, List.set_cons_succ])
    refine wpAnyH_take (i := 3) (oi := ?oi4) (v := ?v4) ?hi4 (by kernel_rfl) (by kernel_rfl) (by kernel_rfl) ?hQ4 ?hy4 (by assumption) ?_
    case hi4 => (simp only [List.getElem?_toArray, List.getElem?_cons_succ, List.getElem?_cons_zero]; try rfl)
    case hQ4 => exact fun _ _ _ h => h
    case hy4 => (refine Or.inl ⟨by rfl, ?_⟩; intro wq hSw; (try dsimp only at hSw); go_simp; (try with_reducible rfl))
    (try simp only [Act.put, List.setIfInBounds_toArray, List.set_cons_zero, List.set_cons_succ])
    refine wpAnyH_take (i := 4) (oi := ?oi5) (v := ?v5) ?hi5 (by kernel_rfl) (by kernel_rfl) (by kernel_rfl) ?hQ5 ?hy5 (by assumption) ?_
    case hi5 => (simp only [List.getElem?_toArray, List.getElem?_cons_succ, List.getElem?_cons_zero]; try rfl)
    case hQ5 => exact fun _ _ _ h => h
    case hy5 => (refine Or.inl ⟨by rfl, ?_⟩; intro wq hSw; (try dsimp only at hSw); go_simp; (try with_reducible rfl))
    (try simp only [Act.put, List.setIfInBounds_toArray, List.set_cons_zero, List.set_cons_succ])
    refine wpAnyH_take (i := 5) (oi := ?oi6) (v := ?v6) ?hi6 (by kernel_rfl) (by kernel_rfl) (by kernel_rfl) ?hQ6 ?hy6 (by assumption) ?_
    case hi6 => (simp only [List.getElem?_toArray, List.getElem?_cons_succ, List.getElem?_cons_zero]; try rfl)
    case hQ6 => exact fun _ _ _ h => h
    case hy6 => (refine Or.inl ⟨by rfl, ?_⟩; intro wq hSw; (try dsimp only at hSw); go_simp; (try with_reducible rfl))
    (try simp only [Act.put, List.setIfInBounds_toArray, List.set_cons_zero, List.set_cons_succ])
    refine wpAnyH_take (i := 6) (oi := ?oi7) (v := ?v7) ?hi7 (by kernel_rfl) (by kernel_rfl) (by kernel_rfl) ?hQ7 ?hy7 (by assumption) ?_
    case hi7 => (simp only [List.getElem?_toArray, List.getElem?_cons_succ, List.getElem?_cons_zero]; try rfl)
    case hQ7 => exact fun _ _ _ h => h
    case hy7 => (refine Or.inl ⟨by rfl, ?_⟩; intro wq hSw; (try dsimp only at hSw); go_simp; (try with_reducible rfl))
    (try simp only [Act.put, List.setIfInBounds_toArray, List.set_cons_zero, List.set_cons_succ])
    refine wpAnyH_take (i := 7) (oi := ?oi8) (v := ?v8) ?hi8 (by kernel_rfl) (by kernel_rfl) (by kernel_rfl) ?hQ8 ?hy8 (by assumption) ?_
    case hi8 => (simp only [List.getElem?_toArray, List.getElem?_cons_succ, List.getElem?_cons_zero]; try rfl)
    case hQ8 => exact fun _ _ _ h => h
    case hy8 => (refine Or.inl ⟨by rfl, ?_⟩; intro wq hSw; (try dsimp only at hSw); go_simp; (try with_reducible rfl))
    (try simp only [Act.put, List.setIfInBounds_toArray, List.set_cons_zero, List.set_cons_succ])
    refine wpAnyH_take (i := 8) (oi := ?oi9) (v := ?v9) ?hi9 (by kernel_rfl) (by kernel_rfl) (by kernel_rfl) ?hQ9 ?hy9 (by assumption) ?_
    case hi9 => (simp only [List.getElem?_toArray, List.getElem?_cons_succ, List.getElem?_cons_zero]; try rfl)
    case hQ9 => exact fun _ _ _ h => h
    case hy9 => (refine Or.inl ⟨by rfl, ?_⟩; intro wq hSw; (try dsimp only at hSw); go_simp; (try with_reducible rfl))
    (try simp only [Act.put, List.setIfInBounds_toArray, List.set_cons_zero, List.set_cons_succ])
    refine wpAnyH_take (i := 9) (oi := ?oi10) (v := ?v10) ?hi10 (by kernel_rfl) (by kernel_rfl) (by kernel_rfl) ?hQ10 ?hy10 (by assumption) ?_
    case hi10 => (simp only [List.getElem?_toArray, List.getElem?_cons_succ, List.getElem?_cons_zero]; try rfl)
    case hQ10 => exact fun _ _ _ h => h
    case hy10 => (refine Or.inl ⟨by rfl, ?_⟩; intro wq hSw; (try dsimp only at hSw); go_simp; (try with_reducible rfl))
    (try simp only [Act.put, List.setIfInBounds_toArray, List.set_cons_zero, List.set_cons_succ])
    refine wpAnyH_take (i := 10) (oi := ?oi11) (v := ?v11) ?hi11 (by kernel_rfl) (by kernel_rfl) (by kernel_rfl) ?hQ11 ?hy11 (by assumption) ?_
    case hi11 => (simp only [List.getElem?_toArray, List.getElem?_cons_succ, List.getElem?_cons_zero]; try rfl)
    case hQ11 => exact fun _ _ _ h => h
    case hy11 => (refine Or.inl ⟨by rfl, ?_⟩; intro wq hSw; (try dsimp only at hSw); go_simp; (try with_reducible rfl))
    (try simp only [Act.put, List.setIfInBounds_toArray, List.set_cons_zero, List.set_cons_succ])
    refine wpAnyH_ready (rs := [11]) (by kernel_rfl) (by simp) ?_
    refine AllReadyH.cons (o := ?oi12) ?hi12 ?ti12 AllReadyH.nil
    case hi12 => (simp only [List.getElem?_toArray, List.getElem?_cons_succ, List.getElem?_cons_zero]; try rfl)
    case ti12 =>
      intro KQ hKQ
      go_simp
      go_at_call 35
      refine Calls.mono (HT.out _ (by repeat (first | exact Ext.refl' _ | assumption | apply Ext.ex' | apply Ext.al | apply Ext.drN | apply Ext.dr))) ?_
      rintro e w1 ⟨rfl, hb1⟩
      obtain ⟨y1, rfl⟩ := hb1.get
      clear hb1
      refine hKQ.out _ _ (by simp [go_sem, ↓IntWalk.iteOmega, *]) (fun hHeld2 => ?_)
      clear hHeld hKQ KQ; have hHeld := hHeld2; clear hHeld2
      (try simp only [Act.put, List.setIfInBounds_toArray, List.set_cons_zero, List.set_cons_succ])
      refine wpAnyH_take (i := 12) (oi := ?oi13) (v := ?v13) ?hi13 (by kernel_rfl) (by kernel_rfl) (by kernel_rfl) ?hQ13 ?hy13 (by assumption) ?_
      case hi13 => (simp only [List.getElem?_toArray, List.getElem?_cons_succ, List.getElem?_cons_zero]; try rfl)
      case hQ13 => exact fun _ _ _ h => h
      case hy13 => (refine Or.inl ⟨by rfl, ?_⟩; intro wq hSw; (try dsimp only at hSw); go_simp; (try with_reducible rfl))
      (try simp only [Act.put, List.setIfInBounds_toArray, List.set_cons_zero, List.set_cons_succ])
      refine wpAnyH_take (i := 13) (oi := ?oi14) (v := ?v14) ?hi14 (by kernel_rfl) (by kernel_rfl) (by kernel_rfl) ?hQ14 ?hy14 (by assumption) ?_
      case hi14 => (simp only [List.getElem?_toArray, List.getElem?_cons_succ, List.getElem?_cons_zero]; try rfl)
      case hQ14 => exact fun _ _ _ h => h
      case hy14 => (refine Or.inl ⟨by rfl, ?_⟩; intro wq hSw; (try dsimp only at hSw); go_simp; (try with_reducible rfl))
      (try simp only [Act.put, List.setIfInBounds_toArray, List.set_cons_zero, List.set_cons_succ])
      refine wpAnyH_take (i := 14) (oi := ?oi15) (v := ?v15) ?hi15 (by kernel_rfl) (by kernel_rfl) (by kernel_rfl) ?hQ15 ?hy15 (by assumption) ?_
      case hi15 => (simp only [List.getElem?_toArray, List.getElem?_cons_succ, List.getElem?_cons_zero]; try rfl)
      case hQ15 => exact fun _ _ _ h => h
      case hy15 => (refine Or.inl ⟨by rfl, ?_⟩; intro wq hSw; (try dsimp only at hSw); go_simp; (try with_reducible rfl))
      (try simp only [Act.put, List.setIfInBounds_toArray, List.set_cons_zero, List.set_cons_succ])
      refine wpAnyH_done (by kernel_rfl) ?_ _
      go_wp2
      go_ret
      exact ⟨by first | rfl | simp, by repeat (first | exact Ext.refl' _ | assumption | apply Ext.ex' | apply Ext.al | apply Ext.drN | apply Ext.dr)⟩
  · have hd : decide (K.length ≤ q.key.length) = false := decide_eq_false (by omega)
    rw [hd, Bool.false_and, hqn, hqe]
    have hkz : ¬ ((kn : Int) ≤ (qn : Int)) := by omega
    clear hq hR hd hb hqn hqe hke hc
    go_enter Try.func36, Try.ntmps36
    go_wp2
    refine wp_region_held_drew (S := (fun w' => w'.cell? ⟨bk, 0, none⟩ = some (.slice A kn c))) (by kernel_rfl) (by simp [go_sem, ↓IntWalk.iteOmega, *]) (fun hHeld => ?_)
    refine wpAnyH_take (i := 0) (oi := ?oi101) (v := ?v101) ?hi101 (by kernel_rfl) (by kernel_rfl) (by kernel_rfl) ?hQ101 ?hy101 (by assumption) ?_
    case hi101 => (simp only [List.getElem?_toArray, List.getElem?_cons_succ, List.getElem?_cons_zero]; try rfl)
    case hQ101 => exact fun _ _ _ h => h
    case hy101 => (refine Or.inl ⟨by rfl, ?_⟩; intro wq hSw; (try dsimp only at hSw); go_simp; (try with_reducible rfl))
    (try simp only [Act.put, List.setIfInBounds_toArray, List.set_cons_zero, List.set_cons_succ])
    refine wpAnyH_take (i := 1) (oi := ?oi102) (v := ?v102) ?hi102 (by kernel_rfl) (by kernel_rfl) (by kernel_rfl) ?hQ102 ?hy102 (by assumption) ?_
    case hi102 => (simp only [List.getElem?_toArray, List.getElem?_cons_succ, List.getElem?_cons_zero]; try rfl)
    case hQ102 => exact fun _ _ _ h => h
    case hy102 => (refine Or.inl ⟨by rfl, ?_⟩; intro wq hSw; (try dsimp only at hSw); go_simp; (try with_reducible rfl))
    (try simp only [Act.put, List.setIfInBounds_toArray, List.set_cons_zero, List.set_cons_succ])
    refine wpAnyH_take (i := 2) (oi := ?oi103) (v := ?v103) ?hi103 (by kernel_rfl) (by kernel_rfl) (by kernel_rfl) ?hQ103 ?hy103 (by assumption) ?_
    case hi103 => (simp only [List.getElem?_toArray, List.getElem?_cons_succ, List.getElem?_cons_zero]; try rfl)
    case hQ103 => exact fun _ _ _ h => h
    case hy103 => (refine Or.inl ⟨by rfl, ?_⟩; intro wq hSw; (try dsimp only at hSw); go_simp; (try with_reducible rfl))
    (try simp only [Act.put, List.setIfInBounds_toArray, List.set_cons_zero, List.set_cons_succ])
    refine wpAnyH_take (i := 3) (oi := ?oi104) (v := ?v104) ?hi104 (by kernel_rfl) (by kernel_rfl) (by kernel_rfl) ?hQ104 ?hy104 (by assumption) ?_
    case hi104 => (simp only [List.getElem?_toArray, List.getElem?_cons_succ, List.getElem?_cons_zero]; try rfl)
    case hQ104 => exact fun _ _ _ h => h
    case hy104 => (refine Or.inl ⟨by rfl, ?_⟩; intro wq hSw; (try dsimp only at hSw); go_simp; (try with_reducible rfl))
    (try simp only [Act.put, List.setIfInBounds_toArray, List.set_cons_zero, List.set_cons_succ])
    refine wpAnyH_take (i := 4) (oi := ?oi105) (v := ?v105) ?hi105 (by kernel_rfl) (by kernel_rfl) (by kernel_rfl) ?hQ105 ?hy105 (by assumption) ?_
    case hi105 => (simp only [List.getElem?_toArray, List.getElem?_cons_succ, List.getElem?_cons_zero]; try rfl)
    case hQ105 => exact fun _ _ _ h => h
    case hy105 => (refine Or.inl ⟨by rfl, ?_⟩; intro wq hSw; (try dsimp only at hSw); go_simp; (try with_reducible rfl))
    (try simp only [Act.put, List.setIfInBounds_toArray, List.set_cons_zero, List.set_cons_succ])
    refine wpAnyH_take (i := 5) (oi := ?oi106) (v := ?v106) ?hi106 (by kernel_rfl) (by kernel_rfl) (by kernel_rfl) ?hQ106 ?hy106 (by assumption) ?_
    case hi106 => (simp only [List.getElem?_toArray, List.getElem?_cons_succ, List.getElem?_cons_zero]; try rfl)
    case hQ106 => exact fun _ _ _ h => h
    case hy106 => (refine Or.inl ⟨by rfl, ?_⟩; intro wq hSw; (try dsimp only at hSw); go_simp; (try with_reducible rfl))
    (try simp only [Act.put, List.setIfInBounds_toArray, List.set_cons_zero, List.set_cons_succ])
    refine wpAnyH_take (i := 6) (oi := ?oi107) (v := undef) ?hi107 (by kernel_rfl) (by kernel_rfl) (by kernel_rfl) ?hQ107 ?hy107 (by assumption) ?_
    case hi107 => (simp only [List.getElem?_toArray, List.getElem?_cons_succ, List.getElem?_cons_zero]; try rfl)
    case hQ107 => exact fun _ _ _ h => h
    case hy107 => exact Or.inr ⟨by rfl, rfl⟩
    (try simp only [Act.put, List.setIfInBounds_toArray, List.set_cons_zero, List.set_cons_succ])
    refine wpAnyH_take (i := 7) (oi := ?oi108) (v := undef) ?hi108 (by kernel_rfl) (by kernel_rfl) (by kernel_rfl) ?hQ108 ?hy108 (by assumption) ?_
    case hi108 => (simp only [List.getElem?_toArray, List.getElem?_cons_succ, List.getElem?_cons_zero]; try rfl)
    case hQ108 => exact fun _ _ _ h => h
    case hy108 => exact Or.inr ⟨by rfl, rfl⟩
    (try simp only [Act.put, List.setIfInBounds_toArray, List.set_cons_zero, List.set_cons_succ])
    refine wpAnyH_take (i := 8) (oi := ?oi109) (v := undef) ?hi109 (by kernel_rfl) (by kernel_rfl) (by kernel_rfl) ?hQ109 ?hy109 (by assumption) ?_
    case hi109 => (simp only [List.getElem?_toArray, List.getElem?_cons_succ, List.getElem?_cons_zero]; try rfl)
    case hQ109 => exact fun _ _ _ h => h
    case hy109 => exact Or.inr ⟨by rfl, rfl⟩
    (try simp only [Act.put, List.setIfInBounds_toArray, List.set_cons_zero, List.set_cons_succ])
    refine wpAnyH_take (i := 9) (oi := ?oi110) (v := undef) ?hi110 (by kernel_rfl) (by kernel_rfl) (by kernel_rfl) ?hQ110 ?hy110 (by assumption) ?_
    case hi110 => (simp only [List.getElem?_toArray, List.getElem?_cons_succ, List.getElem?_cons_zero]; try rfl)
    case hQ110 => exact fun _ _ _ h => h
    case hy110 => exact Or.inr ⟨by rfl, rfl⟩
    (try simp only [Act.put, List.setIfInBounds_toArray, List.set_cons_zero, List.set_cons_succ])
    refine wpAnyH_take (i := 10) (oi := ?oi111) (v := undef) ?hi111 (by kernel_rfl) (by kernel_rfl) (by kernel_rfl) ?hQ111 ?hy111 (by assumption) ?_
    case hi111 => (simp only [List.getElem?_toArray, List.getElem?_cons_succ, List.getElem?_cons_zero]; try rfl)
    case hQ111 => exact fun _ _ _ h => h
    case hy111 => exact Or.inr ⟨by rfl, rfl⟩
    (try simp only [Act.put, List.setIfInBounds_toArray, List.set_cons_zero, List.set_cons_succ])
    refine wpAnyH_take (i := 11) (oi := ?oi112) (v := undef) ?hi112 (by kernel_rfl) (by kernel_rfl) (by kernel_rfl) ?hQ112 ?hy112 (by assumption) ?_
    case hi112 => (simp only [List.getElem?_toArray, List.getElem?_cons_succ, List.getElem?_cons_zero]; try rfl)
    case hQ112 => exact fun _ _ _ h => h
    case hy112 => exact Or.inr ⟨by rfl, rfl⟩
    (try simp only [Act.put, List.setIfInBounds_toArray, List.set_cons_zero, List.set_cons_succ])
    refine wpAnyH_take (i := 12) (oi := ?oi113) (v := undef) ?hi113 (by kernel_rfl) (by kernel_rfl) (by kernel_rfl) ?hQ113 ?hy113 (by assumption) ?_
    case hi113 => (simp only [List.getElem?_toArray, List.getElem?_cons_succ, List.getElem?_cons_zero]; try rfl)
    case hQ113 => exact fun _ _ _ h => h
    case hy113 => exact Or.inr ⟨by rfl, rfl⟩
    (try simp only [Act.put, List.setIfInBounds_toArray, List.set_cons_zero, List.set_cons_succ])
    refine wpAnyH_take (i := 13) (oi := ?oi114) (v := ?v114) ?hi114 (by kernel_rfl) (by kernel_rfl) (by kernel_rfl) ?hQ114 ?hy114 (by assumption) ?_
    case hi114 => (simp only [List.getElem?_toArray, List.getElem?_cons_succ, List.getElem?_cons_zero]; try rfl)
    case hQ114 => exact fun _ _ _ h => h
    case hy114 => (refine Or.inl ⟨by rfl, ?_⟩; intro wq hSw; (try dsimp only at hSw); go_simp; (try with_reducible rfl))
    (try simp only [Act.put, List.setIfInBounds_toArray, List.set_cons_zero, List.set_cons_succ])
    refine wpAnyH_take (i := 14) (oi := ?oi115) (v := ?v115) ?hi115 (by kernel_rfl) (by kernel_rfl) (by kernel_rfl) ?hQ115 ?hy115 (by assumption) ?_
    case hi115 => (simp only [List.getElem?_toArray, List.getElem?_cons_succ, List.getElem?_cons_zero]; try rfl)
    case hQ115 => exact fun _ _ _ h => h
    case hy115 => (refine Or.inl ⟨by rfl, ?_⟩; intro wq hSw; (try dsimp only at hSw); go_simp; (try with_reducible rfl))
    (try simp only [Act.put, List.setIfInBounds_toArray, List.set_cons_zero, List.set_cons_succ])
    refine wpAnyH_done (by kernel_rfl) ?_ _
    go_wp2
    go_ret
    exact ⟨rfl, by repeat (first | exact Ext.refl' _ | assumption | apply Ext.ex' | apply Ext.al | apply Ext.drN | apply Ext.dr)⟩


set_option maxRecDepth 100000 in
set_option maxHeartbeats 4000000 in
theorem from1Get_any (base bw bo bk N : Nat) (cw : List Va → Bool) (w : World) (hN : N ≤ 1048576) (hw : ∀ q W, KOk base w q → Ext w W → Calls Try.prog 34 #[.slice q.A q.n q.c, pt bk] W fun e W' => e = .returned (.bool (cw q.key)) ∧ Ext W W') (hne : bw ≠ bo) :
    ∀ q ds W, KOk base w q → Ext w W → ds.length + 1 ≤ N → IFr w (.func (.func 34) #[] #[pt bk]) bw bo cw ds W → Calls Try.prog 56 #[pv q, pt bw, pt bo] W fun e W' => e = .returned (.bool (cw q.key)) ∧ Trn (MFr w) W W' ∧ IFr w (.func (.func 34) #[] #[pt bk]) bw bo cw (ds ++ [q]) W' := by
  intro q ds W hq hE hds hI
  have HW : Hid (∀ W', Ext W W' → Calls Try.prog 34 #[.slice q.A q.n q.c, pt bk] W' fun e W'' => e = .returned (.bool (cw q.key)) ∧ Ext W' W'') := Lib.hid fun W' hE' => hw q W' hq (hE.tr hE')
  have HI := Lib.hid hI
  obtain ⟨hbw, hbw0, hbo0, v, hbo, hrow⟩ := hI
  have HB := Lib.hid hbw
  obtain ⟨vA, vc, rfl, _, _, _⟩ := own_form2 hrow
  have hfl : (ds.filter fun q => cw q.key).length ≤ ds.length := List.length_filter_le _ _
  have HFL : Hid ((ds.filter fun q => cw q.key).length ≤ ds.length) := Lib.hid hfl
  obtain ⟨nf, hnf⟩ : ∃ nf, (ds.filter fun q => cw q.key).length = nf := ⟨_, rfl⟩
  rw [hnf] at hbo hrow hfl
  have HNF := Lib.hid hnf
  obtain ⟨rw', w0, wf0⟩ := one_cell hbw
  obtain ⟨ro, o0, of0⟩ := one_cell hbo
  have HR := Lib.hid hrow
  have HO := Lib.hid hbo
  have HW0 := Lib.hid hE
  have HHH := Lib.hid (And.intro hbw0 hbo0)
  clear hbw hbo hrow hw hq hnf hE hbw0 hbo0
  cases hc : cw q.key with
  | false =>
    rw [hc] at HW
    have HC := Lib.hid hc
    clear hc
    go_enter Try.func56, Try.ntmps56
    go_wp2_with (go_at_call 34; refine Calls.mono (HW.out _ (by repeat (first | exact Ext.refl' _ | assumption | apply Ext.ex' | apply Ext.al | apply Ext.drN | apply Ext.dr))) ?_; rintro e w1 ⟨rfl, hb1⟩; have hE1 : Ext W w1 := (Ext.al1 _ _).tr hb1)
    go_ret
    refine ⟨rfl, Trn.ofExt (by repeat (first | exact Ext.refl' _ | assumption | apply Ext.ex' | apply Ext.al | apply Ext.drN | apply Ext.dr)), ?_⟩
    have := HI.out.ext (show Ext W w1 from by repeat (first | exact Ext.refl' _ | assumption | apply Ext.ex' | apply Ext.al | apply Ext.drN | apply Ext.dr))
    obtain ⟨h1, h2, h3, v, h4, h5⟩ := this
    refine ⟨h1, h2, h3, v, h4, ?_⟩
    rw [List.filter_append, show List.filter (fun q => cw q.key) [q] = [] by rw [List.filter_cons, HC.out]; rfl, List.append_nil]
    exact h5
  | true =>
    rw [hc] at HW
    have HC := Lib.hid hc
    clear hc
    go_enter Try.func56, Try.ntmps56
    go_wp2_with fail
    refine Calls.mono (HW.out _ (by repeat (first | exact Ext.refl' _ | assumption | apply Ext.ex' | apply Ext.al | apply Ext.drN | apply Ext.dr))) ?_
    rintro e w1 ⟨rfl, hb1⟩
    have hE1 : Ext W w1 := (Ext.al1 _ _).tr hb1
    have hbx := al_at hb1
    obtain ⟨_, z0, z1, _, _⟩ := two_cells hbx
    obtain ⟨ro, o0, of0⟩ := one_cell (hE1.at HO.out)
    have hro0 := (Array.getElem?_eq_some_iff.1 HO.out).1
    have HE1 := Lib.hid hE1
    obtain ⟨bx, hbxe⟩ : ∃ bx, W.heap.size = bx := ⟨_, rfl⟩
    rw [hbxe] at hbx z0 z1 hro0 ⊢
    have hbl := (Array.getElem?_eq_some_iff.1 hbx).1
    clear hb1 hbx
    have hap : ∀ {W' : World}, Ext w1 W' → W'.ownsRow w.heap.size TI' 1 (.slice vA nf vc) nf (ic ((ds.filter fun q => cw q.key).map MP.id)) := fun e => ownsRow_ext HR.out (HE1.out.tr e)
    have HAP : Hid (∀ (W' : World), Ext w1 W' → W'.ownsRow w.heap.size TI' 1 (.slice vA nf vc) nf (ic ((ds.filter fun q => cw q.key).map MP.id))) := Lib.hid fun W' e => hap e
    clear hap
    go_wp2_with (at_builtin; refine wpList_app3 _ rfl (.tmp 10) (.tmp 13) rfl elI w.heap.size (Nat.le_trans HW0.out.size (HE1.out.tr (by repeat (first | exact Ext.refl' _ | assumption | apply Ext.ex' | apply Ext.al | apply Ext.drN | apply Ext.dr))).size) (.slice vA nf vc) nf _ rfl (HAP.out _ (by repeat (first | exact Ext.refl' _ | assumption | apply Ext.ex' | apply Ext.al | apply Ext.drN | apply Ext.dr))) (some ⟨w1.heap.size, 0, none⟩) 1 1 [.int .i64 q.id] rfl (Rd.lit _ _ _ _ _ rfl rfl) (by intro u hu; simp at hu; subst hu; rfl) (by unfold maxLen; omega) (by omega) ?_; intro v2 w2 ho2 hg2 hn2; obtain ⟨A2, k2, rfl, _, _, _⟩ := own_form2 ho2; have hg2 := Lib.hid hg2; have hbo2 : w2.heap[bo]? = some (.cells #[.slice vA nf vc] TL' (0, 0)) := (World.grownBy.block hg2.out bo (Nat.lt_of_lt_of_le (Array.getElem?_eq_some_iff.1 HO.out).1 (HE1.out.tr (by repeat (first | exact Ext.refl' _ | assumption | apply Ext.ex' | apply Ext.al | apply Ext.drN | apply Ext.dr))).size) (fun e => by
      obtain ⟨c0, hc0⟩ := own_typ HR.out e.symm
      rw [HO.out] at hc0
      simp at hc0
      exact absurd hc0.2 (by decide))).trans ((HE1.out.tr (by repeat (first | exact Ext.refl' _ | assumption | apply Ext.ex' | apply Ext.al | apply Ext.drN | apply Ext.dr))).at HO.out); obtain ⟨ro2, o2, of2⟩ := one_cell hbo2; have HBO2 := Lib.hid hbo2; have HO2 := Lib.hid ho2; clear hbo2 ho2)
    go_ret
    have hEA : Ext W (w1.alloc (.cells #[.int .i64 q.id] TI')) := HE1.out.tr (Ext.al1 _ _)
    have hTr : Trn (MFr w) W w2 := (Trn.ofExt hEA).trans (Trn.grown hg2.out fun g hg => by
      obtain ⟨c0, hc0⟩ := own_typ (HAP.out _ (Ext.al1 w1 (.cells #[.int .i64 q.id] TI'))) hg
      exact ⟨c0, TI', _, hc0, (HR.out.lt g hg).1, .inl rfl⟩)
    refine ⟨rfl, hTr.trans (Trn.set HBO2.out ⟨HHH.out.2, .inr rfl⟩), ?_⟩
    have hbw2 : w2.heap[bw]? = _ := hTr.block HB.out (fun h => by rcases h.2 with h | h <;> exact absurd h (by decide))
    refine ⟨(set_other hne).trans hbw2, HHH.out.1, HHH.out.2, .slice A2 (nf + 1) k2, set_heap HBO2.out 0 _, ?_⟩
    have h3 : (w2.setCell ⟨bo, 0, none⟩ (.slice A2 (nf + 1) k2)).ownsRow w.heap.size TI' 1 (.slice A2 (nf + 1) k2) (nf + 1) _ := ownsRow_same HO2.out fun g hg => set_other fun e => by
      obtain ⟨c0, hc0⟩ := own_typ HO2.out hg
      rw [e, HBO2.out] at hc0
      simp at hc0
      exact absurd hc0.2 (by decide)
    have hfa : (ds ++ [q]).filter (fun q => cw q.key) = ds.filter (fun q => cw q.key) ++ [q] := by rw [List.filter_append, show List.filter (fun q => cw q.key) [q] = [q] by rw [List.filter_cons, if_pos HC.out]; rfl]
    rw [hfa, List.length_append, HNF.out, List.map_append, show ic (List.map MP.id (ds.filter fun q => cw q.key) ++ List.map MP.id [q]) = ic (List.map MP.id (ds.filter fun q => cw q.key)) ++ [.int .i64 q.id] by simp [ic]]
    exact h3
set_option maxRecDepth 100000 in
set_option maxHeartbeats 8000000 in
theorem fromGet_any (base m tb bk : Nat) (l : List MP) (F : List Nat) (A : Option Addr) (c : Nat) (K : List Va) (cw : List Va → Bool) (w : World) (hm : 2 ≤ m) (hm2 : m ≤ 64) (hT : TreeIs base w tb m l F) (hR : Rd w 3 A K.length (vcl K)) (hK : K.length ≤ 1048576)
    (hw : ∀ q W, KOk base w q → Ext w W → Calls Try.prog 34 #[.slice q.A q.n q.c, pt bk] W fun e W' => e = .returned (.bool (cw q.key)) ∧ Ext W W') :
    Calls Try.prog 33 #[pt tb, .slice A K.length c, (.func (.func 34) #[] #[pt bk])] w fun e w' => ∃ A' c', e = .returned (.slice A' (fromF l K cw).length c') ∧ Rd w' 1 A' (fromF l K cw).length (ic (fromF l K cw)) ∧ Ext w w' := by
  have HW := Lib.hid hw
  have HT := Lib.hid hT
  have HKR : Hid (KR w (⟨A, K.length, c, K, -9223372036854775808⟩ : MP)) := Lib.hid ⟨rfl, hR, hK⟩
  clear hw hR
  rcases hT.root with ⟨hl0, hF0, h0⟩ | ⟨d, t, h0, hG, hND, hW, hfl, hF⟩
  · have HL0 := Lib.hid hl0
    obtain ⟨rb, c0, _, _, _, _, _⟩ := three_cells h0
    clear hT hl0 hF0 h0
    go_enter Try.func33, Try.ntmps33
    go_wp2_with fail
    refine Calls.mono (visit_nil ⟨A, K.length, c, K, -9223372036854775808⟩ _ _) ?_
    rintro e w3 ⟨rfl, hb3⟩
    obtain ⟨x3, rfl⟩ := hb3.get
    clear hb3
    go_wp2
    go_ret
    have hf : fromF l K cw = [] := by rw [HL0.out]; rfl
    rw [hf]
    exact ⟨none, 0, rfl, Rd.nil, by repeat (first | exact Ext.refl' _ | assumption | apply Ext.ex' | apply Ext.al | apply Ext.drN | apply Ext.dr)⟩
  · have h0' := h0
    obtain ⟨rb, c0, _, _, _, _, _⟩ := three_cells h0
    have HV : Hid (∀ W, Ext ((w.alloc (.cells #[(.func (.func 34) #[] #[pt bk])] TW')).alloc (.cells #[.slice none 0 0] TL')) W → Calls Try.prog 38 #[pt t.r, pv ⟨A, K.length, c, K, -9223372036854775808⟩, .func (.func 56) #[] #[pt w.heap.size, pt (w.heap.size + 1)]] W (VisP (MFr w) (fun q => cw q.key) (IFr w (.func (.func 34) #[] #[pt bk]) w.heap.size (w.heap.size + 1) cw) W [] ((flat d t).filter (geB (K, -9223372036854775808))))) := Lib.hid fun W hE => by
      have hE2 : Ext w ((w.alloc (.cells #[(.func (.func 34) #[] #[pt bk])] TW')).alloc (.cells #[.slice none 0 0] TL')) := Ext.al (Ext.al1 _ _) _
      refine visitF_any base m w.heap.size (w.heap.size + 1) (MFr w) (fun q => cw q.key) 1048576 (IFr w (.func (.func 34) #[] #[pt bk]) w.heap.size (w.heap.size + 1) cw) ⟨A, K.length, c, K, -9223372036854775808⟩ w hm hm2 (fun b ty h => h.1) _ hE2 (fun b _ h => by rcases h.2 with h | h <;> exact absurd h (by decide)) (fun ds W W' h e => h.ext e) HKR.out (fun q ds W hq hE _ hd hI => from1Get_any base w.heap.size (w.heap.size + 1) bk 1048576 cw w (Nat.le_refl _) HW.out (by omega) q ds W hq hE hd hI) d 1 t [] W hG hW (hfl ▸ HT.out.srt) (fun q hq => HT.out.key q (hfl ▸ hq)) (hE2.tr hE) hE.size ?_ ?_
      · have h1 := List.length_filter_le (geB (⟨A, K.length, c, K, -9223372036854775808⟩ : MP).kp) (flat d t)
        have h2 := HT.out.len
        rw [← hfl] at h2
        simp only [List.length_nil, Nat.zero_add]
        omega
      · have e1 := hE.at ((Ext.al1 (w.alloc (.cells #[(.func (.func 34) #[] #[pt bk])] TW')) (.cells #[.slice none 0 0] TL')).at (heap_alloc_new w (.cells #[(.func (.func 34) #[] #[pt bk])] TW')))
        have e2 := hE.at (heap_alloc_new (w.alloc (.cells #[(.func (.func 34) #[] #[pt bk])] TW')) (.cells #[.slice none 0 0] TL'))
        rw [show (w.alloc (.cells #[(.func (.func 34) #[] #[pt bk])] TW')).heap.size = w.heap.size + 1 by simp] at e2
        exact ⟨e1, Nat.le_refl _, Nat.le_succ _, .slice none 0 0, e2, World.ownsRow_nil _ _ _ _⟩
    have HFL := Lib.hid hfl
    clear hT hG hND hW hfl hF h0 h0'
    go_enter Try.func33, Try.ntmps33
    go_wp2_with fail
    refine Calls.mono (HV.out _ (by repeat (first | exact Ext.refl' _ | assumption | apply Ext.ex' | apply Ext.al | apply Ext.drN | apply Ext.dr))) ?_
    rintro e w3 ⟨b, rfl, hK3, hV⟩
    obtain ⟨ds, hI, hds⟩ := hV.from
    have hE3 : Ext w w3 := hK3.ext (w := w) (Ext.al (Ext.al1 _ _) _) (fun b ty h => h.1)
    obtain ⟨_, _, _, v, hbo, hrow⟩ := hI
    rw [hds] at hrow
    obtain ⟨vA, vc, rfl, _, _, _⟩ := own_form2 hrow
    obtain ⟨ro, o0, _⟩ := one_cell hbo
    have HRW := Lib.hid (Rd.of_own hrow)
    clear hK3 hV hds hbo hrow
    go_wp2
    go_ret
    have hf : fromF l K cw = (((flat d t).filter (geB (K, -9223372036854775808))).takeWhile fun q => cw q.key).map MP.id := by rw [HFL.out]; rfl
    rw [hf, List.length_map]
    exact ⟨vA, vc, rfl, HRW.out, hE3⟩


set_option maxRecDepth 100000 in
set_option maxHeartbeats 4000000 in
theorem from1Prefix_any (base bw bo bk N : Nat) (cw : List Va → Bool) (w : World) (hN : N ≤ 1048576) (hw : ∀ q W, KOk base w q → Ext w W → Calls Try.prog 36 #[.slice q.A q.n q.c, pt bk] W fun e W' => e = .returned (.bool (cw q.key)) ∧ Ext W W') (hne : bw ≠ bo) :
    ∀ q ds W, KOk base w q → Ext w W → ds.length + 1 ≤ N → IFr w (.func (.func 36) #[] #[pt bk]) bw bo cw ds W → Calls Try.prog 56 #[pv q, pt bw, pt bo] W fun e W' => e = .returned (.bool (cw q.key)) ∧ Trn (MFr w) W W' ∧ IFr w (.func (.func 36) #[] #[pt bk]) bw bo cw (ds ++ [q]) W' := by
  intro q ds W hq hE hds hI
  have HW : Hid (∀ W', Ext W W' → Calls Try.prog 36 #[.slice q.A q.n q.c, pt bk] W' fun e W'' => e = .returned (.bool (cw q.key)) ∧ Ext W' W'') := Lib.hid fun W' hE' => hw q W' hq (hE.tr hE')
  have HI := Lib.hid hI
  obtain ⟨hbw, hbw0, hbo0, v, hbo, hrow⟩ := hI
  have HB := Lib.hid hbw
  obtain ⟨vA, vc, rfl, _, _, _⟩ := own_form2 hrow
  have hfl : (ds.filter fun q => cw q.key).length ≤ ds.length := List.length_filter_le _ _
  have HFL : Hid ((ds.filter fun q => cw q.key).length ≤ ds.length) := Lib.hid hfl
  obtain ⟨nf, hnf⟩ : ∃ nf, (ds.filter fun q => cw q.key).length = nf := ⟨_, rfl⟩
  rw [hnf] at hbo hrow hfl
  have HNF := Lib.hid hnf
  obtain ⟨rw', w0, wf0⟩ := one_cell hbw
  obtain ⟨ro, o0, of0⟩ := one_cell hbo
  have HR := Lib.hid hrow
  have HO := Lib.hid hbo
  have HW0 := Lib.hid hE
  have HHH := Lib.hid (And.intro hbw0 hbo0)
  clear hbw hbo hrow hw hq hnf hE hbw0 hbo0
  cases hc : cw q.key with
  | false =>
    rw [hc] at HW
    have HC := Lib.hid hc
    clear hc
    go_enter Try.func56, Try.ntmps56
    go_wp2_with (go_at_call 36; refine Calls.mono (HW.out _ (by repeat (first | exact Ext.refl' _ | assumption | apply Ext.ex' | apply Ext.al | apply Ext.drN | apply Ext.dr))) ?_; rintro e w1 ⟨rfl, hb1⟩; have hE1 : Ext W w1 := (Ext.al1 _ _).tr hb1)
    go_ret
    refine ⟨rfl, Trn.ofExt (by repeat (first | exact Ext.refl' _ | assumption | apply Ext.ex' | apply Ext.al | apply Ext.drN | apply Ext.dr)), ?_⟩
    have := HI.out.ext (show Ext W w1 from by repeat (first | exact Ext.refl' _ | assumption | apply Ext.ex' | apply Ext.al | apply Ext.drN | apply Ext.dr))
    obtain ⟨h1, h2, h3, v, h4, h5⟩ := this
    refine ⟨h1, h2, h3, v, h4, ?_⟩
    rw [List.filter_append, show List.filter (fun q => cw q.key) [q] = [] by rw [List.filter_cons, HC.out]; rfl, List.append_nil]
    exact h5
  | true =>
    rw [hc] at HW
    have HC := Lib.hid hc
    clear hc
    go_enter Try.func56, Try.ntmps56
    go_wp2_with fail
    refine Calls.mono (HW.out _ (by repeat (first | exact Ext.refl' _ | assumption | apply Ext.ex' | apply Ext.al | apply Ext.drN | apply Ext.dr))) ?_
    rintro e w1 ⟨rfl, hb1⟩
    have hE1 : Ext W w1 := (Ext.al1 _ _).tr hb1
    have hbx := al_at hb1
    obtain ⟨_, z0, z1, _, _⟩ := two_cells hbx
    obtain ⟨ro, o0, of0⟩ := one_cell (hE1.at HO.out)
    have hro0 := (Array.getElem?_eq_some_iff.1 HO.out).1
    have HE1 := Lib.hid hE1
    obtain ⟨bx, hbxe⟩ : ∃ bx, W.heap.size = bx := ⟨_, rfl⟩
    rw [hbxe] at hbx z0 z1 hro0 ⊢
    have hbl := (Array.getElem?_eq_some_iff.1 hbx).1
    clear hb1 hbx
    have hap : ∀ {W' : World}, Ext w1 W' → W'.ownsRow w.heap.size TI' 1 (.slice vA nf vc) nf (ic ((ds.filter fun q => cw q.key).map MP.id)) := fun e => ownsRow_ext HR.out (HE1.out.tr e)
    have HAP : Hid (∀ (W' : World), Ext w1 W' → W'.ownsRow w.heap.size TI' 1 (.slice vA nf vc) nf (ic ((ds.filter fun q => cw q.key).map MP.id))) := Lib.hid fun W' e => hap e
    clear hap
    go_wp2_with (at_builtin; refine wpList_app3 _ rfl (.tmp 10) (.tmp 13) rfl elI w.heap.size (Nat.le_trans HW0.out.size (HE1.out.tr (by repeat (first | exact Ext.refl' _ | assumption | apply Ext.ex' | apply Ext.al | apply Ext.drN | apply Ext.dr))).size) (.slice vA nf vc) nf _ rfl (HAP.out _ (by repeat (first | exact Ext.refl' _ | assumption | apply Ext.ex' | apply Ext.al | apply Ext.drN | apply Ext.dr))) (some ⟨w1.heap.size, 0, none⟩) 1 1 [.int .i64 q.id] rfl (Rd.lit _ _ _ _ _ rfl rfl) (by intro u hu; simp at hu; subst hu; rfl) (by unfold maxLen; omega) (by omega) ?_; intro v2 w2 ho2 hg2 hn2; obtain ⟨A2, k2, rfl, _, _, _⟩ := own_form2 ho2; have hg2 := Lib.hid hg2; have hbo2 : w2.heap[bo]? = some (.cells #[.slice vA nf vc] TL' (0, 0)) := (World.grownBy.block hg2.out bo (Nat.lt_of_lt_of_le (Array.getElem?_eq_some_iff.1 HO.out).1 (HE1.out.tr (by repeat (first | exact Ext.refl' _ | assumption | apply Ext.ex' | apply Ext.al | apply Ext.drN | apply Ext.dr))).size) (fun e => by
      obtain ⟨c0, hc0⟩ := own_typ HR.out e.symm
      rw [HO.out] at hc0
      simp at hc0
      exact absurd hc0.2 (by decide))).trans ((HE1.out.tr (by repeat (first | exact Ext.refl' _ | assumption | apply Ext.ex' | apply Ext.al | apply Ext.drN | apply Ext.dr))).at HO.out); obtain ⟨ro2, o2, of2⟩ := one_cell hbo2; have HBO2 := Lib.hid hbo2; have HO2 := Lib.hid ho2; clear hbo2 ho2)
    go_ret
    have hEA : Ext W (w1.alloc (.cells #[.int .i64 q.id] TI')) := HE1.out.tr (Ext.al1 _ _)
    have hTr : Trn (MFr w) W w2 := (Trn.ofExt hEA).trans (Trn.grown hg2.out fun g hg => by
      obtain ⟨c0, hc0⟩ := own_typ (HAP.out _ (Ext.al1 w1 (.cells #[.int .i64 q.id] TI'))) hg
      exact ⟨c0, TI', _, hc0, (HR.out.lt g hg).1, .inl rfl⟩)
    refine ⟨rfl, hTr.trans (Trn.set HBO2.out ⟨HHH.out.2, .inr rfl⟩), ?_⟩
    have hbw2 : w2.heap[bw]? = _ := hTr.block HB.out (fun h => by rcases h.2 with h | h <;> exact absurd h (by decide))
    refine ⟨(set_other hne).trans hbw2, HHH.out.1, HHH.out.2, .slice A2 (nf + 1) k2, set_heap HBO2.out 0 _, ?_⟩
    have h3 : (w2.setCell ⟨bo, 0, none⟩ (.slice A2 (nf + 1) k2)).ownsRow w.heap.size TI' 1 (.slice A2 (nf + 1) k2) (nf + 1) _ := ownsRow_same HO2.out fun g hg => set_other fun e => by
      obtain ⟨c0, hc0⟩ := own_typ HO2.out hg
      rw [e, HBO2.out] at hc0
      simp at hc0
      exact absurd hc0.2 (by decide)
    have hfa : (ds ++ [q]).filter (fun q => cw q.key) = ds.filter (fun q => cw q.key) ++ [q] := by rw [List.filter_append, show List.filter (fun q => cw q.key) [q] = [q] by rw [List.filter_cons, if_pos HC.out]; rfl]
    rw [hfa, List.length_append, HNF.out, List.map_append, show ic (List.map MP.id (ds.filter fun q => cw q.key) ++ List.map MP.id [q]) = ic (List.map MP.id (ds.filter fun q => cw q.key)) ++ [.int .i64 q.id] by simp [ic]]
    exact h3
set_option maxRecDepth 100000 in
set_option maxHeartbeats 8000000 in
theorem fromPrefix_any (base m tb bk : Nat) (l : List MP) (F : List Nat) (A : Option Addr) (c : Nat) (K : List Va) (cw : List Va → Bool) (w : World) (hm : 2 ≤ m) (hm2 : m ≤ 64) (hT : TreeIs base w tb m l F) (hR : Rd w 3 A K.length (vcl K)) (hK : K.length ≤ 1048576)
    (hw : ∀ q W, KOk base w q → Ext w W → Calls Try.prog 36 #[.slice q.A q.n q.c, pt bk] W fun e W' => e = .returned (.bool (cw q.key)) ∧ Ext W W') :
    Calls Try.prog 33 #[pt tb, .slice A K.length c, (.func (.func 36) #[] #[pt bk])] w fun e w' => ∃ A' c', e = .returned (.slice A' (fromF l K cw).length c') ∧ Rd w' 1 A' (fromF l K cw).length (ic (fromF l K cw)) ∧ Ext w w' := by
  have HW := Lib.hid hw
  have HT := Lib.hid hT
  have HKR : Hid (KR w (⟨A, K.length, c, K, -9223372036854775808⟩ : MP)) := Lib.hid ⟨rfl, hR, hK⟩
  clear hw hR
  rcases hT.root with ⟨hl0, hF0, h0⟩ | ⟨d, t, h0, hG, hND, hW, hfl, hF⟩
  · have HL0 := Lib.hid hl0
    obtain ⟨rb, c0, _, _, _, _, _⟩ := three_cells h0
    clear hT hl0 hF0 h0
    go_enter Try.func33, Try.ntmps33
    go_wp2_with fail
    refine Calls.mono (visit_nil ⟨A, K.length, c, K, -9223372036854775808⟩ _ _) ?_
    rintro e w3 ⟨rfl, hb3⟩
    obtain ⟨x3, rfl⟩ := hb3.get
    clear hb3
    go_wp2
    go_ret
    have hf : fromF l K cw = [] := by rw [HL0.out]; rfl
    rw [hf]
    exact ⟨none, 0, rfl, Rd.nil, by repeat (first | exact Ext.refl' _ | assumption | apply Ext.ex' | apply Ext.al | apply Ext.drN | apply Ext.dr)⟩
  · have h0' := h0
    obtain ⟨rb, c0, _, _, _, _, _⟩ := three_cells h0
    have HV : Hid (∀ W, Ext ((w.alloc (.cells #[(.func (.func 36) #[] #[pt bk])] TW')).alloc (.cells #[.slice none 0 0] TL')) W → Calls Try.prog 38 #[pt t.r, pv ⟨A, K.length, c, K, -9223372036854775808⟩, .func (.func 56) #[] #[pt w.heap.size, pt (w.heap.size + 1)]] W (VisP (MFr w) (fun q => cw q.key) (IFr w (.func (.func 36) #[] #[pt bk]) w.heap.size (w.heap.size + 1) cw) W [] ((flat d t).filter (geB (K, -9223372036854775808))))) := Lib.hid fun W hE => by
      have hE2 : Ext w ((w.alloc (.cells #[(.func (.func 36) #[] #[pt bk])] TW')).alloc (.cells #[.slice none 0 0] TL')) := Ext.al (Ext.al1 _ _) _
      refine visitF_any base m w.heap.size (w.heap.size + 1) (MFr w) (fun q => cw q.key) 1048576 (IFr w (.func (.func 36) #[] #[pt bk]) w.heap.size (w.heap.size + 1) cw) ⟨A, K.length, c, K, -9223372036854775808⟩ w hm hm2 (fun b ty h => h.1) _ hE2 (fun b _ h => by rcases h.2 with h | h <;> exact absurd h (by decide)) (fun ds W W' h e => h.ext e) HKR.out (fun q ds W hq hE _ hd hI => from1Prefix_any base w.heap.size (w.heap.size + 1) bk 1048576 cw w (Nat.le_refl _) HW.out (by omega) q ds W hq hE hd hI) d 1 t [] W hG hW (hfl ▸ HT.out.srt) (fun q hq => HT.out.key q (hfl ▸ hq)) (hE2.tr hE) hE.size ?_ ?_
      · have h1 := List.length_filter_le (geB (⟨A, K.length, c, K, -9223372036854775808⟩ : MP).kp) (flat d t)
        have h2 := HT.out.len
        rw [← hfl] at h2
        simp only [List.length_nil, Nat.zero_add]
        omega
      · have e1 := hE.at ((Ext.al1 (w.alloc (.cells #[(.func (.func 36) #[] #[pt bk])] TW')) (.cells #[.slice none 0 0] TL')).at (heap_alloc_new w (.cells #[(.func (.func 36) #[] #[pt bk])] TW')))
        have e2 := hE.at (heap_alloc_new (w.alloc (.cells #[(.func (.func 36) #[] #[pt bk])] TW')) (.cells #[.slice none 0 0] TL'))
        rw [show (w.alloc (.cells #[(.func (.func 36) #[] #[pt bk])] TW')).heap.size = w.heap.size + 1 by simp] at e2
        exact ⟨e1, Nat.le_refl _, Nat.le_succ _, .slice none 0 0, e2, World.ownsRow_nil _ _ _ _⟩
    have HFL := Lib.hid hfl
    clear hT hG hND hW hfl hF h0 h0'
    go_enter Try.func33, Try.ntmps33
    go_wp2_with fail
    refine Calls.mono (HV.out _ (by repeat (first | exact Ext.refl' _ | assumption | apply Ext.ex' | apply Ext.al | apply Ext.drN | apply Ext.dr))) ?_
    rintro e w3 ⟨b, rfl, hK3, hV⟩
    obtain ⟨ds, hI, hds⟩ := hV.from
    have hE3 : Ext w w3 := hK3.ext (w := w) (Ext.al (Ext.al1 _ _) _) (fun b ty h => h.1)
    obtain ⟨_, _, _, v, hbo, hrow⟩ := hI
    rw [hds] at hrow
    obtain ⟨vA, vc, rfl, _, _, _⟩ := own_form2 hrow
    obtain ⟨ro, o0, _⟩ := one_cell hbo
    have HRW := Lib.hid (Rd.of_own hrow)
    clear hK3 hV hds hbo hrow
    go_wp2
    go_ret
    have hf : fromF l K cw = (((flat d t).filter (geB (K, -9223372036854775808))).takeWhile fun q => cw q.key).map MP.id := by rw [HFL.out]; rfl
    rw [hf, List.length_map]
    exact ⟨vA, vc, rfl, HRW.out, hE3⟩


set_option maxRecDepth 100000 in
set_option maxHeartbeats 4000000 in
theorem from1Range_any (base bw bo bk N : Nat) (cw : List Va → Bool) (w : World) (hN : N ≤ 1048576) (hw : ∀ q W, KOk base w q → Ext w W → Calls Try.prog 37 #[.slice q.A q.n q.c, pt bk] W fun e W' => e = .returned (.bool (cw q.key)) ∧ Ext W W') (hne : bw ≠ bo) :
    ∀ q ds W, KOk base w q → Ext w W → ds.length + 1 ≤ N → IFr w (.func (.func 37) #[] #[pt bk]) bw bo cw ds W → Calls Try.prog 56 #[pv q, pt bw, pt bo] W fun e W' => e = .returned (.bool (cw q.key)) ∧ Trn (MFr w) W W' ∧ IFr w (.func (.func 37) #[] #[pt bk]) bw bo cw (ds ++ [q]) W' := by
  intro q ds W hq hE hds hI
  have HW : Hid (∀ W', Ext W W' → Calls Try.prog 37 #[.slice q.A q.n q.c, pt bk] W' fun e W'' => e = .returned (.bool (cw q.key)) ∧ Ext W' W'') := Lib.hid fun W' hE' => hw q W' hq (hE.tr hE')
  have HI := Lib.hid hI
  obtain ⟨hbw, hbw0, hbo0, v, hbo, hrow⟩ := hI
  have HB := Lib.hid hbw
  obtain ⟨vA, vc, rfl, _, _, _⟩ := own_form2 hrow
  have hfl : (ds.filter fun q => cw q.key).length ≤ ds.length := List.length_filter_le _ _
  have HFL : Hid ((ds.filter fun q => cw q.key).length ≤ ds.length) := Lib.hid hfl
  obtain ⟨nf, hnf⟩ : ∃ nf, (ds.filter fun q => cw q.key).length = nf := ⟨_, rfl⟩
  rw [hnf] at hbo hrow hfl
  have HNF := Lib.hid hnf
  obtain ⟨rw', w0, wf0⟩ := one_cell hbw
  obtain ⟨ro, o0, of0⟩ := one_cell hbo
  have HR := Lib.hid hrow
  have HO := Lib.hid hbo
  have HW0 := Lib.hid hE
  have HHH := Lib.hid (And.intro hbw0 hbo0)
  clear hbw hbo hrow hw hq hnf hE hbw0 hbo0
  cases hc : cw q.key with
  | false =>
    rw [hc] at HW
    have HC := Lib.hid hc
    clear hc
    go_enter Try.func56, Try.ntmps56
    go_wp2_with (go_at_call 37; refine Calls.mono (HW.out _ (by repeat (first | exact Ext.refl' _ | assumption | apply Ext.ex' | apply Ext.al | apply Ext.drN | apply Ext.dr))) ?_; rintro e w1 ⟨rfl, hb1⟩; have hE1 : Ext W w1 := (Ext.al1 _ _).tr hb1)
    go_ret
    refine ⟨rfl, Trn.ofExt (by repeat (first | exact Ext.refl' _ | assumption | apply Ext.ex' | apply Ext.al | apply Ext.drN | apply Ext.dr)), ?_⟩
    have := HI.out.ext (show Ext W w1 from by repeat (first | exact Ext.refl' _ | assumption | apply Ext.ex' | apply Ext.al | apply Ext.drN | apply Ext.dr))
    obtain ⟨h1, h2, h3, v, h4, h5⟩ := this
    refine ⟨h1, h2, h3, v, h4, ?_⟩
    rw [List.filter_append, show List.filter (fun q => cw q.key) [q] = [] by rw [List.filter_cons, HC.out]; rfl, List.append_nil]
    exact h5
  | true =>
    rw [hc] at HW
    have HC := Lib.hid hc
    clear hc
    go_enter Try.func56, Try.ntmps56
    go_wp2_with fail
    refine Calls.mono (HW.out _ (by repeat (first | exact Ext.refl' _ | assumption | apply Ext.ex' | apply Ext.al | apply Ext.drN | apply Ext.dr))) ?_
    rintro e w1 ⟨rfl, hb1⟩
    have hE1 : Ext W w1 := (Ext.al1 _ _).tr hb1
    have hbx := al_at hb1
    obtain ⟨_, z0, z1, _, _⟩ := two_cells hbx
    obtain ⟨ro, o0, of0⟩ := one_cell (hE1.at HO.out)
    have hro0 := (Array.getElem?_eq_some_iff.1 HO.out).1
    have HE1 := Lib.hid hE1
    obtain ⟨bx, hbxe⟩ : ∃ bx, W.heap.size = bx := ⟨_, rfl⟩
    rw [hbxe] at hbx z0 z1 hro0 ⊢
    have hbl := (Array.getElem?_eq_some_iff.1 hbx).1
    clear hb1 hbx
    have hap : ∀ {W' : World}, Ext w1 W' → W'.ownsRow w.heap.size TI' 1 (.slice vA nf vc) nf (ic ((ds.filter fun q => cw q.key).map MP.id)) := fun e => ownsRow_ext HR.out (HE1.out.tr e)
    have HAP : Hid (∀ (W' : World), Ext w1 W' → W'.ownsRow w.heap.size TI' 1 (.slice vA nf vc) nf (ic ((ds.filter fun q => cw q.key).map MP.id))) := Lib.hid fun W' e => hap e
    clear hap
    go_wp2_with (at_builtin; refine wpList_app3 _ rfl (.tmp 10) (.tmp 13) rfl elI w.heap.size (Nat.le_trans HW0.out.size (HE1.out.tr (by repeat (first | exact Ext.refl' _ | assumption | apply Ext.ex' | apply Ext.al | apply Ext.drN | apply Ext.dr))).size) (.slice vA nf vc) nf _ rfl (HAP.out _ (by repeat (first | exact Ext.refl' _ | assumption | apply Ext.ex' | apply Ext.al | apply Ext.drN | apply Ext.dr))) (some ⟨w1.heap.size, 0, none⟩) 1 1 [.int .i64 q.id] rfl (Rd.lit _ _ _ _ _ rfl rfl) (by intro u hu; simp at hu; subst hu; rfl) (by unfold maxLen; omega) (by omega) ?_; intro v2 w2 ho2 hg2 hn2; obtain ⟨A2, k2, rfl, _, _, _⟩ := own_form2 ho2; have hg2 := Lib.hid hg2; have hbo2 : w2.heap[bo]? = some (.cells #[.slice vA nf vc] TL' (0, 0)) := (World.grownBy.block hg2.out bo (Nat.lt_of_lt_of_le (Array.getElem?_eq_some_iff.1 HO.out).1 (HE1.out.tr (by repeat (first | exact Ext.refl' _ | assumption | apply Ext.ex' | apply Ext.al | apply Ext.drN | apply Ext.dr))).size) (fun e => by
      obtain ⟨c0, hc0⟩ := own_typ HR.out e.symm
      rw [HO.out] at hc0
      simp at hc0
      exact absurd hc0.2 (by decide))).trans ((HE1.out.tr (by repeat (first | exact Ext.refl' _ | assumption | apply Ext.ex' | apply Ext.al | apply Ext.drN | apply Ext.dr))).at HO.out); obtain ⟨ro2, o2, of2⟩ := one_cell hbo2; have HBO2 := Lib.hid hbo2; have HO2 := Lib.hid ho2; clear hbo2 ho2)
    go_ret
    have hEA : Ext W (w1.alloc (.cells #[.int .i64 q.id] TI')) := HE1.out.tr (Ext.al1 _ _)
    have hTr : Trn (MFr w) W w2 := (Trn.ofExt hEA).trans (Trn.grown hg2.out fun g hg => by
      obtain ⟨c0, hc0⟩ := own_typ (HAP.out _ (Ext.al1 w1 (.cells #[.int .i64 q.id] TI'))) hg
      exact ⟨c0, TI', _, hc0, (HR.out.lt g hg).1, .inl rfl⟩)
    refine ⟨rfl, hTr.trans (Trn.set HBO2.out ⟨HHH.out.2, .inr rfl⟩), ?_⟩
    have hbw2 : w2.heap[bw]? = _ := hTr.block HB.out (fun h => by rcases h.2 with h | h <;> exact absurd h (by decide))
    refine ⟨(set_other hne).trans hbw2, HHH.out.1, HHH.out.2, .slice A2 (nf + 1) k2, set_heap HBO2.out 0 _, ?_⟩
    have h3 : (w2.setCell ⟨bo, 0, none⟩ (.slice A2 (nf + 1) k2)).ownsRow w.heap.size TI' 1 (.slice A2 (nf + 1) k2) (nf + 1) _ := ownsRow_same HO2.out fun g hg => set_other fun e => by
      obtain ⟨c0, hc0⟩ := own_typ HO2.out hg
      rw [e, HBO2.out] at hc0
      simp at hc0
      exact absurd hc0.2 (by decide)
    have hfa : (ds ++ [q]).filter (fun q => cw q.key) = ds.filter (fun q => cw q.key) ++ [q] := by rw [List.filter_append, show List.filter (fun q => cw q.key) [q] = [q] by rw [List.filter_cons, if_pos HC.out]; rfl]
    rw [hfa, List.length_append, HNF.out, List.map_append, show ic (List.map MP.id (ds.filter fun q => cw q.key) ++ List.map MP.id [q]) = ic (List.map MP.id (ds.filter fun q => cw q.key)) ++ [.int .i64 q.id] by simp [ic]]
    exact h3
set_option maxRecDepth 100000 in
set_option maxHeartbeats 8000000 in
theorem fromRange_any (base m tb bk : Nat) (l : List MP) (F : List Nat) (A : Option Addr) (c : Nat) (K : List Va) (cw : List Va → Bool) (w : World) (hm : 2 ≤ m) (hm2 : m ≤ 64) (hT : TreeIs base w tb m l F) (hR : Rd w 3 A K.length (vcl K)) (hK : K.length ≤ 1048576)
    (hw : ∀ q W, KOk base w q → Ext w W → Calls Try.prog 37 #[.slice q.A q.n q.c, pt bk] W fun e W' => e = .returned (.bool (cw q.key)) ∧ Ext W W') :
    Calls Try.prog 33 #[pt tb, .slice A K.length c, (.func (.func 37) #[] #[pt bk])] w fun e w' => ∃ A' c', e = .returned (.slice A' (fromF l K cw).length c') ∧ Rd w' 1 A' (fromF l K cw).length (ic (fromF l K cw)) ∧ Ext w w' := by
  have HW := Lib.hid hw
  have HT := Lib.hid hT
  have HKR : Hid (KR w (⟨A, K.length, c, K, -9223372036854775808⟩ : MP)) := Lib.hid ⟨rfl, hR, hK⟩
  clear hw hR
  rcases hT.root with ⟨hl0, hF0, h0⟩ | ⟨d, t, h0, hG, hND, hW, hfl, hF⟩
  · have HL0 := Lib.hid hl0
    obtain ⟨rb, c0, _, _, _, _, _⟩ := three_cells h0
    clear hT hl0 hF0 h0
    go_enter Try.func33, Try.ntmps33
    go_wp2_with fail
    refine Calls.mono (visit_nil ⟨A, K.length, c, K, -9223372036854775808⟩ _ _) ?_
    rintro e w3 ⟨rfl, hb3⟩
    obtain ⟨x3, rfl⟩ := hb3.get
    clear hb3
    go_wp2
    go_ret
    have hf : fromF l K cw = [] := by rw [HL0.out]; rfl
    rw [hf]
    exact ⟨none, 0, rfl, Rd.nil, by repeat (first | exact Ext.refl' _ | assumption | apply Ext.ex' | apply Ext.al | apply Ext.drN | apply Ext.dr)⟩
  · have h0' := h0
    obtain ⟨rb, c0, _, _, _, _, _⟩ := three_cells h0
    have HV : Hid (∀ W, Ext ((w.alloc (.cells #[(.func (.func 37) #[] #[pt bk])] TW')).alloc (.cells #[.slice none 0 0] TL')) W → Calls Try.prog 38 #[pt t.r, pv ⟨A, K.length, c, K, -9223372036854775808⟩, .func (.func 56) #[] #[pt w.heap.size, pt (w.heap.size + 1)]] W (VisP (MFr w) (fun q => cw q.key) (IFr w (.func (.func 37) #[] #[pt bk]) w.heap.size (w.heap.size + 1) cw) W [] ((flat d t).filter (geB (K, -9223372036854775808))))) := Lib.hid fun W hE => by
      have hE2 : Ext w ((w.alloc (.cells #[(.func (.func 37) #[] #[pt bk])] TW')).alloc (.cells #[.slice none 0 0] TL')) := Ext.al (Ext.al1 _ _) _
      refine visitF_any base m w.heap.size (w.heap.size + 1) (MFr w) (fun q => cw q.key) 1048576 (IFr w (.func (.func 37) #[] #[pt bk]) w.heap.size (w.heap.size + 1) cw) ⟨A, K.length, c, K, -9223372036854775808⟩ w hm hm2 (fun b ty h => h.1) _ hE2 (fun b _ h => by rcases h.2 with h | h <;> exact absurd h (by decide)) (fun ds W W' h e => h.ext e) HKR.out (fun q ds W hq hE _ hd hI => from1Range_any base w.heap.size (w.heap.size + 1) bk 1048576 cw w (Nat.le_refl _) HW.out (by omega) q ds W hq hE hd hI) d 1 t [] W hG hW (hfl ▸ HT.out.srt) (fun q hq => HT.out.key q (hfl ▸ hq)) (hE2.tr hE) hE.size ?_ ?_
      · have h1 := List.length_filter_le (geB (⟨A, K.length, c, K, -9223372036854775808⟩ : MP).kp) (flat d t)
        have h2 := HT.out.len
        rw [← hfl] at h2
        simp only [List.length_nil, Nat.zero_add]
        omega
      · have e1 := hE.at ((Ext.al1 (w.alloc (.cells #[(.func (.func 37) #[] #[pt bk])] TW')) (.cells #[.slice none 0 0] TL')).at (heap_alloc_new w (.cells #[(.func (.func 37) #[] #[pt bk])] TW')))
        have e2 := hE.at (heap_alloc_new (w.alloc (.cells #[(.func (.func 37) #[] #[pt bk])] TW')) (.cells #[.slice none 0 0] TL'))
        rw [show (w.alloc (.cells #[(.func (.func 37) #[] #[pt bk])] TW')).heap.size = w.heap.size + 1 by simp] at e2
        exact ⟨e1, Nat.le_refl _, Nat.le_succ _, .slice none 0 0, e2, World.ownsRow_nil _ _ _ _⟩
    have HFL := Lib.hid hfl
    clear hT hG hND hW hfl hF h0 h0'
    go_enter Try.func33, Try.ntmps33
    go_wp2_with fail
    refine Calls.mono (HV.out _ (by repeat (first | exact Ext.refl' _ | assumption | apply Ext.ex' | apply Ext.al | apply Ext.drN | apply Ext.dr))) ?_
    rintro e w3 ⟨b, rfl, hK3, hV⟩
    obtain ⟨ds, hI, hds⟩ := hV.from
    have hE3 : Ext w w3 := hK3.ext (w := w) (Ext.al (Ext.al1 _ _) _) (fun b ty h => h.1)
    obtain ⟨_, _, _, v, hbo, hrow⟩ := hI
    rw [hds] at hrow
    obtain ⟨vA, vc, rfl, _, _, _⟩ := own_form2 hrow
    obtain ⟨ro, o0, _⟩ := one_cell hbo
    have HRW := Lib.hid (Rd.of_own hrow)
    clear hK3 hV hds hbo hrow
    go_wp2
    go_ret
    have hf : fromF l K cw = (((flat d t).filter (geB (K, -9223372036854775808))).takeWhile fun q => cw q.key).map MP.id := by rw [HFL.out]; rfl
    rw [hf, List.length_map]
    exact ⟨vA, vc, rfl, HRW.out, hE3⟩


set_option maxHeartbeats 4000000 in
theorem Get_any (base m tb : Nat) (l : List MP) (F : List Nat) (A : Option Addr) (n c : Nat) (K : List Va) (w : World) (hm : 2 ≤ m) (hm2 : m ≤ 64) (hT : TreeIs base w tb m l F) (hR : Rd w 3 A n (vcl K)) (hn : n = K.length) (hK : K.length ≤ 1048576) :
    Calls Try.prog 12 #[pt tb, .slice A n c] w fun e w' => ∃ A' c', e = .returned (.slice A' (fromF l K (fun k => decide (cmpR k K = 0))).length c') ∧ Rd w' 1 A' (fromF l K (fun k => decide (cmpR k K = 0))).length (ic (fromF l K (fun k => decide (cmpR k K = 0)))) ∧ Ext w w' := by
  subst hn
  have hE0 : Ext w (w.alloc (.cells #[.slice A K.length c] 22)) := Ext.al1 _ _
  have HF := Lib.hid (fromGet_any base m tb w.heap.size l F A c K (fun k => decide (cmpR k K = 0)) _ hm hm2 (hT.ext hE0) (hR.ext hE0) hK (fun q W hq hE => wGet_any q w.heap.size A c K _ W (hq.kr.ext hE) hq.2.1.2 (hR.ext (hE0.tr hE)) hK (hE.at (heap_alloc_new _ _))))
  clear hT hR
  go_enter Try.func12, Try.ntmps12
  go_wp2_with fail
  refine Calls.mono HF.out ?_
  rintro e w1 ⟨A', c', rfl, hR', hb1⟩
  have hE1 := hE0.tr hb1
  clear hb1
  go_wp2
  go_ret
  exact ⟨A', c', rfl, hR', hE1⟩


set_option maxHeartbeats 4000000 in
theorem Prefix_any (base m tb : Nat) (l : List MP) (F : List Nat) (A : Option Addr) (n c : Nat) (K : List Va) (w : World) (hm : 2 ≤ m) (hm2 : m ≤ 64) (hT : TreeIs base w tb m l F) (hR : Rd w 3 A n (vcl K)) (hn : n = K.length) (hK : K.length ≤ 1048576) :
    Calls Try.prog 13 #[pt tb, .slice A n c] w fun e w' => ∃ A' c', e = .returned (.slice A' (fromF l K (fun k => (decide (K.length ≤ k.length) && decide (cmpR (k.take K.length) K = 0)))).length c') ∧ Rd w' 1 A' (fromF l K (fun k => (decide (K.length ≤ k.length) && decide (cmpR (k.take K.length) K = 0)))).length (ic (fromF l K (fun k => (decide (K.length ≤ k.length) && decide (cmpR (k.take K.length) K = 0))))) ∧ Ext w w' := by
  subst hn
  have hE0 : Ext w (w.alloc (.cells #[.slice A K.length c] 22)) := Ext.al1 _ _
  have HF := Lib.hid (fromPrefix_any base m tb w.heap.size l F A c K (fun k => (decide (K.length ≤ k.length) && decide (cmpR (k.take K.length) K = 0))) _ hm hm2 (hT.ext hE0) (hR.ext hE0) hK (fun q W hq hE => wPrefix_any q w.heap.size A c K _ W (hq.kr.ext hE) hq.2.1.2 (hR.ext (hE0.tr hE)) hK (hE.at (heap_alloc_new _ _))))
  clear hT hR
  go_enter Try.func13, Try.ntmps13
  go_wp2_with fail
  refine Calls.mono HF.out ?_
  rintro e w1 ⟨A', c', rfl, hR', hb1⟩
  have hE1 := hE0.tr hb1
  clear hb1
  go_wp2
  go_ret
  exact ⟨A', c', rfl, hR', hE1⟩


set_option maxHeartbeats 4000000 in
theorem Range_any (base m tb : Nat) (l : List MP) (F : List Nat) (A0 : Option Addr) (n0 c0 : Nat) (K0 : List Va) (A : Option Addr) (n c : Nat) (K : List Va) (w : World) (hm : 2 ≤ m) (hm2 : m ≤ 64) (hT : TreeIs base w tb m l F) (hR0 : Rd w 3 A0 n0 (vcl K0)) (hn0 : n0 = K0.length) (hK0 : K0.length ≤ 1048576) (hR : Rd w 3 A n (vcl K)) (hn : n = K.length) (hK : K.length ≤ 1048576) :
    Calls Try.prog 14 #[pt tb, .slice A0 n0 c0, .slice A n c] w fun e w' => ∃ A' c', e = .returned (.slice A' (fromF l K0 (fun k => decide (cmpR k K < 0))).length c') ∧ Rd w' 1 A' (fromF l K0 (fun k => decide (cmpR k K < 0))).length (ic (fromF l K0 (fun k => decide (cmpR k K < 0)))) ∧ Ext w w' := by
  subst hn hn0
  have hE0 : Ext w (w.alloc (.cells #[.slice A K.length c] 22)) := Ext.al1 _ _
  have HF := Lib.hid (fromRange_any base m tb w.heap.size l F A0 c0 K0 (fun k => decide (cmpR k K < 0)) _ hm hm2 (hT.ext hE0) (hR0.ext hE0) hK0 (fun q W hq hE => wRange_any q w.heap.size A c K _ W (hq.kr.ext hE) hq.2.1.2 (hR.ext (hE0.tr hE)) hK (hE.at (heap_alloc_new _ _))))
  clear hT hR hR0
  go_enter Try.func14, Try.ntmps14
  go_wp2_with fail
  refine Calls.mono HF.out ?_
  rintro e w1 ⟨A', c', rfl, hR', hb1⟩
  have hE1 := hE0.tr hb1
  clear hb1
  go_wp2
  go_ret
  exact ⟨A', c', rfl, hR', hE1⟩

end Go.Proofs.Ytdmbgimehepfaaa
