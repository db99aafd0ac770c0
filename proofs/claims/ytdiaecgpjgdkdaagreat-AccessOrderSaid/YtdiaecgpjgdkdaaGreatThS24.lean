/- Lemmas for the rows: BtFr BtLp BtCk BtKc BtFo. -/
import Derived.Test.YtdiaecgpjgdkdaaGreatThS23
import Derived.Test.YtdiaecgpjgdkdaaGreatThS05
import Derived.Test.YtdiaecgpjgdkdaaGreatThS22
import Derived.Deep.LoopGhost
set_option linter.unusedSimpArgs false
set_option linter.unusedVariables false
namespace Go.Proofs.YtdiaecgpjgdkdaaGreat
open Go.RowKit

abbrev TI' : TypeId := 3
abbrev TL' : TypeId := 23
abbrev TW' : TypeId := 268
theorem elI : El Tryz.prog 23 3 (.int .i64 0) 1 8 := ⟨Tryz.underlying23, info_parts (by kernel_rfl), rfl, by decide⟩
def IFr (w : World) (WV : Value) (bw bo : Nat) (cw : List Va → Bool) (ds : List MP) (W : World) : Prop :=
 W.heap[bw]? = some (.cells #[WV] TW' (0, 0)) ∧ w.heap.size ≤ bw ∧ w.heap.size ≤ bo ∧ ∃ v, W.heap[bo]? = some (.cells #[v] TL' (0, 0)) ∧ W.ownsRow w.heap.size TI' 1 v (ds.filter fun q => cw q.key).length (ic ((ds.filter fun q => cw q.key).map MP.id))
def MFr (w : World) (b : Nat) (ty : TypeId) : Prop := w.heap.size ≤ b ∧ (ty = TI' ∨ ty = TL')
theorem IFr.ext {w W W' : World} {WV : Value} {bw bo : Nat} {cw : List Va → Bool} {ds : List MP} (h : IFr w WV bw bo cw ds W) (e : Ext W W') : IFr w WV bw bo cw ds W' := by
 obtain ⟨h1, h2, h3, v, h4, h5⟩ := h
 exact ⟨e.at h1, h2, h3, v, e.at h4, ownsRow_extB h5 e⟩
theorem own_typ {w : World} {base g : Nat} {e : TypeId} {size n : Nat} {v : Value} {xs : List Value} (h : w.ownsRow base e size v n xs) (hg : v.ownBlock = some g) : ∃ c, w.heap[g]? = some (.cells c e (0, 0)) := by
 rcases own_forms h with ⟨rfl, _, _⟩ | ⟨g', cap, cur, rfl, hB, _, _⟩
 ·
  cases hg
 ·
  have : g' = g := by simpa [Value.ownBlock] using hg
  subst this
  exact ⟨_, hB.hp⟩
theorem Trn.grown {M : Nat → TypeId → Prop} {W W' : World} {row : Option Nat} (h : W.grownBy W' row) (hM : ∀ g, row = some g → ∃ c ty f, W.heap[g]? = some (.cells c ty f) ∧ M g ty) : Trn M W W' :=
 ⟨h.os, h.tape, h.output, h.size, fun b hb hn => h.block b hb fun e => by
  obtain ⟨c, ty, f, h1, h2⟩ := hM b e.symm
  exact hn c ty f h1 h2⟩
theorem Trn.set {M : Nat → TypeId → Prop} {W : World} {b o : Nat} {u : Value} {c : Array Value} {ty : TypeId} {f : Nat × Nat} (h : W.heap[b]? = some (.cells c ty f)) (hM : M b ty) : Trn M W (W.setCell ⟨b, o, none⟩ u) :=
 ⟨rfl, rfl, rfl, by rw [set_size]; exact Nat.le_refl _, fun k _ hn => set_other fun e => by subst e; exact hn c ty f h hM⟩
theorem one_cell {W : World} {b : Nat} {x : Value} {t : TypeId} (h : W.heap[b]? = some (.cells #[x] t (0, 0))) : b < W.heap.size ∧ W.cell? ⟨b, 0, none⟩ = some x ∧ W.frozen? ⟨b, 0, none⟩ = false := by
 refine ⟨(Array.getElem?_eq_some_iff.1 h).1, ?_, ?_⟩ <;> simp [World.cell?, World.frozen?, h]
def fromF (l : List MP) (K : List Va) (cw : List Va → Bool) : List Int := ((l.filter (geB (K, -9223372036854775808))).takeWhile fun q => cw q.key).map MP.id
theorem tw_all {cont : MP → Bool} : ∀ {L : List MP}, (∀ q ∈ L, cont q = true) → L.takeWhile cont = L ∧ L.filter cont = L
 | [], _ => ⟨rfl, rfl⟩
 | a :: L, h => by
  obtain ⟨h1, h2⟩ := tw_all (L := L) fun q hq => h q (by simp [hq])
  have ha := h a (by simp)
  exact ⟨by rw [List.takeWhile_cons, if_pos ha, h1], by rw [List.filter_cons, if_pos ha, h2]⟩
theorem tw_some {cont : MP → Bool} {q : MP} {B : List MP} (hq : cont q = false) : ∀ {A : List MP}, (∀ x ∈ A, cont x = true) → (A ++ q :: B).takeWhile cont = A ∧ (A ++ [q]).filter cont = A
 | [], _ => ⟨by rw [List.nil_append, List.takeWhile_cons, if_neg (by rw [hq]; simp)], by rw [List.nil_append, List.filter_cons, if_neg (by rw [hq]; simp)]; rfl⟩
 | a :: A, h => by
  obtain ⟨h1, h2⟩ := tw_some (A := A) (B := B) hq fun x hx => h x (by simp [hx])
  have ha := h a (by simp)
  exact ⟨by rw [List.cons_append, List.takeWhile_cons, if_pos ha, h1], by rw [List.cons_append, List.filter_cons, if_pos ha, h2]⟩
theorem VQB.from {cont : MP → Bool} {I : List MP → World → Prop} {L : List MP} {b : Bool} {W : World} (h : VQB cont I [] L b W) : ∃ ds, I ds W ∧ ds.filter cont = L.takeWhile cont := by
 rcases h with ⟨_, h1, h2⟩ | ⟨_, A, q, B, rfl, h1, h2, h3⟩
 ·
  exact ⟨_, h2, by rw [List.nil_append, (tw_all h1).1, (tw_all h1).2]⟩
 ·
  exact ⟨_, h3, by rw [List.nil_append, (tw_some h2 h1).1, (tw_some (B := B) h2 h1).2]⟩

theorem Rd.cutP {w : World} {A : Option Addr} {n sz : Nat} {xs : List Value} (h : Rd w sz A n xs) (k : Nat) (hk : k ≤ n) : Rd w sz A k (xs.take (k * sz)) := by
 have h1 := Nat.mul_le_mul_right sz hk
 have hl := h.1
 refine ⟨by rw [List.length_take]; omega, fun h0 => ?_⟩
 obtain ⟨b, o, he, hb, hc⟩ := h.2 (by omega)
 refine ⟨b, o, he, hb, fun j u hu => hc j u ?_⟩
 rw [List.getElem?_take] at hu
 split at hu
 ·
  exact hu
 ·
  cases hu
theorem vcl_take (l : List Va) (i : Nat) : (vcl l).take (i * 3) = vcl (l.take i) := fmt (k := 3) (fun _ => rfl) l i
set_option maxRecDepth 100000 in
set_option maxHeartbeats 4000000 in
theorem wPrefix_any (q : MP) (bk : Nat) (A : Option Addr) (c : Nat) (K : List Va) (ty : TypeId) (w : World) (hq : KR w q) (hc : q.n ≤ q.c) (hR : Rd w 3 A K.length (vcl K)) (hK : K.length ≤ 9223372036854775807) (hb : w.heap[bk]? = some (.cells #[.slice A K.length c] ty (0, 0))) :
  Calls Tryz.prog 197 #[.slice q.A q.n q.c, pt bk] w fun e w' => e = .returned (.bool (decide (K.length ≤ q.key.length) && decide (cmpR (q.key.take K.length) K = 0))) ∧ Ext w w' := by
 obtain ⟨rb, c0, _⟩ := one_cell hb
 have hqn := hq.n
 obtain ⟨qn, hqe⟩ : ∃ n, q.key.length = n := ⟨_, rfl⟩
 obtain ⟨kn, hke⟩ : ∃ n, K.length = n := ⟨_, rfl⟩
 rw [hke] at c0
 by_cases h : kn ≤ qn
 ·
  have HT : Hid (∀ W, Ext w W → Calls Tryz.prog 146 #[.slice q.A kn q.c, .slice A kn c] W fun e w' => e = .returned (.int .i64 (cmpR (q.key.take K.length) K)) ∧ Ext W w') := Lib.hid fun W hE => by
   have h1 := (hq.rd.ext hE).cutP kn (by omega)
   rw [vcl_take] at h1
   have hl : (q.key.take kn).length = kn := by rw [List.length_take]; omega
   have h2 := tcmp_any q.A A q.c c (q.key.take kn) K W (by rw [hl]; exact h1) (hR.ext hE) (by omega) (by omega)
   rw [hl, hke] at h2
   rw [hke]
   exact h2
  have hd : decide (K.length ≤ q.key.length) = true := decide_eq_true (by omega)
  rw [hd, Bool.true_and]
  have hkz : (kn : Int) ≤ (qn : Int) := by omega
  have hkc : kn ≤ q.c := by omega
  rw [hqn, hqe]
  generalize cmpR (q.key.take K.length) K = z at HT ⊢
  clear hq hR hd hb hqn hqe hke hc
  go_enter Tryz.func197, Tryz.ntmps197
  go_wp2
  refine wp_region_held_drew (S := (fun w' => w'.cell? ⟨bk, 0, none⟩ = some (.slice A kn c))) (by kernel_rfl) (by simp [go_sem, ↓IntWalk.iteOmega, *]) (fun hHeld => ?_)
  refine tkH 0 ?oi1 (?v1) ?hi1 ?hy1 ?_
  case hi1 => (simp only [gA, gS, gZ]; try rfl)
  case hy1 => (refine Or.inl ⟨by rfl, ?_⟩; intro wq hSw; (try dsimp only at hSw); go_simp; (try with_reducible rfl))
  (try simp only [Act.put, pA, pZ, pS])
  refine tkH 1 ?oi2 (?v2) ?hi2 ?hy2 ?_
  case hi2 => (simp only [gA, gS, gZ]; try rfl)
  case hy2 => (refine Or.inl ⟨by rfl, ?_⟩; intro wq hSw; (try dsimp only at hSw); go_simp; (try with_reducible rfl))
  (try simp only [Act.put, pA, pZ, pS])
  refine tkH 2 ?oi3 (?v3) ?hi3 ?hy3 ?_
  case hi3 => (simp only [gA, gS, gZ]; try rfl)
  case hy3 => (refine Or.inl ⟨by rfl, ?_⟩; intro wq hSw; (try dsimp only at hSw); go_simp; (try with_reducible rfl))
  (try simp only [Act.put, pA, pZ, pS])
  refine tkH 3 ?oi4 (?v4) ?hi4 ?hy4 ?_
  case hi4 => (simp only [gA, gS, gZ]; try rfl)
  case hy4 => (refine Or.inl ⟨by rfl, ?_⟩; intro wq hSw; (try dsimp only at hSw); go_simp; (try with_reducible rfl))
  (try simp only [Act.put, pA, pZ, pS])
  refine tkH 4 ?oi5 (?v5) ?hi5 ?hy5 ?_
  case hi5 => (simp only [gA, gS, gZ]; try rfl)
  case hy5 => (refine Or.inl ⟨by rfl, ?_⟩; intro wq hSw; (try dsimp only at hSw); go_simp; (try with_reducible rfl))
  (try simp only [Act.put, pA, pZ, pS])
  refine tkH 5 ?oi6 (?v6) ?hi6 ?hy6 ?_
  case hi6 => (simp only [gA, gS, gZ]; try rfl)
  case hy6 => (refine Or.inl ⟨by rfl, ?_⟩; intro wq hSw; (try dsimp only at hSw); go_simp; (try with_reducible rfl))
  (try simp only [Act.put, pA, pZ, pS])
  refine tkH 6 ?oi7 (?v7) ?hi7 ?hy7 ?_
  case hi7 => (simp only [gA, gS, gZ]; try rfl)
  case hy7 => (refine Or.inl ⟨by rfl, ?_⟩; intro wq hSw; (try dsimp only at hSw); go_simp; (try with_reducible rfl))
  (try simp only [Act.put, pA, pZ, pS])
  refine tkH 7 ?oi8 (?v8) ?hi8 ?hy8 ?_
  case hi8 => (simp only [gA, gS, gZ]; try rfl)
  case hy8 => (refine Or.inl ⟨by rfl, ?_⟩; intro wq hSw; (try dsimp only at hSw); go_simp; (try with_reducible rfl))
  (try simp only [Act.put, pA, pZ, pS])
  refine tkH 8 ?oi9 (?v9) ?hi9 ?hy9 ?_
  case hi9 => (simp only [gA, gS, gZ]; try rfl)
  case hy9 => (refine Or.inl ⟨by rfl, ?_⟩; intro wq hSw; (try dsimp only at hSw); go_simp; (try with_reducible rfl))
  (try simp only [Act.put, pA, pZ, pS])
  refine tkH 9 ?oi10 (?v10) ?hi10 ?hy10 ?_
  case hi10 => (simp only [gA, gS, gZ]; try rfl)
  case hy10 => (refine Or.inl ⟨by rfl, ?_⟩; intro wq hSw; (try dsimp only at hSw); go_simp; (try with_reducible rfl))
  (try simp only [Act.put, pA, pZ, pS])
  refine tkH 10 ?oi11 (?v11) ?hi11 ?hy11 ?_
  case hi11 => (simp only [gA, gS, gZ]; try rfl)
  case hy11 => (refine Or.inl ⟨by rfl, ?_⟩; intro wq hSw; (try dsimp only at hSw); go_simp; (try with_reducible rfl))
  (try simp only [Act.put, pA, pZ, pS])
  refine wpAnyH_ready (rs := [11]) (by kernel_rfl) (by simp) ?_
  refine AllReadyH.cons (o := ?oi12) ?hi12 ?ti12 AllReadyH.nil
  case hi12 => (simp only [gA, gS, gZ]; try rfl)
  case ti12 =>
   intro KQ hKQ
   go_simp
   go_at_call 146
   refine Calls.mono (HT.out _ (ex_)) ?_
   rintro e w1 ⟨rfl, hb1⟩
   obtain ⟨y1, rfl⟩ := hb1.get
   clear hb1
   refine hKQ.out _ _ (by simp [go_sem, ↓IntWalk.iteOmega, *]) (fun hHeld2 => ?_)
   clear hHeld hKQ KQ; have hHeld := hHeld2; clear hHeld2
   (try simp only [Act.put, pA, pZ, pS])
   refine tkH 12 ?oi13 (?v13) ?hi13 ?hy13 ?_
   case hi13 => (simp only [gA, gS, gZ]; try rfl)
   case hy13 => (refine Or.inl ⟨by rfl, ?_⟩; intro wq hSw; (try dsimp only at hSw); go_simp; (try with_reducible rfl))
   (try simp only [Act.put, pA, pZ, pS])
   refine tkH 13 ?oi14 (?v14) ?hi14 ?hy14 ?_
   case hi14 => (simp only [gA, gS, gZ]; try rfl)
   case hy14 => (refine Or.inl ⟨by rfl, ?_⟩; intro wq hSw; (try dsimp only at hSw); go_simp; (try with_reducible rfl))
   (try simp only [Act.put, pA, pZ, pS])
   refine tkH 14 ?oi15 (?v15) ?hi15 ?hy15 ?_
   case hi15 => (simp only [gA, gS, gZ]; try rfl)
   case hy15 => (refine Or.inl ⟨by rfl, ?_⟩; intro wq hSw; (try dsimp only at hSw); go_simp; (try with_reducible rfl))
   (try simp only [Act.put, pA, pZ, pS])
   refine wpAnyH_done (by kernel_rfl) ?_ _
   go_wp2
   go_ret
   exact ⟨by first | rfl | simp, ex_⟩
 ·
  have hd : decide (K.length ≤ q.key.length) = false := decide_eq_false (by omega)
  rw [hd, Bool.false_and, hqn, hqe]
  have hkz : ¬ ((kn : Int) ≤ (qn : Int)) := by omega
  clear hq hR hd hb hqn hqe hke hc
  go_enter Tryz.func197, Tryz.ntmps197
  go_wp2
  refine wp_region_held_drew (S := (fun w' => w'.cell? ⟨bk, 0, none⟩ = some (.slice A kn c))) (by kernel_rfl) (by simp [go_sem, ↓IntWalk.iteOmega, *]) (fun hHeld => ?_)
  refine tkH 0 ?oi101 (?v101) ?hi101 ?hy101 ?_
  case hi101 => (simp only [gA, gS, gZ]; try rfl)
  case hy101 => (refine Or.inl ⟨by rfl, ?_⟩; intro wq hSw; (try dsimp only at hSw); go_simp; (try with_reducible rfl))
  (try simp only [Act.put, pA, pZ, pS])
  refine tkH 1 ?oi102 (?v102) ?hi102 ?hy102 ?_
  case hi102 => (simp only [gA, gS, gZ]; try rfl)
  case hy102 => (refine Or.inl ⟨by rfl, ?_⟩; intro wq hSw; (try dsimp only at hSw); go_simp; (try with_reducible rfl))
  (try simp only [Act.put, pA, pZ, pS])
  refine tkH 2 ?oi103 (?v103) ?hi103 ?hy103 ?_
  case hi103 => (simp only [gA, gS, gZ]; try rfl)
  case hy103 => (refine Or.inl ⟨by rfl, ?_⟩; intro wq hSw; (try dsimp only at hSw); go_simp; (try with_reducible rfl))
  (try simp only [Act.put, pA, pZ, pS])
  refine tkH 3 ?oi104 (?v104) ?hi104 ?hy104 ?_
  case hi104 => (simp only [gA, gS, gZ]; try rfl)
  case hy104 => (refine Or.inl ⟨by rfl, ?_⟩; intro wq hSw; (try dsimp only at hSw); go_simp; (try with_reducible rfl))
  (try simp only [Act.put, pA, pZ, pS])
  refine tkH 4 ?oi105 (?v105) ?hi105 ?hy105 ?_
  case hi105 => (simp only [gA, gS, gZ]; try rfl)
  case hy105 => (refine Or.inl ⟨by rfl, ?_⟩; intro wq hSw; (try dsimp only at hSw); go_simp; (try with_reducible rfl))
  (try simp only [Act.put, pA, pZ, pS])
  refine tkH 5 ?oi106 (?v106) ?hi106 ?hy106 ?_
  case hi106 => (simp only [gA, gS, gZ]; try rfl)
  case hy106 => (refine Or.inl ⟨by rfl, ?_⟩; intro wq hSw; (try dsimp only at hSw); go_simp; (try with_reducible rfl))
  (try simp only [Act.put, pA, pZ, pS])
  refine tkH 6 ?oi107 (undef) ?hi107 ?hy107 ?_
  case hi107 => (simp only [gA, gS, gZ]; try rfl)
  case hy107 => exact Or.inr ⟨by rfl, rfl⟩
  (try simp only [Act.put, pA, pZ, pS])
  refine tkH 7 ?oi108 (undef) ?hi108 ?hy108 ?_
  case hi108 => (simp only [gA, gS, gZ]; try rfl)
  case hy108 => exact Or.inr ⟨by rfl, rfl⟩
  (try simp only [Act.put, pA, pZ, pS])
  refine tkH 8 ?oi109 (undef) ?hi109 ?hy109 ?_
  case hi109 => (simp only [gA, gS, gZ]; try rfl)
  case hy109 => exact Or.inr ⟨by rfl, rfl⟩
  (try simp only [Act.put, pA, pZ, pS])
  refine tkH 9 ?oi110 (undef) ?hi110 ?hy110 ?_
  case hi110 => (simp only [gA, gS, gZ]; try rfl)
  case hy110 => exact Or.inr ⟨by rfl, rfl⟩
  (try simp only [Act.put, pA, pZ, pS])
  refine tkH 10 ?oi111 (undef) ?hi111 ?hy111 ?_
  case hi111 => (simp only [gA, gS, gZ]; try rfl)
  case hy111 => exact Or.inr ⟨by rfl, rfl⟩
  (try simp only [Act.put, pA, pZ, pS])
  refine tkH 11 ?oi112 (undef) ?hi112 ?hy112 ?_
  case hi112 => (simp only [gA, gS, gZ]; try rfl)
  case hy112 => exact Or.inr ⟨by rfl, rfl⟩
  (try simp only [Act.put, pA, pZ, pS])
  refine tkH 12 ?oi113 (undef) ?hi113 ?hy113 ?_
  case hi113 => (simp only [gA, gS, gZ]; try rfl)
  case hy113 => exact Or.inr ⟨by rfl, rfl⟩
  (try simp only [Act.put, pA, pZ, pS])
  refine tkH 13 ?oi114 (?v114) ?hi114 ?hy114 ?_
  case hi114 => (simp only [gA, gS, gZ]; try rfl)
  case hy114 => (refine Or.inl ⟨by rfl, ?_⟩; intro wq hSw; (try dsimp only at hSw); go_simp; (try with_reducible rfl))
  (try simp only [Act.put, pA, pZ, pS])
  refine tkH 14 ?oi115 (?v115) ?hi115 ?hy115 ?_
  case hi115 => (simp only [gA, gS, gZ]; try rfl)
  case hy115 => (refine Or.inl ⟨by rfl, ?_⟩; intro wq hSw; (try dsimp only at hSw); go_simp; (try with_reducible rfl))
  (try simp only [Act.put, pA, pZ, pS])
  refine wpAnyH_done (by kernel_rfl) ?_ _
  go_wp2
  go_ret
  exact ⟨rfl, ex_⟩

set_option maxRecDepth 100000 in
set_option maxHeartbeats 4000000 in
theorem from1Prefix_any (base bw bo bk N : Nat) (cw : List Va → Bool) (w : World) (hN : N ≤ 1048576) (hw : ∀ q W, KOk base w q → Ext w W → Calls Tryz.prog 197 #[.slice q.A q.n q.c, pt bk] W fun e W' => e = .returned (.bool (cw q.key)) ∧ Ext W W') (hne : bw ≠ bo) :
  ∀ q ds W, KOk base w q → Ext w W → ds.length + 1 ≤ N → IFr w (.func (.func 197) #[] #[pt bk]) bw bo cw ds W → Calls Tryz.prog 199 #[pv q, pt bw, pt bo] W fun e W' => e = .returned (.bool (cw q.key)) ∧ Trn (MFr w) W W' ∧ IFr w (.func (.func 197) #[] #[pt bk]) bw bo cw (ds ++ [q]) W' := by
 intro q ds W hq hE hds hI
 have HW : Hid (∀ W', Ext W W' → Calls Tryz.prog 197 #[.slice q.A q.n q.c, pt bk] W' fun e W'' => e = .returned (.bool (cw q.key)) ∧ Ext W' W'') := Lib.hid fun W' hE' => hw q W' hq (hE.tr hE')
 have HI := Lib.hid hI
 obtain ⟨hbw, hbw0, hbo0, v, hbo, hrow⟩ := hI
 have HB := Lib.hid hbw
 obtain ⟨vA, vc, rfl, _, _, _⟩ := own_form2 hrow
 have hfl : (ds.filter fun q => cw q.key).length ≤ ds.length := List.length_filter_le _ _
 have HFL : Hid ((ds.filter fun q => cw q.key).length ≤ ds.length) := Lib.hid hfl
 obtain ⟨nf, hnf⟩ : ∃ nf, (ds.filter fun q => cw q.key).length = nf := ⟨_, rfl⟩
 rw [hnf] at hbo hrow hfl
 have HNF := Lib.hid hnf
 obtain ⟨rw', w0, wf0⟩ := one_cell hbw
 obtain ⟨ro, o0, of0⟩ := one_cell hbo
 have HR := Lib.hid hrow
 have HO := Lib.hid hbo
 have HW0 := Lib.hid hE
 have HHH := Lib.hid (And.intro hbw0 hbo0)
 clear hbw hbo hrow hw hq hnf hE hbw0 hbo0
 cases hc : cw q.key with
 | false =>
  rw [hc] at HW
  have HC := Lib.hid hc
  clear hc
  go_enter Tryz.func199, Tryz.ntmps199
  go_wp2_with (go_at_call 197; refine Calls.mono (HW.out _ (ex_)) ?_; rintro e w1 ⟨rfl, hb1⟩; have hE1 : Ext W w1 := (Ext.al1 _ _).tr hb1)
  go_ret
  refine ⟨rfl, Trn.ofExt (ex_), ?_⟩
  have := HI.out.ext (show Ext W w1 from ex_)
  obtain ⟨h1, h2, h3, v, h4, h5⟩ := this
  refine ⟨h1, h2, h3, v, h4, ?_⟩
  rw [List.filter_append, show List.filter (fun q => cw q.key) [q] = [] by rw [List.filter_cons, HC.out]; rfl, List.append_nil]
  exact h5
 | true =>
  rw [hc] at HW
  have HC := Lib.hid hc
  clear hc
  go_enter Tryz.func199, Tryz.ntmps199
  go_wp2_with fail
  refine Calls.mono (HW.out _ (ex_)) ?_
  rintro e w1 ⟨rfl, hb1⟩
  have hE1 : Ext W w1 := (Ext.al1 _ _).tr hb1
  have hbx := al_at hb1
  obtain ⟨_, z0, z1, _, _⟩ := two_cells hbx
  obtain ⟨ro, o0, of0⟩ := one_cell (hE1.at HO.out)
  have hro0 := (Array.getElem?_eq_some_iff.1 HO.out).1
  have HE1 := Lib.hid hE1
  obtain ⟨bx, hbxe⟩ : ∃ bx, W.heap.size = bx := ⟨_, rfl⟩
  rw [hbxe] at hbx z0 z1 hro0 ⊢
  have hbl := (Array.getElem?_eq_some_iff.1 hbx).1
  clear hb1 hbx
  have hap : ∀ {W' : World}, Ext w1 W' → W'.ownsRow w.heap.size TI' 1 (.slice vA nf vc) nf (ic ((ds.filter fun q => cw q.key).map MP.id)) := fun e => ownsRow_extB HR.out (HE1.out.tr e)
  have HAP : Hid (∀ (W' : World), Ext w1 W' → W'.ownsRow w.heap.size TI' 1 (.slice vA nf vc) nf (ic ((ds.filter fun q => cw q.key).map MP.id))) := Lib.hid fun W' e => hap e
  clear hap
  go_wp2_with (at_builtin; refine wpList_app3 _ rfl (.tmp 10) (.tmp 13) rfl elI w.heap.size (Nat.le_trans HW0.out.size (HE1.out.tr (ex_)).size) (.slice vA nf vc) nf _ rfl (HAP.out _ (ex_)) (some ⟨w1.heap.size, 0, none⟩) 1 1 [.int .i64 q.id] rfl (Rd.lit _ _ _ _ _ rfl rfl) (by intro u hu; simp at hu; subst hu; rfl) (by unfold maxLen; omega) (by omega) ?_; intro v2 w2 ho2 hg2 hn2; obtain ⟨A2, k2, rfl, _, _, _⟩ := own_form2 ho2; have hg2 := Lib.hid hg2; have hbo2 : w2.heap[bo]? = some (.cells #[.slice vA nf vc] TL' (0, 0)) := (World.grownBy.block hg2.out bo (Nat.lt_of_lt_of_le (Array.getElem?_eq_some_iff.1 HO.out).1 (HE1.out.tr (ex_)).size) (fun e => by
   obtain ⟨c0, hc0⟩ := own_typ HR.out e.symm
   rw [HO.out] at hc0
   simp at hc0
   exact absurd hc0.2 (by decide))).trans ((HE1.out.tr (ex_)).at HO.out); obtain ⟨ro2, o2, of2⟩ := one_cell hbo2; have HBO2 := Lib.hid hbo2; have HO2 := Lib.hid ho2; clear hbo2 ho2)
  go_ret
  have hEA : Ext W (w1.alloc (.cells #[.int .i64 q.id] TI')) := HE1.out.tr (Ext.al1 _ _)
  have hTr : Trn (MFr w) W w2 := (Trn.ofExt hEA).trans (Trn.grown hg2.out fun g hg => by
   obtain ⟨c0, hc0⟩ := own_typ (HAP.out _ (Ext.al1 w1 (.cells #[.int .i64 q.id] TI'))) hg
   exact ⟨c0, TI', _, hc0, (HR.out.lt g hg).1, .inl rfl⟩)
  refine ⟨rfl, hTr.trans (Trn.set HBO2.out ⟨HHH.out.2, .inr rfl⟩), ?_⟩
  have hbw2 : w2.heap[bw]? = _ := hTr.block HB.out (fun h => by rcases h.2 with h | h <;> exact absurd h (by decide))
  refine ⟨(set_other hne).trans hbw2, HHH.out.1, HHH.out.2, .slice A2 (nf + 1) k2, set_heap HBO2.out 0 _, ?_⟩
  have h3 : (w2.setCell ⟨bo, 0, none⟩ (.slice A2 (nf + 1) k2)).ownsRow w.heap.size TI' 1 (.slice A2 (nf + 1) k2) (nf + 1) _ := ownsRow_same HO2.out fun g hg => set_other fun e => by
   obtain ⟨c0, hc0⟩ := own_typ HO2.out hg
   rw [e, HBO2.out] at hc0
   simp at hc0
   exact absurd hc0.2 (by decide)
  have hfa : (ds ++ [q]).filter (fun q => cw q.key) = ds.filter (fun q => cw q.key) ++ [q] := by rw [List.filter_append, show List.filter (fun q => cw q.key) [q] = [q] by rw [List.filter_cons, if_pos HC.out]; rfl]
  rw [hfa, List.length_append, HNF.out, List.map_append, show ic (List.map MP.id (ds.filter fun q => cw q.key) ++ List.map MP.id [q]) = ic (List.map MP.id (ds.filter fun q => cw q.key)) ++ [.int .i64 q.id] by simp [ic]]
  exact h3
end Go.Proofs.YtdiaecgpjgdkdaaGreat

namespace Go.Proofs.YtdiaecgpjgdkdaaGreat
open Go.RowKit

def kLt (x p : Kp) : Bool := decide (cmpR x.1 p.1 < 0) || (decide (cmpR x.1 p.1 = 0) && decide (x.2 < p.2))
theorem kLt_iff {x p : Kp} : kLt x p = true ↔ ltP x p := by
 unfold kLt ltP
 simp only [Bool.or_eq_true, Bool.and_eq_true, decide_eq_true_eq, cmpR_lt, cmpR_zero]
theorem kLt_no {x p : Kp} (h : ¬ ltP x p) : kLt x p = false := by
 cases hb : kLt x p with
 | false => rfl
 | true => exact absurd (kLt_iff.1 hb) h
theorem filter_kp (f : Kp → Bool) (l : List MP) : (l.filter fun q => f q.kp).map MP.kp = (l.map MP.kp).filter f := by
 rw [List.filter_map]; rfl
theorem filter_id (f : List Va → Bool) (l : List MP) : (l.filter fun q => f q.key).map MP.id = ((l.map MP.kp).filter fun x => f x.1).map Prod.snd := by
 rw [← filter_kp (fun x => f x.1), List.map_map]; rfl
theorem has_kp {l : List MP} {x : Kp} : (∃ q ∈ l, q.kp = x) ↔ x ∈ l.map MP.kp := by simp
theorem put_same {p p' : MP} {l l' lr : List MP} {K : List Va} {id : Int} (h : Ins p l l') (he : l.map MP.kp = lr.map MP.kp) (hp : p.kp = (K, id)) (hp' : p'.kp = (K, id)) :
  l'.map MP.kp = ((lr.filter fun q => (decide (cmpR q.key K < 0) || (decide (cmpR q.key K = 0) && decide (q.id < id)))) ++ p' :: (lr.filter fun q => !(decide (cmpR q.key K < 0) || (decide (cmpR q.key K = 0) && decide (q.id < id))))).map MP.kp := by
 obtain ⟨a, b, rfl, rfl, h1, h2⟩ := h
 have e1 := filter_kp (fun x => kLt x (K, id)) lr
 have e2 := filter_kp (fun x => !kLt x (K, id)) lr
 rw [← he, ← filter_kp, List.filter_append] at e1 e2
 have f1 : (a.filter fun q => kLt q.kp (K, id)) = a := List.filter_eq_self.2 fun x hx => kLt_iff.2 (hp ▸ h1 x hx)
 have f2 : (b.filter fun q => kLt q.kp (K, id)) = [] := List.filter_eq_nil_iff.2 fun x hx => by rw [kLt_no (ltP_asymm (hp ▸ h2 x hx))]; simp
 have f3 : (a.filter fun q => !kLt q.kp (K, id)) = [] := List.filter_eq_nil_iff.2 fun x hx => by rw [kLt_iff.2 (hp ▸ h1 x hx)]; simp
 have f4 : (b.filter fun q => !kLt q.kp (K, id)) = b := List.filter_eq_self.2 fun x hx => by rw [kLt_no (ltP_asymm (hp ▸ h2 x hx))]; rfl
 rw [f1, f2, List.append_nil] at e1
 rw [f3, f4, List.nil_append] at e2
 rw [List.map_append, List.map_cons, List.map_append, List.map_cons, hp, hp', ← e1, ← e2]
 rfl
theorem tw_filter {f : MP → Bool} : ∀ {l : List MP}, (l.Pairwise fun a b => f b = true → f a = true) → l.takeWhile f = l.filter f
 | [], _ => rfl
 | a :: l, h => by
  have h1 := List.pairwise_cons.1 h
  cases ha : f a with
  | true => rw [List.takeWhile_cons_of_pos ha, List.filter_cons_of_pos ha, tw_filter h1.2]
  | false =>
   rw [List.takeWhile_cons_of_neg (by simp [ha]), List.filter_cons_of_neg (by simp [ha]), List.filter_eq_nil_iff.2]
   intro b hb hf
   rw [h1.1 b hb hf] at ha
   cases ha
theorem from_eq {l : List MP} {K : List Va} {cw g : List Va → Bool} (hs : SrtB l) (hid : ∀ q ∈ l, -9223372036854775808 ≤ q.id)
  (h1 : ∀ a b, ¬ ltR a K → ¬ ltR b a → cw b = true → cw a = true) (h2 : ∀ a, g a = (!decide (cmpR a K < 0) && cw a)) : fromF l K cw = (l.filter fun q => g q.key).map MP.id := by
 unfold fromF
 have hg : ∀ q ∈ l, geB (K, -9223372036854775808) q = !decide (cmpR q.key K < 0) := by
  intro q hq
  have hi := hid q hq
  by_cases hl : ltR q.key K
  ·
   rw [geB_false (show ltP q.kp (K, -9223372036854775808) from .inl hl), decide_eq_true (cmpR_lt.2 hl)]; rfl
  ·
   rw [geB_true, decide_eq_false (fun e => hl (cmpR_lt.1 e))]; rfl
   rintro (h | ⟨_, h⟩)
   ·
    exact hl h
   ·
    have : q.id < -9223372036854775808 := h
    omega
 rw [List.filter_congr hg, tw_filter, List.filter_filter]
 ·
  congr 1
  exact List.filter_congr fun q _ => by rw [h2, Bool.and_comm]
 ·
  have hp : (l.filter fun q => !decide (cmpR q.key K < 0)).Pairwise fun a b => ltP a.kp b.kp := hs.sublist List.filter_sublist
  refine hp.imp_of_mem fun {a b} ha hb hab hcb => h1 a.key b.key ?_ ?_ hcb
  ·
   have := (List.mem_filter.1 ha).2
   intro h
   rw [decide_eq_true (cmpR_lt.2 h)] at this
   cases this
  ·
   intro h
   exact ltP_asymm hab (.inl h)
theorem ltR_app : ∀ (K t : List Va), ¬ ltR (K ++ t) K
 | [], t, h => by cases t <;> exact h
 | x :: K, t, h => by
  rcases h with h | ⟨_, h⟩
  ·
   exact ltV_irr x h
  ·
   exact ltR_app K t h
theorem pre_mid : ∀ (K a t : List Va), ¬ ltR a K → ¬ ltR (K ++ t) a → ∃ s, a = K ++ s
 | [], a, _, _, _ => ⟨a, rfl⟩
 | x :: K, [], _, h, _ => absurd trivial h
 | x :: K, y :: a, t, h1, h2 => by
  rcases ltV_tri x y with h | rfl | h
  ·
   exact absurd (.inl h) h2
  ·
   obtain ⟨s, rfl⟩ := pre_mid K a t (fun h => h1 (.inr ⟨rfl, h⟩)) (fun h => h2 (.inr ⟨rfl, h⟩))
   exact ⟨s, rfl⟩
  ·
   exact absurd (.inl h) h1
theorem pre_iff {K a : List Va} : (decide (K.length ≤ a.length) && decide (cmpR (a.take K.length) K = 0)) = true ↔ ∃ s, a = K ++ s := by
 rw [Bool.and_eq_true, decide_eq_true_eq, decide_eq_true_eq, cmpR_zero]
 constructor
 ·
  rintro ⟨_, h⟩
  exact ⟨a.drop K.length, by
   have := List.take_append_drop K.length a
   rw [h] at this
   exact this.symm⟩
 ·
  rintro ⟨s, rfl⟩
  simp
theorem prefix_same {l : List MP} {K : List Va} (hs : SrtB l) (hid : ∀ q ∈ l, -9223372036854775808 ≤ q.id) : fromF l K (fun k => (decide (K.length ≤ k.length) && decide (cmpR (k.take K.length) K = 0))) = (l.filter fun q => (decide (K.length ≤ q.key.length) && decide (cmpR (q.key.take K.length) K = 0))).map MP.id := by
 refine from_eq (g := fun k => (decide (K.length ≤ k.length) && decide (cmpR (k.take K.length) K = 0))) hs hid (fun a b ha hb hc => ?_) fun a => ?_
 ·
  obtain ⟨t, rfl⟩ := pre_iff.1 hc
  exact pre_iff.2 (pre_mid K a t ha hb)
 ·
  refine bool_eq ?_
  refine ⟨fun h => Bool.and_eq_true_iff.2 ⟨?_, h⟩, fun h => (Bool.and_eq_true_iff.1 h).2⟩
  obtain ⟨t, rfl⟩ := pre_iff.1 h
  rw [decide_eq_false (fun e => ltR_app K t (cmpR_lt.1 e))]
  rfl
def hasK (ks : List Kp) (x : Kp) : Bool := ks.any fun y => decide (y.2 = x.2) && decide (cmpR y.1 x.1 = 0)
theorem hasK_iff {ks : List Kp} {x : Kp} : hasK ks x = true ↔ x ∈ ks := by
 unfold hasK
 rw [List.any_eq_true]
 constructor
 ·
  rintro ⟨y, hy, h⟩
  rw [Bool.and_eq_true, decide_eq_true_eq, decide_eq_true_eq, cmpR_zero] at h
  exact (Prod.ext h.2 h.1 : y = x) ▸ hy
 ·
  intro h
  exact ⟨x, h, by rw [Bool.and_eq_true, decide_eq_true_eq, decide_eq_true_eq, cmpR_zero]; exact ⟨rfl, rfl⟩⟩
theorem hasK_no {ks : List Kp} {x : Kp} (h : x ∉ ks) : hasK ks x = false := by
 cases hb : hasK ks x with
 | false => rfl
 | true => exact absurd (hasK_iff.1 hb) h
def putK (ks : List Kp) (x : Kp) : List Kp := if hasK ks x then ks else (ks.filter fun y => kLt y x) ++ x :: (ks.filter fun y => !kLt y x)
def preK (ks : List Kp) (K : List Va) : List Int := (ks.filter fun y => (decide (K.length ≤ y.1.length) && decide (cmpR (y.1.take K.length) K = 0))).map Prod.snd
end Go.Proofs.YtdiaecgpjgdkdaaGreat

namespace Go.Proofs.YtdiaecgpjgdkdaaGreat
open Go.RowKit

set_option maxHeartbeats 4000000 in
theorem New_any (base m : Nat) (w : World) (hm : 2 ≤ m) (hm2 : m ≤ 64) (hb : base ≤ w.heap.size) : Calls Tryz.prog 22 #[.int .i64 m] w fun e w' => ∃ tb, e = .returned (.tuple #[pt tb, .int .i64 0]) ∧ w.heap.size ≤ tb ∧ TreeIs base w' tb m [] [] ∧ Ext w w' := by
 have h1 : (2 : Int) ≤ (m : Int) := by omega
 have h2 : (m : Int) ≤ 64 := by omega
 go_enter Tryz.func22, Tryz.ntmps22
 go_wp2
 go_ret2
 exact ⟨w.heap.size, rfl, Nat.le_refl _, ⟨hb, by simp, List.Pairwise.nil, by simp, by simp, .inl ⟨rfl, rfl, heap_alloc_new _ _⟩⟩, ex_⟩
end Go.Proofs.YtdiaecgpjgdkdaaGreat

namespace Go.Proofs.YtdiaecgpjgdkdaaGreat
open Go.RowKit

def OkI (ks : List Kp) : Prop := ∀ x ∈ ks, -9223372036854775808 ≤ x.2
def TK (base : Nat) (w : World) (tb m : Nat) (ks : List Kp) : Prop := ∃ l F, TreeIs base w tb m l F ∧ l.map MP.kp = ks ∧ OkI ks
def Mu (base : Nat) (w w' : World) : Prop := ∃ S, Mut base S w w'
theorem Mu.lo {base : Nat} {w0 w w' : World} (h : Mu base w w') (e : Ext w0 w) (hb : w0.heap.size ≤ base) : Ext w0 w' := by
 obtain ⟨S, h⟩ := h
 exact ⟨h.os.trans e.os, h.tape.trans e.tape, h.output.trans e.output, Nat.le_trans e.size h.size, fun b hbl => (h.same b (Nat.lt_of_lt_of_le hbl e.size) fun hs => by
  have := h.old b hs (Nat.lt_of_lt_of_le hbl e.size); omega).trans (e.block b hbl)⟩
theorem TK.ext {base tb m : Nat} {w w' : World} {ks : List Kp} (h : TK base w tb m ks) (e : Ext w w') : TK base w' tb m ks := by
 obtain ⟨l, F, h1, h2⟩ := h
 exact ⟨l, F, h1.ext e, h2⟩
theorem okI_put {ks : List Kp} {x : Kp} (h : OkI ks) (hx : -9223372036854775808 ≤ x.2) : OkI (putK ks x) := by
 unfold putK
 split
 ·
  exact h
 ·
  intro y hy
  rcases List.mem_append.1 hy with hy | hy
  ·
   exact h y (List.mem_filter.1 hy).1
  ·
   rcases List.mem_cons.1 hy with rfl | hy
   ·
    exact hx
   ·
    exact h y (List.mem_filter.1 hy).1
theorem putK_len (ks : List Kp) (x : Kp) : (putK ks x).length ≤ ks.length + 1 := by
 unfold putK
 split
 ·
  omega
 ·
  have h : ∀ l : List Kp, (l.filter fun y => kLt y x).length + (l.filter fun y => !kLt y x).length = l.length := by
   intro l
   induction l with
   | nil => rfl
   | cons a l ih => cases ha : kLt a x <;> simp [List.filter_cons, ha] <;> omega
  have := h ks
  rw [List.length_append, List.length_cons]
  omega
theorem kp_put {l : List MP} {ks : List Kp} {p : MP} {x : Kp} (h : l.map MP.kp = ks) (hp : p.kp = x) (hn : x ∉ ks) : ((l.filter fun q => (decide (cmpR q.key x.1 < 0) || (decide (cmpR q.key x.1 = 0) && decide (q.id < x.2)))) ++ p :: (l.filter fun q => !(decide (cmpR q.key x.1 < 0) || (decide (cmpR q.key x.1 = 0) && decide (q.id < x.2))))).map MP.kp = putK ks x := by
 unfold putK
 rw [hasK_no hn, if_neg (by simp), List.map_append, List.map_cons, hp]
 have e1 := filter_kp (fun y => kLt y x) l
 have e2 := filter_kp (fun y => !kLt y x) l
 rw [h] at e1 e2
 rw [← e1, ← e2]
 rfl
def TPk (base : Nat) (w : World) (tb m : Nat) (b : Bool) (ks : List Kp) (e : Ending) (w' : World) : Prop := e = .returned (.bool b) ∧ TK base w' tb m ks ∧ Mu base w w'
theorem put_k (base m tb : Nat) (ks : List Kp) (A : Option Addr) (c : Nat) (K : List Va) (id : Int) (w : World) (hm : 2 ≤ m) (hm2 : m ≤ 64) (hbw : base ≤ w.heap.size) (hT : TK base w tb m ks) (hR : Rd w 3 A K.length (vcl K)) (hK : K.length ≤ 1048576) (hnil : A = none → K.length = 0 ∧ c = 0) (hll : ks.length < 1048576) (hid : -9223372036854775808 ≤ id) :
  Calls Tryz.prog 25 #[pt tb, .slice A K.length c, .int .i64 id] w (TPk base w tb m (!hasK ks (K, id)) (putK ks (K, id))) := by
 obtain ⟨l, F, h1, rfl, h3⟩ := hT
 refine Calls.mono (Put_any base m tb l F A K.length c K id w hm hm2 hbw h1 hR rfl hK hnil (by simpa using hll)) ?_
 rintro e w' ⟨b, l', F', rfl, h4, h5, _, h6⟩
 rcases h6 with ⟨rfl, h6, rfl⟩ | ⟨rfl, h6, p, hp, h7⟩
 ·
  rw [has_kp] at h6
  rw [TPk, hasK_iff.2 h6, show putK (l'.map MP.kp) (K, id) = l'.map MP.kp by unfold putK; rw [if_pos (hasK_iff.2 h6)]]
  exact ⟨rfl, ⟨l', F', h4, rfl, h3⟩, ⟨_, h5⟩⟩
 ·
  rw [has_kp] at h6
  rw [TPk, hasK_no h6]
  refine ⟨rfl, ⟨l', F', h4, ?_, okI_put h3 hid⟩, ⟨_, h5⟩⟩
  rw [put_same h7 rfl hp hp]
  exact kp_put (x := (K, id)) rfl hp h6
theorem okI_l {l : List MP} (h : OkI (l.map MP.kp)) : ∀ q ∈ l, -9223372036854775808 ≤ q.id := fun q hq => h q.kp (List.mem_map.2 ⟨q, hq, rfl⟩)
theorem new_k (base m : Nat) (w : World) (hm : 2 ≤ m) (hm2 : m ≤ 64) (hb : base ≤ w.heap.size) : Calls Tryz.prog 22 #[.int .i64 m] w fun e w' => ∃ tb, e = .returned (.tuple #[pt tb, .int .i64 0]) ∧ TK base w' tb m [] ∧ Ext w w' := by
 refine Calls.mono (New_any base m w hm hm2 hb) ?_
 rintro e w' ⟨tb, rfl, h1, h2, hE⟩
 exact ⟨tb, rfl, ⟨[], [], h2, rfl, fun x hx => by cases hx⟩, hE⟩
end Go.Proofs.YtdiaecgpjgdkdaaGreat

namespace Go.Proofs.YtdiaecgpjgdkdaaGreat
open Go.RowKit

set_option maxRecDepth 100000 in
set_option maxHeartbeats 8000000 in
theorem fromPrefixO_any (base m tb bk : Nat) (l : List MP) (F : List Nat) (A : Option Addr) (c : Nat) (K : List Va) (cw : List Va → Bool) (w : World) (hm : 2 ≤ m) (hm2 : m ≤ 64) (hT : TreeIs base w tb m l F) (hR : Rd w 3 A K.length (vcl K)) (hK : K.length ≤ 9223372036854775807)
  (hw : ∀ q W, KOk base w q → Ext w W → Calls Tryz.prog 197 #[.slice q.A q.n q.c, pt bk] W fun e W' => e = .returned (.bool (cw q.key)) ∧ Ext W W') :
  Calls Tryz.prog 196 #[pt tb, .slice A K.length c, (.func (.func 197) #[] #[pt bk])] w fun e w' => ∃ A' c', e = .returned (.slice A' (fromF l K cw).length c') ∧ w'.ownsRow w.heap.size TI' 1 (.slice A' (fromF l K cw).length c') (fromF l K cw).length (ic (fromF l K cw)) ∧ Ext w w' := by
 have HW := Lib.hid hw
 have HT := Lib.hid hT
 have HKR : Hid (KR w (⟨A, K.length, c, K, -9223372036854775808⟩ : MP)) := Lib.hid ⟨rfl, hR, hK⟩
 clear hw hR
 rcases hT.root with ⟨hl0, hF0, h0⟩ | ⟨d, t, h0, hG, hND, hW, hfl, hF⟩
 ·
  have HL0 := Lib.hid hl0
  obtain ⟨rb, c0, _, _, _, _, _⟩ := three_cells h0
  clear hT hl0 hF0 h0
  go_enter Tryz.func196, Tryz.ntmps196
  go_wp2_with fail
  refine Calls.mono (visit_nil ⟨A, K.length, c, K, -9223372036854775808⟩ _ _) ?_
  rintro e w3 ⟨rfl, hb3⟩
  obtain ⟨x3, rfl⟩ := hb3.get
  clear hb3
  go_wp2
  go_ret
  have hf : fromF l K cw = [] := by rw [HL0.out]; rfl
  rw [hf]
  exact ⟨none, 0, rfl, World.ownsRow_nil _ _ _ _, ex_⟩
 ·
  have h0' := h0
  obtain ⟨rb, c0, _, _, _, _, _⟩ := three_cells h0
  have HV : Hid (∀ W, Ext ((w.alloc (.cells #[(.func (.func 197) #[] #[pt bk])] TW')).alloc (.cells #[.slice none 0 0] TL')) W → Calls Tryz.prog 198 #[pt t.r, pv ⟨A, K.length, c, K, -9223372036854775808⟩, .func (.func 199) #[] #[pt w.heap.size, pt (w.heap.size + 1)]] W (VisPB (MFr w) (fun q => cw q.key) (IFr w (.func (.func 197) #[] #[pt bk]) w.heap.size (w.heap.size + 1) cw) W [] ((flat d t).filter (geB (K, -9223372036854775808))))) := Lib.hid fun W hE => by
   have hE2 : Ext w ((w.alloc (.cells #[(.func (.func 197) #[] #[pt bk])] TW')).alloc (.cells #[.slice none 0 0] TL')) := Ext.al (Ext.al1 _ _) _
   refine visitF_any base m w.heap.size (w.heap.size + 1) (MFr w) (fun q => cw q.key) 1048576 (IFr w (.func (.func 197) #[] #[pt bk]) w.heap.size (w.heap.size + 1) cw) ⟨A, K.length, c, K, -9223372036854775808⟩ w hm hm2 (fun b ty h => h.1) _ hE2 (fun b _ h => by rcases h.2 with h | h <;> exact absurd h (by decide)) (fun ds W W' h e => h.ext e) HKR.out (fun q ds W hq hE _ hd hI => from1Prefix_any base w.heap.size (w.heap.size + 1) bk 1048576 cw w (Nat.le_refl _) HW.out (by omega) q ds W hq hE hd hI) d 1 t [] W hG hW (hfl ▸ HT.out.srt) (fun q hq => HT.out.key q (hfl ▸ hq)) (hE2.tr hE) hE.size ?_ ?_
   ·
    have h1 := List.length_filter_le (geB (⟨A, K.length, c, K, -9223372036854775808⟩ : MP).kp) (flat d t)
    have h2 := HT.out.len
    rw [← hfl] at h2
    simp only [List.length_nil, Nat.zero_add]
    omega
   ·
    have e1 := hE.at ((Ext.al1 (w.alloc (.cells #[(.func (.func 197) #[] #[pt bk])] TW')) (.cells #[.slice none 0 0] TL')).at (heap_alloc_new w (.cells #[(.func (.func 197) #[] #[pt bk])] TW')))
    have e2 := hE.at (heap_alloc_new (w.alloc (.cells #[(.func (.func 197) #[] #[pt bk])] TW')) (.cells #[.slice none 0 0] TL'))
    rw [show (w.alloc (.cells #[(.func (.func 197) #[] #[pt bk])] TW')).heap.size = w.heap.size + 1 by simp] at e2
    exact ⟨e1, Nat.le_refl _, Nat.le_succ _, .slice none 0 0, e2, World.ownsRow_nil _ _ _ _⟩
  have HFL := Lib.hid hfl
  clear hT hG hND hW hfl hF h0 h0'
  go_enter Tryz.func196, Tryz.ntmps196
  go_wp2_with fail
  refine Calls.mono (HV.out _ (ex_)) ?_
  rintro e w3 ⟨b, rfl, hK3, hV⟩
  obtain ⟨ds, hI, hds⟩ := hV.from
  have hE3 : Ext w w3 := hK3.ext (w := w) (Ext.al (Ext.al1 _ _) _) (fun b ty h => h.1)
  obtain ⟨_, _, _, v, hbo, hrow⟩ := hI
  rw [hds] at hrow
  obtain ⟨vA, vc, rfl, _, _, _⟩ := own_form2 hrow
  obtain ⟨ro, o0, _⟩ := one_cell hbo
  have HRW := Lib.hid hrow
  clear hK3 hV hds hbo hrow
  go_wp2
  go_ret
  have hf : fromF l K cw = (((flat d t).filter (geB (K, -9223372036854775808))).takeWhile fun q => cw q.key).map MP.id := by rw [HFL.out]; rfl
  rw [hf, List.length_map]
  exact ⟨vA, vc, rfl, HRW.out, hE3⟩

set_option maxHeartbeats 4000000 in
theorem PrefixO_any (base m tb : Nat) (l : List MP) (F : List Nat) (A : Option Addr) (n c : Nat) (K : List Va) (w : World) (hm : 2 ≤ m) (hm2 : m ≤ 64) (hT : TreeIs base w tb m l F) (hR : Rd w 3 A n (vcl K)) (hn : n = K.length) (hK : K.length ≤ 9223372036854775807) :
  Calls Tryz.prog 194 #[pt tb, .slice A n c] w fun e w' => ∃ A' c', e = .returned (.slice A' (fromF l K (fun k => (decide (K.length ≤ k.length) && decide (cmpR (k.take K.length) K = 0)))).length c') ∧ w'.ownsRow w.heap.size TI' 1 (.slice A' (fromF l K (fun k => (decide (K.length ≤ k.length) && decide (cmpR (k.take K.length) K = 0)))).length c') (fromF l K (fun k => (decide (K.length ≤ k.length) && decide (cmpR (k.take K.length) K = 0)))).length (ic (fromF l K (fun k => (decide (K.length ≤ k.length) && decide (cmpR (k.take K.length) K = 0))))) ∧ Ext w w' := by
 subst hn
 have hE0 : Ext w (w.alloc (.cells #[.slice A K.length c] 33)) := Ext.al1 _ _
 have HF := Lib.hid (fromPrefixO_any base m tb w.heap.size l F A c K (fun k => (decide (K.length ≤ k.length) && decide (cmpR (k.take K.length) K = 0))) _ hm hm2 (hT.ext hE0) (hR.ext hE0) hK (fun q W hq hE => wPrefix_any q w.heap.size A c K _ W (hq.kr.ext hE) hq.2.1.2 (hR.ext (hE0.tr hE)) hK (hE.at (heap_alloc_new _ _))))
 clear hT hR
 go_enter Tryz.func194, Tryz.ntmps194
 go_wp2_with fail
 refine Calls.mono HF.out ?_
 rintro e w1 ⟨A', c', rfl, hR', hb1⟩
 have hE1 := hE0.tr hb1
 clear hb1
 go_wp2
 go_ret
 exact ⟨A', c', rfl, own_mono hR' (by simp), hE1⟩

def OPost (w : World) (r : List Int) (e : Ending) (w' : World) : Prop := ∃ A' c', e = .returned (.slice A' r.length c') ∧ w'.ownsRow w.heap.size TI' 1 (.slice A' r.length c') r.length (ic r) ∧ Ext w w'
theorem preO_k (base m tb : Nat) (ks : List Kp) (A : Option Addr) (c : Nat) (K : List Va) (w : World) (hm : 2 ≤ m) (hm2 : m ≤ 64) (hT : TK base w tb m ks) (hR : Rd w 3 A K.length (vcl K)) (hK : K.length ≤ 9223372036854775807) :
  Calls Tryz.prog 194 #[pt tb, .slice A K.length c] w (OPost w (preK ks K)) := by
 obtain ⟨l, F, h1, rfl, h3⟩ := hT
 have h := PrefixO_any base m tb l F A K.length c K w hm hm2 h1 hR rfl hK
 rw [prefix_same h1.srt (okI_l h3), filter_id (fun k => (decide (K.length ≤ k.length) && decide (cmpR (k.take K.length) K = 0)))] at h
 exact h

end Go.Proofs.YtdiaecgpjgdkdaaGreat
