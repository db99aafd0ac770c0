/- Lemmas for the rows: BtJ BtO2 BtU BtV BtW BtPu BtQ BtT BtY. -/
import Derived.Test.YtdiaecgpjgdkdaaGreatThS21
import Derived.Test.YtdiaecgpjgdkdaaGreatThS07
import Derived.Deep.RegionHeld3
import Derived.Deep.LoopGhost
import Derived.WalkMore
set_option linter.unusedSimpArgs false
set_option linter.unusedVariables false
namespace Go.Proofs.YtdiaecgpjgdkdaaGreat
open Go.RowKit

section
variable {P : Program} (w : World)
end
structure Two (base : Nat) (S : List Nat) (w W : World) (t a : MT) : Prop where
 okt : NodeOk base W t
 oka : NodeOk base W a
 nodup : (t.own ++ a.own).Nodup
 new : ∀ x ∈ t.own ++ a.own, x ∈ S ∨ w.heap.size ≤ x
 tur : Mut base S w W
structure Three (base : Nat) (S : List Nat) (w W : World) (t a b : MT) : Prop where
 okt : NodeOk base W t
 oka : NodeOk base W a
 okb : NodeOk base W b
 nodup : (t.own ++ (a.own ++ b.own)).Nodup
 new : ∀ x ∈ t.own ++ (a.own ++ b.own), x ∈ S ∨ w.heap.size ≤ x
 tur : Mut base S w W
abbrev rowP (v : Value) (n : Nat) (ps : List MP) : Rw := ⟨v, TP, 2, n, mpl ps⟩
abbrev rowQ (v : Value) (n : Nat) (ks : List MT) : Rw := ⟨v, TQ, 1, n, ptl (ks.map MT.r)⟩
theorem two_fin {base : Nat} {S : List Nat} {w W : World} {r1 r2 n1 m1 n2 m2 : Nat} {p1 k1 p2 k2 : Value} {P1 P2 : List MP} {K1 K2 : List MT} {X1 Y1 X2 Y2 : List Value} (H : Hp base S w W [⟨r1, #[p1, k1], TN⟩, ⟨r2, #[p2, k2], TN⟩] [⟨p1, TP, 2, n1, X1⟩, ⟨k1, TQ, 1, m1, Y1⟩, ⟨p2, TP, 2, n2, X2⟩, ⟨k2, TQ, 1, m2, Y2⟩])
  (x1 : X1 = mpl P1) (y1 : Y1 = ptl (K1.map MT.r)) (x2 : X2 = mpl P2) (y2 : Y2 = ptl (K2.map MT.r)) (e1 : n1 = P1.length) (e2 : m1 = K1.length) (e3 : n2 = P2.length) (e4 : m2 = K2.length) : Two base S w W (.nd r1 p1 k1 P1 K1) (.nd r2 p2 k2 P2 K2) := by
 subst e1 e2 e3 e4 x1 y1 x2 y2
 refine ⟨H.node 0 0 1 rfl rfl rfl, H.node 1 2 3 rfl rfl rfl, ?_, fun b hb => H.new b ?_, H.mu⟩
 ·
  have hd := H.dis
  simp only [MT.own, MT.r, MT.vp, MT.vk, blks, List.map_cons, List.map_nil, List.flatMap_cons, List.flatMap_nil, List.append_nil, List.nodup_append, List.nodup_cons, List.mem_append, List.mem_cons, List.not_mem_nil, or_false] at hd ⊢
  grind
 ·
  simp only [MT.own, MT.r, MT.vp, MT.vk, blks, List.map_cons, List.map_nil, List.flatMap_cons, List.flatMap_nil, List.append_nil, List.nodup_append, List.nodup_cons, List.mem_append, List.mem_cons, List.not_mem_nil, or_false] at hb ⊢
  grind
theorem three_fin {base : Nat} {S : List Nat} {w W : World} {r1 r2 r3 n1 m1 n2 m2 n3 m3 : Nat} {p1 k1 p2 k2 p3 k3 : Value} {P1 P2 P3 : List MP} {K1 K2 K3 : List MT} {X1 Y1 X2 Y2 X3 Y3 : List Value} (H : Hp base S w W [⟨r1, #[p1, k1], TN⟩, ⟨r2, #[p2, k2], TN⟩, ⟨r3, #[p3, k3], TN⟩] [⟨p1, TP, 2, n1, X1⟩, ⟨k1, TQ, 1, m1, Y1⟩, ⟨p2, TP, 2, n2, X2⟩, ⟨k2, TQ, 1, m2, Y2⟩, ⟨p3, TP, 2, n3, X3⟩, ⟨k3, TQ, 1, m3, Y3⟩])
  (x1 : X1 = mpl P1) (y1 : Y1 = ptl (K1.map MT.r)) (x2 : X2 = mpl P2) (y2 : Y2 = ptl (K2.map MT.r)) (x3 : X3 = mpl P3) (y3 : Y3 = ptl (K3.map MT.r)) (e1 : n1 = P1.length) (e2 : m1 = K1.length) (e3 : n2 = P2.length) (e4 : m2 = K2.length) (e5 : n3 = P3.length) (e6 : m3 = K3.length) : Three base S w W (.nd r1 p1 k1 P1 K1) (.nd r2 p2 k2 P2 K2) (.nd r3 p3 k3 P3 K3) := by
 subst e1 e2 e3 e4 e5 e6 x1 y1 x2 y2 x3 y3
 refine ⟨H.node 0 0 1 rfl rfl rfl, H.node 1 2 3 rfl rfl rfl, H.node 2 4 5 rfl rfl rfl, ?_, fun b hb => H.new b ?_, H.mu⟩
 ·
  have hd := H.dis
  simp only [MT.own, MT.r, MT.vp, MT.vk, blks, List.map_cons, List.map_nil, List.flatMap_cons, List.flatMap_nil, List.append_nil, List.nodup_append, List.nodup_cons, List.mem_append, List.mem_cons, List.not_mem_nil, or_false] at hd ⊢
  grind
 ·
  simp only [MT.own, MT.r, MT.vp, MT.vk, blks, List.map_cons, List.map_nil, List.flatMap_cons, List.flatMap_nil, List.append_nil, List.nodup_append, List.nodup_cons, List.mem_append, List.mem_cons, List.not_mem_nil, or_false] at hb ⊢
  grind
theorem Rd.kid {w : World} {A : Option Addr} {ks : List MT} {n : Nat} (h : Rd w 1 A n (ptl (ks.map MT.r))) {k : MT} {i : Nat} (hi : ks[i]? = some k) : ∃ b o, A = some ⟨b, o, none⟩ ∧ b < w.heap.size ∧ w.cell? ⟨b, o + i, none⟩ = some (pt k.r) := by
 have hlt := (List.getElem?_eq_some_iff.1 hi).1
 have hl := h.1
 simp only [ptl_length, List.length_map] at hl
 obtain ⟨b, o, hA, hb, hc⟩ := h.2 (by omega)
 exact ⟨b, o, hA, hb, hc i _ (by simp [ptl, hi])⟩
theorem own_ne0 {w : World} {base : Nat} {e : TypeId} {size n : Nat} {v : Value} {xs : List Value} (h : w.ownsRow base e size v n xs) (hn : 0 < n) : ∃ g c, v = .slice (some ⟨g, 0, none⟩) n c ∧ n ≤ c ∧ c ≤ maxLen := by
 rcases own_forms h with ⟨rfl, rfl, rfl⟩ | ⟨g, cap, cur, rfl, hB, hnc, _⟩
 ·
  omega
 ·
  exact ⟨g, cap, rfl, hnc, hB.hm⟩
theorem ownQ_at {w : World} {base g n c : Nat} {ks : List MT} (h : w.ownsRow base TQ 1 (.slice (some ⟨g, 0, none⟩) n c) n (ptl (ks.map MT.r))) {i : Nat} {k : MT} (hk : ks[i]? = some k) : g < w.heap.size ∧ w.cell? ⟨g, i, none⟩ = some (pt k.r) := by
 obtain ⟨b, o, h1, hb, x0⟩ := (Rd.of_own h).kid hk
 simp only [Option.some.injEq, Addr.mk.injEq, and_true] at h1
 obtain ⟨rfl, rfl⟩ := h1
 rw [Nat.zero_add] at x0
 exact ⟨hb, x0⟩
end Go.Proofs.YtdiaecgpjgdkdaaGreat

namespace Go.Proofs.YtdiaecgpjgdkdaaGreat
open Go.RowKit

theorem al_new {w W : World} {o : Obj} (h : W.heap.size = w.heap.size) : (W.alloc o).heap[w.heap.size]? = some o := by rw [← h]; exact heap_alloc_new W o
theorem own_far {w : World} {base : Nat} {e : TypeId} {size n : Nat} {v : Value} {xs : List Value} (h : w.ownsRow base e size v n xs) : v.ownBlock ≠ some w.heap.size := fun hg => by have := (h.lt _ hg).2; omega

end Go.Proofs.YtdiaecgpjgdkdaaGreat

namespace Go.Proofs.YtdiaecgpjgdkdaaGreat
open Go.RowKit

def GK : Nat → List MT → List Nat
 | 0, _ => []
 | d + 1, Q => Q.flatMap (foot d)
theorem foot_perm {d : Nat} : ∀ (X : List MT), (X.flatMap (foot d)).Perm (X.flatMap MT.own ++ GK d (X.flatMap MT.ks))
 | [] => by cases d <;> exact List.Perm.refl _
 | x :: X => by
  have ih := foot_perm (d := d) X
  have e : foot d x = x.own ++ GK d x.ks := by cases d <;> simp [foot, GK]
  have e2 : GK d ((x :: X).flatMap MT.ks) = GK d x.ks ++ GK d (X.flatMap MT.ks) := by cases d <;> simp [GK]
  rw [List.flatMap_cons, List.flatMap_cons, e, e2]
  rw [List.perm_iff_count] at ih ⊢
  intro z
  have := ih z
  simp only [List.count_append] at this ⊢
  omega
theorem foot_split {d : Nat} {t : MT} {K1 X K2 : List MT} (h : t.ks = K1 ++ (X ++ K2)) : (foot (d + 1) t).Perm ((t.own ++ X.flatMap MT.own) ++ (K1.flatMap (foot d) ++ (GK d (X.flatMap MT.ks) ++ K2.flatMap (foot d)))) := by
 have ih := foot_perm (d := d) X
 show (t.own ++ t.ks.flatMap (foot d)).Perm _
 rw [h]
 rw [List.perm_iff_count] at ih ⊢
 intro z
 have := ih z
 simp only [List.flatMap_append, List.count_append] at this ⊢
 omega
theorem nodup_swap {S S' R : List Nat} {N : Nat} (h : (S ++ R).Nodup) (h1 : S'.Nodup) (hn : ∀ b ∈ S', b ∈ S ∨ N ≤ b) (hl : ∀ b ∈ R, b < N) : (S' ++ R).Nodup := by
 rw [List.nodup_append] at h ⊢
 refine ⟨h1, h.2.1, fun a ha b hb e => ?_⟩
 subst e
 rcases hn a ha with h2 | h2
 ·
  exact h.2.2 a h2 a hb rfl
 ·
  have := hl a hb; omega
structure Upd (base d : Nat) (w w' : World) (t t' : MT) : Prop where
 r : t'.r = t.r
 good : GoodB base w' d t'
 nodup : (foot d t').Nodup
 new : ∀ b ∈ foot d t', b ∈ foot d t ∨ w.heap.size ≤ b
 tur : Mut base (foot d t) w w'
theorem GoodB.kid {base : Nat} {w : World} {d : Nat} {t k : MT} (h : GoodB base w (d + 1) t) (hk : k ∈ t.ks) : GoodB base w d k := h.2 k hk
theorem Mut.of_sub {base : Nat} {S T : List Nat} {w w' : World} (h : Mut base S w w') (hs : ∀ b ∈ S, b ∈ T) (hT : ∀ b ∈ T, base ≤ b ∧ ∀ c ty f, w.heap[b]? = some (.cells c ty f) → TreeT ty) : Mut base T w w' :=
 h.wide hs (fun b hb _ => (hT b hb).1) (fun b hb => (hT b hb).2)
theorem Upd.refl {base d : Nat} {w w' : World} {t : MT} (h : GoodB base w d t) (hn : (foot d t).Nodup) (e : Ext w w') : Upd base d w w' t t :=
 ⟨rfl, h.ext e, hn, fun b hb => .inl hb, (Mut.ofExt e).of_sub (by simp) fun b hb => ⟨(h.old b hb).1, (h.old b hb).2.2⟩⟩
theorem Upd.trans {base d : Nat} {w w1 w2 : World} {t t1 t2 : MT} (h : Upd base d w w1 t t1) (k : Upd base d w1 w2 t1 t2) : Upd base d w w2 t t2 :=
 ⟨k.r.trans h.r, k.good, k.nodup, fun b hb => (k.new b hb).elim (h.new b) (fun e => .inr (Nat.le_trans h.tur.size e)), h.tur.trans k.tur h.new⟩
theorem Upd.mid {base d : Nat} {w w' : World} {t t' : MT} {K1 X X' K2 : List MT} (hG : GoodB base w (d + 1) t) (hnd : (foot (d + 1) t).Nodup) (ht : t.ks = K1 ++ (X ++ K2)) (ht' : t'.ks = K1 ++ (X' ++ K2)) (hr : t'.r = t.r) (hk : X'.flatMap MT.ks = X.flatMap MT.ks)
  (hok : NodeOk base w' t') (hokX : ∀ x ∈ X', NodeOk base w' x) (hsn : (t'.own ++ X'.flatMap MT.own).Nodup) (hnew : ∀ b ∈ t'.own ++ X'.flatMap MT.own, b ∈ t.own ++ X.flatMap MT.own ∨ w.heap.size ≤ b) (hm : Mut base (t.own ++ X.flatMap MT.own) w w') : Upd base (d + 1) w w' t t' := by
 have p1 := foot_split (d := d) ht
 have p2 := foot_split (d := d) ht'
 rw [hk] at p2
 have h1 := p1.nodup_iff.1 hnd
 have hold := hG.old
 have hdis := (List.nodup_append.1 h1).2.2
 refine ⟨hr, ⟨hok, fun x hx => ?_⟩, ?_, fun b hb => ?_, hm.of_sub (fun b hb => p1.mem_iff.2 (List.mem_append_left _ hb)) fun b hb => ⟨(hold b hb).1, (hold b hb).2.2⟩⟩
 ·
  rw [ht'] at hx
  rcases List.mem_append.1 hx with hx | hx
  ·
   refine (hG.kid (k := x) (by rw [ht]; exact List.mem_append_left _ hx)).mut hm fun b hb hs => hdis b hs b (List.mem_append_left _ (List.mem_flatMap.2 ⟨x, hx, hb⟩)) rfl
  ·
   rcases List.mem_append.1 hx with hx | hx
   ·
    cases d with
    | zero => exact hokX x hx
    | succ d =>
     refine ⟨hokX x hx, fun y hy => ?_⟩
     have hyq : y ∈ X.flatMap MT.ks := by rw [← hk]; exact List.mem_flatMap.2 ⟨x, hx, hy⟩
     obtain ⟨z, hz, hyz⟩ := List.mem_flatMap.1 hyq
     have hGz := hG.kid (k := z) (by rw [ht]; exact List.mem_append_right _ (List.mem_append_left _ hz))
     exact (hGz.2 y hyz).mut hm fun b hb hs => hdis b hs b (List.mem_append_right _ (List.mem_append_left _ (List.mem_flatMap.2 ⟨y, hyq, hb⟩))) rfl
   ·
    refine (hG.kid (k := x) (by rw [ht]; exact List.mem_append_right _ (List.mem_append_right _ hx))).mut hm fun b hb hs => hdis b hs b (List.mem_append_right _ (List.mem_append_right _ (List.mem_flatMap.2 ⟨x, hx, hb⟩))) rfl
 ·
  exact p2.nodup_iff.2 (nodup_swap h1 hsn hnew fun b hb => (hold b (p1.mem_iff.2 (List.mem_append_right _ hb))).2.1)
 ·
  rcases List.mem_append.1 (p2.mem_iff.1 hb) with hb | hb
  ·
   exact (hnew b hb).imp (fun e => p1.mem_iff.2 (List.mem_append_left _ e)) id
  ·
   exact .inl (p1.mem_iff.2 (List.mem_append_right _ hb))
theorem Upd.kid {base d : Nat} {w w' : World} {t k k' : MT} {K1 K2 : List MT} (hG : GoodB base w (d + 1) t) (hnd : (foot (d + 1) t).Nodup) (ht : t.ks = K1 ++ k :: K2) (h : Upd base d w w' k k') : Upd base (d + 1) w w' t (.nd t.r t.vp t.vk t.ps (K1 ++ k' :: K2)) := by
 have e : foot (d + 1) t = (t.own ++ K1.flatMap (foot d)) ++ (foot d k ++ K2.flatMap (foot d)) := by show t.own ++ t.ks.flatMap (foot d) = _; rw [ht]; simp
 have e' : foot (d + 1) (.nd t.r t.vp t.vk t.ps (K1 ++ k' :: K2)) = (t.own ++ K1.flatMap (foot d)) ++ (foot d k' ++ K2.flatMap (foot d)) := by
  show (MT.nd t.r t.vp t.vk t.ps (K1 ++ k' :: K2)).own ++ (K1 ++ k' :: K2).flatMap (foot d) = _
  have : (MT.nd t.r t.vp t.vk t.ps (K1 ++ k' :: K2)).own = t.own := rfl
  rw [this]; simp
 have hold := hG.old
 have hnd' := hnd
 rw [e] at hnd' hold
 have hp1 : ((t.own ++ K1.flatMap (foot d)) ++ (foot d k ++ K2.flatMap (foot d))).Perm (foot d k ++ ((t.own ++ K1.flatMap (foot d)) ++ K2.flatMap (foot d))) := by
  rw [List.perm_iff_count]; intro z; simp only [List.count_append]; omega
 have hp2 : ((t.own ++ K1.flatMap (foot d)) ++ (foot d k' ++ K2.flatMap (foot d))).Perm (foot d k' ++ ((t.own ++ K1.flatMap (foot d)) ++ K2.flatMap (foot d))) := by
  rw [List.perm_iff_count]; intro z; simp only [List.count_append]; omega
 have h1 := hp1.nodup_iff.1 hnd'
 have hdis := (List.nodup_append.1 h1).2.2
 have hkm : k ∈ t.ks := by rw [ht]; simp
 have hm : Mut base (foot (d + 1) t) w w' := h.tur.of_sub (fun b hb => foot_kid hkm b hb) fun b hb => ⟨(hG.old b hb).1, (hG.old b hb).2.2⟩
 refine ⟨rfl, ⟨?_, fun x hx => ?_⟩, ?_, fun b hb => ?_, hm⟩
 ·
  have hs := hG.1.same (w' := w') fun b hb => h.tur.same b (hG.1.old b hb).2.1 fun hs => hdis b hs b (by simp [hb]) rfl
  refine ⟨hs.hb, hs.hp, hs.op, ?_⟩
  have hk2 := hs.ok
  have e3 : t.ks.map MT.r = (K1 ++ k' :: K2).map MT.r := by rw [ht]; simp [h.r]
  have e4 : t.ks.length = (K1 ++ k' :: K2).length := by rw [ht]; simp
  rw [e3, e4] at hk2
  exact hk2
 ·
  rcases List.mem_append.1 hx with hx | hx
  ·
   refine (hG.kid (k := x) (by rw [ht]; simp [hx])).mut h.tur fun b hb hs => hdis b hs b ?_ rfl
   exact List.mem_append_left _ (List.mem_append_right _ (List.mem_flatMap.2 ⟨x, hx, hb⟩))
  ·
   rcases List.mem_cons.1 hx with rfl | hx
   ·
    exact h.good
   ·
    refine (hG.kid (k := x) (by rw [ht]; simp [hx])).mut h.tur fun b hb hs => hdis b hs b ?_ rfl
    exact List.mem_append_right _ (List.mem_flatMap.2 ⟨x, hx, hb⟩)
 ·
  rw [e']
  exact hp2.nodup_iff.2 (nodup_swap h1 h.nodup h.new fun b hb => (hold b (hp1.mem_iff.2 (List.mem_append_right _ hb))).2.1)
 ·
  rw [e'] at hb
  rw [e]
  rcases List.mem_append.1 (hp2.mem_iff.1 hb) with hb | hb
  ·
   exact (h.new b hb).imp (fun e => hp1.mem_iff.2 (List.mem_append_left _ e)) id
  ·
   exact .inl (hp1.mem_iff.2 (List.mem_append_right _ hb))
theorem inter_join : ∀ {pa : List MP} {ka : List (List MP)}, ka.length = pa.length + 1 → ∀ (q : MP) (pb : List MP) (kb : List (List MP)), inter (pa ++ q :: pb) (ka ++ kb) = inter pa ka ++ q :: inter pb kb
 | [], [k], _, q, pb, kb => by
  show inter (q :: pb) (k :: kb) = k ++ q :: inter pb kb
  rfl
 | [], [], h, _, _, _ => by simp at h
 | [], _ :: _ :: _, h, _, _, _ => by simp at h
 | _ :: _, [], h, _, _, _ => by simp at h
 | p :: pa, k :: ka, h, q, pb, kb => by
  show k ++ p :: inter (pa ++ q :: pb) (ka ++ kb) = (k ++ p :: inter pa ka) ++ q :: inter pb kb
  rw [inter_join (by simpa using h)]
  simp
theorem flat_join {d : Nat} {x a b : MT} {q : MP} (hp : x.ps = a.ps ++ q :: b.ps) (hk : x.ks = a.ks ++ b.ks) (hl : d = 0 ∨ a.ks.length = a.ps.length + 1) : flat d x = flat d a ++ q :: flat d b := by
 cases d with
 | zero => exact hp
 | succ d =>
  show inter x.ps (x.ks.map (flat d)) = inter a.ps (a.ks.map (flat d)) ++ q :: inter b.ps (b.ks.map (flat d))
  rw [hp, hk, List.map_append, inter_join (by rcases hl with hl | hl <;> simp_all)]
theorem flat_at {d : Nat} {t k : MT} {P1 P2 : List MP} {K1 K2 : List MT} (hp : t.ps = P1 ++ P2) (hk : t.ks = K1 ++ k :: K2) (hl : P1.length = K1.length) : flat (d + 1) t = pre P1 (K1.map (flat d)) ++ (flat d k ++ post P2 (K2.map (flat d))) := by
 show inter t.ps (t.ks.map (flat d)) = _
 rw [hp, hk, List.map_append, List.map_cons, inter_split (by simpa using hl)]
theorem flat_at2 {d : Nat} {t a b : MT} {q : MP} {P1 P2 : List MP} {K1 K2 : List MT} (hp : t.ps = P1 ++ q :: P2) (hk : t.ks = K1 ++ a :: b :: K2) (hl : P1.length = K1.length) : flat (d + 1) t = pre P1 (K1.map (flat d)) ++ ((flat d a ++ q :: flat d b) ++ post P2 (K2.map (flat d))) := by
 rw [flat_at hp hk hl, List.map_cons, post_cons]
 simp
end Go.Proofs.YtdiaecgpjgdkdaaGreat

namespace Go.Proofs.YtdiaecgpjgdkdaaGreat
open Go.RowKit

def KidW (m : Nat) : Nat → MT → Prop
 | 0, k => k.ks = []
 | d + 1, k => k.ks.length = k.ps.length + 1 ∧ ∀ x ∈ k.ks, Wf m d (m / 2) m x
theorem wf_iff {m d lo hi : Nat} {k : MT} : Wf m d lo hi k ↔ KidW m d k ∧ lo ≤ k.ps.length ∧ k.ps.length ≤ hi := by
 cases d with
 | zero => exact Iff.rfl
 | succ d => exact ⟨fun h => ⟨⟨h.1, h.2.2.2⟩, h.2.1, h.2.2.1⟩, fun h => ⟨h.1.1, h.2.1, h.2.2, h.1.2⟩⟩
theorem KidW.len {m d : Nat} {k : MT} (h : KidW m d k) : d = 0 ∨ k.ks.length = k.ps.length + 1 := by
 cases d with
 | zero => exact .inl rfl
 | succ d => exact .inr h.1
section
variable {base m d i : Nat} {w w' : World} {t a b : MT} {q : MP}
theorem one_at {α : Type} {l : List α} {i : Nat} {a : α} (ha : l[i]? = some a) : l = l.take i ++ a :: l.drop (i + 1) := by
 obtain ⟨hi, rfl⟩ := List.getElem?_eq_some_iff.1 ha
 rw [List.getElem_cons_drop hi, List.take_append_drop]
theorem kid_apart {t a : MT} (hnd : (foot (d + 1) t).Nodup) (ha : t.ks[i]? = some a) : (t.own ++ a.own).Nodup := by
 have h1 := (foot_split (d := d) (t := t) (K1 := t.ks.take i) (X := [a]) (K2 := t.ks.drop (i + 1)) (one_at ha)).nodup_iff.1 hnd
 have := (List.nodup_append.1 h1).1
 simpa using this
theorem foot_of_kid (hnd : (foot (d + 1) t).Nodup) {k : MT} (hk : k ∈ t.ks) : (foot d k).Nodup := by
 have h1 : (t.ks.flatMap (foot d)).Nodup := (List.nodup_append.1 hnd).2.1
 obtain ⟨A, B, hAB⟩ := List.append_of_mem hk
 rw [hAB, List.flatMap_append, List.flatMap_cons] at h1
 exact (List.nodup_append.1 (List.nodup_append.1 h1).2.1).1
end
end Go.Proofs.YtdiaecgpjgdkdaaGreat

namespace Go.Proofs.YtdiaecgpjgdkdaaGreat
open Go.RowKit

theorem inter_ps : ∀ {ps : List MP} {ks : List (List MP)}, ps.Sublist (inter ps ks)
 | [], _ => List.nil_sublist _
 | p :: ps, [] => List.Sublist.refl _
 | p :: ps, k :: ks => ((inter_ps (ps := ps) (ks := ks)).cons_cons p).trans (List.sublist_append_right _ _)
theorem ps_sub {d : Nat} {t : MT} : t.ps.Sublist (flat d t) := by
 cases d with
 | zero => exact List.Sublist.refl _
 | succ d => exact inter_ps
theorem flat_kid {d i : Nat} {t k : MT} (hl : t.ks.length = t.ps.length + 1) (hk : t.ks[i]? = some k) : flat (d + 1) t = pre (t.ps.take i) ((t.ks.take i).map (flat d)) ++ (flat d k ++ post (t.ps.drop i) ((t.ks.drop (i + 1)).map (flat d))) := by
 have hi := (List.getElem?_eq_some_iff.1 hk).1
 exact flat_at (List.take_append_drop i t.ps).symm (one_at hk) (by simp; omega)
theorem kid_sub {d i : Nat} {t k : MT} (hl : t.ks.length = t.ps.length + 1) (hk : t.ks[i]? = some k) : (flat d k).Sublist (flat (d + 1) t) := by
 rw [flat_kid hl hk]
 exact (List.sublist_append_left _ _).trans (List.sublist_append_right _ _)
theorem around_kid {d i : Nat} {t k : MT} {p : Kp} (hl : t.ks.length = t.ps.length + 1) (hk : t.ks[i]? = some k) (hs : SrtB (flat (d + 1) t)) (h1 : ∀ q ∈ t.ps.take i, ltP q.kp p) (h2 : ∀ q ∈ t.ps.drop i, ¬ ltP q.kp p) :
  (∀ q ∈ pre (t.ps.take i) ((t.ks.take i).map (flat d)), ltP q.kp p) ∧ ∀ q ∈ post (t.ps.drop i) ((t.ks.drop (i + 1)).map (flat d)), ¬ ltP q.kp p := by
 have hi := (List.getElem?_eq_some_iff.1 hk).1
 obtain ⟨_, h3, h4⟩ := around (ps := t.ps) (ks := t.ks.map (flat d)) (i := i) (by simpa using hl) hs (by omega) h1 h2
 rw [← List.map_take] at h3
 rw [← List.map_drop] at h4
 exact ⟨h3, h4⟩
theorem gt_of {a p : Kp} (h : ¬ ltP a p) (hne : a ≠ p) : ltP p a := by
 rcases ltP_tri a p with h1 | h1 | h1
 ·
  exact absurd h1 h
 ·
  exact absurd h1 hne
 ·
  exact h1
theorem ins_at {l : List MP} {i : Nat} {p : MP} (h1 : ∀ q ∈ l.take i, ltP q.kp p.kp) (h2 : ∀ q ∈ l.drop i, ¬ ltP q.kp p.kp) (hn : ∀ q ∈ l, q.kp ≠ p.kp) : Ins p l (l.take i ++ p :: l.drop i) :=
 ⟨l.take i, l.drop i, (List.take_append_drop i l).symm, rfl, h1, fun q hq => gt_of (h2 q hq) (hn q (List.mem_of_mem_drop hq))⟩
theorem Hp.ofSplit {base md : Nat} {w w' : World} {t k l r : MT} (hbw : base ≤ w.heap.size) (hT : NodeOk base w t) (hK : NodeOk base w k) (hnd : (t.own ++ k.own).Nodup) (hS : SplitR base w w' k l r md) :
  Hp base (t.own ++ k.own) w w' [⟨t.r, #[t.vp, t.vk], TN⟩, ⟨l.r, #[l.vp, l.vk], TN⟩, ⟨r.r, #[r.vp, r.vk], TN⟩] [rowP t.vp t.ps.length t.ps, rowQ t.vk t.ks.length t.ks, rowP l.vp l.ps.length l.ps, rowQ l.vk l.ks.length l.ks, rowP r.vp r.ps.length r.ps, rowQ r.vk r.ks.length r.ks] := by
 have hdis := (List.nodup_append.1 hnd).2.2
 have hT' : NodeOk base w' t := hT.same fun b hb => hS.tur.same b (hT.old b hb).2.1 fun hs => hdis b hb b hs rfl
 have hm : Mut base (t.own ++ k.own) w w' := hS.tur.of_sub (fun b hb => List.mem_append_right _ hb) fun b hb => by
  rcases List.mem_append.1 hb with hb | hb
  ·
   exact ⟨(hT.old b hb).1, (hT.old b hb).2.2⟩
  ·
   exact ⟨(hK.old b hb).1, (hK.old b hb).2.2⟩
 have hn := nodup_swap (S := k.own) (S' := l.own ++ r.own) (R := t.own) (N := w.heap.size) (List.perm_append_comm.nodup_iff.1 hnd) hS.nodup hS.new fun b hb => (hT.old b hb).2.1
 refine ⟨hbw, hm, ?_, ?_, ?_, ?_⟩
 ·
  intro x hx
  simp only [List.mem_cons, List.not_mem_nil, or_false] at hx
  rcases hx with rfl | rfl | rfl
  ·
   exact ⟨hT'.hb, hT'.hp⟩
  ·
   exact ⟨hS.lok.hb, hS.lok.hp⟩
  ·
   exact ⟨hS.rok.hb, hS.rok.hp⟩
 ·
  intro x hx
  simp only [List.mem_cons, List.not_mem_nil, or_false] at hx
  rcases hx with rfl | rfl | rfl | rfl | rfl | rfl
  ·
   exact hT'.op
  ·
   exact hT'.ok
  ·
   exact hS.lok.op
  ·
   exact hS.lok.ok
  ·
   exact hS.rok.op
  ·
   exact hS.rok.ok
 ·
  simp only [MT.own, MT.r, MT.vp, MT.vk, blks, List.map_cons, List.map_nil, List.flatMap_cons, List.flatMap_nil, List.append_nil, List.nodup_append, List.nodup_cons, List.mem_append, List.mem_cons, List.not_mem_nil, or_false] at hn ⊢
  grind
 ·
  intro x hx
  have h1 := hS.new x
  simp only [MT.own, MT.r, MT.vp, MT.vk, blks, List.map_cons, List.map_nil, List.flatMap_cons, List.flatMap_nil, List.append_nil, List.mem_append, List.mem_cons, List.not_mem_nil, or_false] at hx h1 ⊢
  grind
theorem SplitR.flat {base d md : Nat} {w w' : World} {k l r : MT} {q : MP} (hS : SplitR base w w' k l r md) (hq : k.ps[md]? = some q) (hl : d = 0 ∨ k.ks.length = k.ps.length + 1) : flat d k = flat d l ++ q :: flat d r := by
 have hi := (List.getElem?_eq_some_iff.1 hq).1
 refine flat_join (by rw [hS.lps, hS.rps]; exact one_at hq) (by rw [hS.lks, hS.rks, List.take_append_drop]) (hl.imp id fun h => ?_)
 rw [hS.lks, hS.lps]; simp; omega
theorem SplitR.kids {base m d md : Nat} {w w' : World} {k l r : MT} (hS : SplitR base w w' k l r md) (hk : KidW m d k) (hm : md < k.ps.length) : KidW m d l ∧ KidW m d r := by
 cases d with
 | zero =>
  have h0 : k.ks = [] := hk
  exact ⟨by show l.ks = []; rw [hS.lks, h0]; rfl, by show r.ks = []; rw [hS.rks, h0]; rfl⟩
 | succ d =>
  have h1 := hk.1
  refine ⟨⟨?_, fun x hx => ?_⟩, ⟨?_, fun x hx => ?_⟩⟩
  ·
   rw [hS.lks, hS.lps]; simp; omega
  ·
   rw [hS.lks] at hx; exact hk.2 x (List.mem_of_mem_take hx)
  ·
   rw [hS.rks, hS.rps]; simp; omega
  ·
   rw [hS.rks] at hx; exact hk.2 x (List.mem_of_mem_drop hx)
theorem Ins.mem {p : MP} {l l' : List MP} (h : Ins p l l') {q : MP} : q ∈ l' ↔ q = p ∨ q ∈ l := by
 obtain ⟨a, b, rfl, rfl, _⟩ := h
 simp only [List.mem_append, List.mem_cons]
 grind
end Go.Proofs.YtdiaecgpjgdkdaaGreat

namespace Go.Proofs.YtdiaecgpjgdkdaaGreat
open Go.RowKit

theorem Upd.one {base d n m : Nat} {w W : World} {t : MT} {vp vk : Value} {P : List MP} {X Y : List Value} (hG : GoodB base w d t) (hnd : (foot d t).Nodup) (H : Hp base t.own w W [⟨t.r, #[vp, vk], TN⟩] [⟨vp, TP, 2, n, X⟩, ⟨vk, TQ, 1, m, Y⟩]) (e1 : n = P.length) (e2 : m = t.ks.length) (x1 : X = mpl P) (y1 : Y = ptl (t.ks.map MT.r)) : Upd base d w W t (.nd t.r vp vk P t.ks) := by
 subst e1 e2 x1 y1
 have hok : NodeOk base W (.nd t.r vp vk P t.ks) := H.node 0 0 1 rfl rfl rfl
 have hn : (MT.nd t.r vp vk P t.ks).own.Nodup := by
  have hd := H.dis
  simp only [MT.own, MT.r, MT.vp, MT.vk, blks, List.map_cons, List.map_nil, List.flatMap_cons, List.flatMap_nil, List.append_nil, List.nodup_append, List.nodup_cons, List.mem_append, List.mem_cons, List.not_mem_nil, or_false] at hd ⊢
  grind
 have hw : ∀ b ∈ (MT.nd t.r vp vk P t.ks).own, b ∈ t.own ∨ w.heap.size ≤ b := fun b hb => H.new b (by
  simp only [MT.own, MT.r, MT.vp, MT.vk, blks, List.map_cons, List.map_nil, List.flatMap_cons, List.flatMap_nil, List.append_nil, List.nodup_append, List.nodup_cons, List.mem_append, List.mem_cons, List.not_mem_nil, or_false] at hb ⊢
  grind)
 cases d with
 | zero => exact ⟨rfl, hok, hn, hw, H.mu⟩
 | succ d => exact Upd.mid (K1 := t.ks) (X := []) (X' := []) (K2 := []) hG hnd (by simp) (by simp [MT.ks]) rfl rfl hok (by simp) (by simpa using hn) (by simpa using hw) (by simpa using H.mu)
theorem Upd.pre {base d : Nat} {w W w' : World} {t t' : MT} (hG : GoodB base w d t) (hn : (foot d t).Nodup) (e : Ext w W) (h : Upd base d W w' t t') : Upd base d w w' t t' := (Upd.refl hG hn e).trans h
theorem Mut.cell {base : Nat} {S : List Nat} {w w' : World} (h : Mut base S w w') {b o : Nat} {v : Value} (hc : w.cell? ⟨b, o, none⟩ = some v) (hb : b ∉ S) : w'.cell? ⟨b, o, none⟩ = some v := (World.cell?_of_block (h.same b (cell_lt hc) hb)).trans hc
theorem ptl_ins {K : List MT} {i : Nat} {k l r : MT} (hk : K[i]? = some k) (hr : l.r = k.r) : (ptl (K.map MT.r)).take (i + 1) ++ ([pt r.r] ++ (ptl (K.map MT.r)).drop (i + 1)) = ptl ((K.take i ++ l :: r :: K.drop (i + 1)).map MT.r) := by
 obtain ⟨hi, rfl⟩ := List.getElem?_eq_some_iff.1 hk
 rw [ptl_take, ptl_drop, List.take_succ_eq_append_getElem hi]
 unfold ptl
 simp only [List.map_append, List.map_cons, List.map_nil, hr, List.append_assoc, List.cons_append, List.nil_append]
theorem al_at {w W : World} {o : Obj} (e : Ext (w.alloc o) W) : W.heap[w.heap.size]? = some o := e.at (heap_alloc_new _ _)

set_option maxRecDepth 100000 in
set_option maxHeartbeats 16000000 in
theorem put_any (base m tb : Nat) (hm : 2 ≤ m) (hm2 : m ≤ 64) : ∀ (d lo : Nat) (t : MT) (p : MP) (w : World), base ≤ w.heap.size → w.cell? ⟨tb, 1, none⟩ = some (.int .i64 m) → tb ∉ foot d t → GoodB base w d t → (foot d t).Nodup → Wf m d lo m t → SrtB (flat d t) → (∀ q ∈ flat d t, KOk base w q) → KOk base w p → (∀ q ∈ flat d t, q.kp ≠ p.kp) →
  Calls Tryz.prog 48 #[pt tb, pt t.r, pv p] w fun e w' => e = .returned (.tuple #[]) ∧ ∃ t', Upd base d w w' t t' ∧ Ins p (flat d t) (flat d t') ∧ Wf m d lo (m + 1) t' := by
 intro d
 induction d with
 | zero =>
  intro lo t p w hbw htb htf hG hnd hW hs hk hp hne
  obtain ⟨hks, hlo, hhi⟩ := hW
  have hpl : t.ps.length ≤ 64 := by omega
  have HFI : Hid (∀ W, Ext w W → Calls Tryz.prog 86 #[pt t.r, pv p] W fun e w' => ∃ i : Nat, i ≤ t.ps.length ∧ (∀ q ∈ t.ps.take i, ltP q.kp p.kp) ∧ (∀ q ∈ t.ps.drop i, ¬ ltP q.kp p.kp) ∧ e = .returned (.tuple #[.int .i64 i, .bool (foundB t.ps i p.kp)]) ∧ Ext W w') := Lib.hid fun W hE => find_anyB base t p W (GoodB.ext (d := 0) hG hE) (by omega) hs (fun q hq => ((hk q hq).kr).ext hE) (hp.kr.ext hE)
  have HG := Lib.hid hG
  have HND := Lib.hid hnd
  have HNE := Lib.hid hne
  have HS := Lib.hid hs
  have HB := Lib.hid hbw
  have hvk : t.vk = .slice none 0 0 ∨ ∃ A c, t.vk = .slice A 0 c := by
   obtain ⟨A, c, h1, _⟩ := own_form2 (GoodB.node (d := 0) hG).ok
   rw [hks] at h1
   exact .inr ⟨A, c, h1⟩
  obtain ⟨Ak, ck, hvk⟩ : ∃ A c, t.vk = .slice A 0 c := by rcases hvk with h | h; exact ⟨none, 0, h⟩; exact h
  have hr0 := (Array.getElem?_eq_some_iff.1 (GoodB.node (d := 0) hG).hp).1
  have HWF := Lib.hid hks
  clear hs hk hp hne hG hnd hbw
  go_enter Tryz.func48, Tryz.ntmps48
  go_wp2_with fail
  refine Calls.mono (HFI.out _ (ex_)) ?_
  rintro e w1 ⟨i, hi, hlt, hge, rfl, hb1⟩
  have hE1 : Ext w w1 := (Ext.al1 w _).tr hb1
  obtain ⟨_, z0, z1, _, _⟩ := two_cells (al_at hb1)
  have hbs : w.heap.size < w1.heap.size := Nat.lt_of_lt_of_le (by simp) hb1.size
  have H1 := Lib.hid ((Hp.ofNode HB.out HG.out HND.out).ext hE1)
  have HINS : Hid (Ins p t.ps (t.ps.take i ++ p :: t.ps.drop i)) := Lib.hid (ins_at hlt hge HNE.out)
  have HF0 : Hid (some w.heap.size ≠ t.vp.ownBlock) := Lib.hid fun h => by have := ((GoodB.node (d := 0) HG.out).op.lt _ h.symm).2; omega
  obtain ⟨rt, t0, t1, ft0, ft1⟩ := H1.out.two 0 rfl
  rw [hvk] at t1
  obtain ⟨bx, hbx⟩ : ∃ bx, w.heap.size = bx := ⟨_, rfl⟩
  rw [hbx] at z0 z1 hbs HF0 hr0 ⊢
  clear hb1 hlt hge
  generalize foundB t.ps i p.kp = fb
  go_wp2
  refine wp_region_T 11 (S := (fun w' => w'.cell? ⟨t.r, 0, none⟩ = some t.vp ∧ w'.cell? ⟨bx, 0, none⟩ = some (.slice p.A p.n p.c) ∧ w'.cell? ⟨bx, 1, none⟩ = some (.int .i64 p.id))) (by kernel_rfl) (by simp [go_sem, ↓IntWalk.iteOmega, *]) (fun hHeld => ?_)
  refine tkT 0 ?oi1 (?v1) ?hi1 ?hy1 ?_
  case hi1 => (simp only [gA, gS, gZ]; try rfl)
  case hy1 => (refine Or.inl ⟨by rfl, ?_⟩; intro wq hSw; (try dsimp only at hSw); go_simp; (try with_reducible rfl))
  (try simp only [Act.put, pA, pZ, pS])
  refine tkT 1 ?oi2 (?v2) ?hi2 ?hy2 ?_
  case hi2 => (simp only [gA, gS, gZ]; try rfl)
  case hy2 => (refine Or.inl ⟨by rfl, ?_⟩; intro wq hSw; (try dsimp only at hSw); go_simp; (try with_reducible rfl))
  (try simp only [Act.put, pA, pZ, pS])
  refine tkT 2 ?oi3 (?v3) ?hi3 ?hy3 ?_
  case hi3 => (simp only [gA, gS, gZ]; try rfl)
  case hy3 => (refine Or.inl ⟨by rfl, ?_⟩; intro wq hSw; (try dsimp only at hSw); go_simp; (try with_reducible rfl))
  (try simp only [Act.put, pA, pZ, pS])
  refine tkT 3 ?oi4 (?v4) ?hi4 ?hy4 ?_
  case hi4 => (simp only [gA, gS, gZ]; try rfl)
  case hy4 => (refine Or.inl ⟨by rfl, ?_⟩; intro wq hSw; (try dsimp only at hSw); go_simp; (try with_reducible rfl))
  (try simp only [Act.put, pA, pZ, pS])
  refine tkT 4 ?oi5 (?v5) ?hi5 ?hy5 ?_
  case hi5 => (simp only [gA, gS, gZ]; try rfl)
  case hy5 => (refine Or.inl ⟨by rfl, ?_⟩; intro wq hSw; (try dsimp only at hSw); go_simp; (try with_reducible rfl))
  (try simp only [Act.put, pA, pZ, pS])
  refine tkT 5 ?oi6 (?v6) ?hi6 ?hy6 ?_
  case hi6 => (simp only [gA, gS, gZ]; try rfl)
  case hy6 => (refine Or.inl ⟨by rfl, ?_⟩; intro wq hSw; (try dsimp only at hSw); go_simp; (try with_reducible rfl))
  (try simp only [Act.put, pA, pZ, pS])
  refine tkT 6 ?oi7 (?v7) ?hi7 ?hy7 ?_
  case hi7 => (simp only [gA, gS, gZ]; try rfl)
  case hy7 => (refine Or.inl ⟨by rfl, ?_⟩; intro wq hSw; (try dsimp only at hSw); go_simp; (try with_reducible rfl))
  (try simp only [Act.put, pA, pZ, pS])
  refine wpAnyT_ready (rs := [7]) (by kernel_rfl) (by simp) ?_
  refine AllReadyT.cons (o := ?oi8) ?hi8 ?ti8 AllReadyT.nil
  case hi8 => (simp only [gA, gS, gZ]; try rfl)
  case ti8 =>
   intro KQ hKQ
   go_simp
   refine hKQ.out _ _ (by simp [go_sem, ↓IntWalk.iteOmega, *]) (fun hHeld2 => ?_)
   clear hHeld hKQ KQ; have hHeld := hHeld2; clear hHeld2
   (try simp only [Act.put, pA, pZ, pS])
   refine wpAnyT_ready (rs := [8]) (by kernel_rfl) (by simp) ?_
   refine AllReadyT.cons (o := ?oi9) ?hi9 ?ti9 AllReadyT.nil
   case hi9 => (simp only [gA, gS, gZ]; try rfl)
   case ti9 =>
    intro KQ hKQ
    go_simp
    go_at_call 87
    refine Calls.mono (insP_any base t.ps.length i w1.heap.size 1 t.vp (mpl t.ps) (mp2 p) _ (H1.out.ext (ex_)).bs ((H1.out.ext (ex_)).own 0 rfl) hi (by omega) (own_far (H1.out.own 0 rfl)) (al_new (by simp)) rfl (by intro u hu; simp [mp2] at hu; rcases hu with rfl | rfl <;> rfl) (oneCell_mpl _)) ?_
    rintro e w2 ⟨v2, rfl, ho2, hg2, hn2⟩
    obtain ⟨A2, k2, rfl, _, _, _⟩ := own_form2 ho2
    rw [mpl_take, mpl_drop, ← mpl_one, ← mpl_append, ← mpl_append] at ho2
    have hsz := hg2.size
    have hsz2 : w1.heap.size ≤ w2.heap.size := Nat.le_trans (Nat.le_of_lt (by simp)) hsz
    have z0 := World.grownBy.cell hg2 (cell_al z0) HF0.out
    have z1 := World.grownBy.cell hg2 (cell_al z1) HF0.out
    have H2 := Lib.hid ((H1.out.ext (ex_)).grow 0 rfl hg2 ho2 hn2)
    clear ho2 hg2 hn2 t0 t1 ft0 ft1 rt
    obtain ⟨rt, t0, t1, ft0, ft1⟩ := H2.out.two 0 rfl
    refine hKQ.out _ _ (by simp [go_sem, ↓IntWalk.iteOmega, *]) (fun hHeld2 => ?_)
    clear hHeld hKQ KQ; have hHeld := hHeld2; clear hHeld2
    (try simp only [Act.put, pA, pZ, pS])
    refine tkT 9 ?oi10 (?v10) ?hi10 ?hy10 ?_
    case hi10 => (simp only [gA, gS, gZ]; try rfl)
    case hy10 => (refine Or.inl ⟨by rfl, ?_⟩; intro wq hSw; (try dsimp only at hSw); go_simp; (try with_reducible rfl))
    (try simp only [Act.put, pA, pZ, pS])
    refine tkT 10 ?oi11 (?v11) ?hi11 ?hy11 ?_
    case hi11 => (simp only [gA, gS, gZ]; try rfl)
    case hy11 => (refine Or.inl ⟨by rfl, ?_⟩; intro wq hSw; (try dsimp only at hSw); go_simp; (try with_reducible rfl))
    (try simp only [Act.put, pA, pZ, pS])
    refine wpAnyT_ready (rs := [11]) (by kernel_rfl) (by simp) ?_
    refine AllReadyT.last (o := ?oi12) ?hi12 ?ti12
    case hi12 => (simp only [gA, gS, gZ]; try rfl)
    case ti12 =>
     intro KQ hKQ
     go_simp
     refine hKQ.out _ _ ?_
     clear hKQ KQ hHeld
     (try simp only [Act.put, pA, pZ, pS])
     refine wpAnyT_done (by kernel_rfl) ?_ _
     have H3 := H2.out.set 0 rfl 0 (.slice A2 (t.ps.length + 1) k2)
     go_wp2
     refine bodyPost_ret (v := .tuple #[]) ?_ rfl ?_
     ·
      simp [results, Tryz.results48]
     have hU := Upd.one (d := 0) HG.out HND.out H3 (P := t.ps.take i ++ p :: t.ps.drop i) (by simp; omega) rfl (by simp) rfl
     exact ⟨rfl, _, hU, HINS.out, HWF.out, (by show lo ≤ (t.ps.take i ++ p :: t.ps.drop i).length; simp; omega), (by show (t.ps.take i ++ p :: t.ps.drop i).length ≤ m + 1; simp; omega)⟩
 | succ d ih =>
  intro lo t p w hbw htb htf hG hnd hW hs hk hp hne
  obtain ⟨hkl, hlo, hhi, hkw⟩ := hW
  have hpl : t.ps.length ≤ 64 := by omega
  have HFI : Hid (∀ W, Ext w W → Calls Tryz.prog 86 #[pt t.r, pv p] W fun e w' => ∃ i : Nat, i ≤ t.ps.length ∧ (∀ q ∈ t.ps.take i, ltP q.kp p.kp) ∧ (∀ q ∈ t.ps.drop i, ¬ ltP q.kp p.kp) ∧ e = .returned (.tuple #[.int .i64 i, .bool (foundB t.ps i p.kp)]) ∧ Ext W w') := Lib.hid fun W hE => find_anyB base t p W (hG.ext hE).1 (by omega) (List.Pairwise.sublist ps_sub hs) (fun q hq => ((hk q (ps_sub.subset hq)).kr).ext hE) (hp.kr.ext hE)
  have HG := Lib.hid hG
  have HND := Lib.hid hnd
  have HNE := Lib.hid hne
  have HS := Lib.hid hs
  have HK := Lib.hid hk
  have HP := Lib.hid hp
  have HB := Lib.hid hbw
  have HKL := Lib.hid hkl
  have HKW := Lib.hid hkw
  have HTF := Lib.hid htf
  obtain ⟨kb, c, hvk, hc, _⟩ := own_ne0 hG.1.ok (by omega)
  have hr0 := (Array.getElem?_eq_some_iff.1 hG.1.hp).1
  have htbl := cell_lt htb
  have HTBW := Lib.hid htb
  have HLOHI : Hid (lo ≤ t.ps.length ∧ t.ps.length ≤ m ∧ t.ps.length ≤ 64) := Lib.hid ⟨hlo, hhi, hpl⟩
  clear hs hk hp hne hnd hbw htf
  go_enter Tryz.func48, Tryz.ntmps48
  go_wp2_with fail
  refine Calls.mono (HFI.out _ (ex_)) ?_
  rintro e w1 ⟨i, hi, hlt, hge, rfl, hb1⟩
  have hE1 : Ext w w1 := (Ext.al1 w _).tr hb1
  obtain ⟨_, z0, z1, _, _⟩ := two_cells (al_at hb1)
  have hbs : w.heap.size < w1.heap.size := Nat.lt_of_lt_of_le (by simp) hb1.size
  obtain ⟨k, hkk⟩ : ∃ k, t.ks[i]? = some k := ⟨_, List.getElem?_eq_getElem (by omega)⟩
  have hkm := List.mem_of_getElem? hkk
  have HIH : Hid (∀ W, Ext w W → Calls Tryz.prog 48 #[pt tb, pt k.r, pv p] W fun e w' => e = .returned (.tuple #[]) ∧ ∃ t', Upd base d W w' k t' ∧ Ins p (flat d k) (flat d t') ∧ Wf m d (m / 2) (m + 1) t') := Lib.hid fun W hE =>
   ih (m / 2) k p W (Nat.le_trans HB.out hE.size) (hE.cell' htb) (fun h => HTF.out (foot_kid hkm tb h)) ((HG.out.kid hkm).ext hE) (foot_of_kid HND.out hkm) (HKW.out k hkm) (List.Pairwise.sublist (kid_sub HKL.out hkk) HS.out) (fun q hq => (HK.out q ((kid_sub HKL.out hkk).subset hq)).ext hE) (HP.out.ext hE) (fun q hq => HNE.out q ((kid_sub HKL.out hkk).subset hq))
  have HAR := Lib.hid (around_kid (p := p.kp) HKL.out hkk HS.out hlt hge)
  have HFK := Lib.hid (flat_kid (d := d) HKL.out hkk)
  have HKS : Hid (t.ks = t.ks.take i ++ k :: t.ks.drop (i + 1)) := Lib.hid (one_at hkk)
  have HKK := Lib.hid hkk
  have HKNE : Hid (∀ q ∈ flat (d + 1) t, q.kp ≠ p.kp) := HNE
  have hop := (hG.1.same (fun b hb => hE1.block b (hG.1.old b hb).2.1)).ok
  have hnp := hE1.at hG.1.hp
  rw [hvk] at hop hnp
  obtain ⟨n, hn⟩ : ∃ n, t.ks.length = n := ⟨_, rfl⟩
  rw [hn] at hop hnp
  obtain ⟨hkb, q0⟩ := ownQ_at hop hkk
  obtain ⟨rt, t0, t1, ft0, ft1⟩ := two_cells hnp
  have htb := hE1.cell' htb
  have hin : (i : Int) < (n : Int) := by omega
  have hn0 : ¬ (n = 0) := by omega
  have hib : i ≤ 64 := by omega
  have HN := Lib.hid hn
  have HVK := Lib.hid hvk
  have HI0 := Lib.hid hi
  have HI1 : Hid (i ≤ t.ps.length ∧ i < t.ks.length ∧ t.ks.length = t.ps.length + 1) := Lib.hid ⟨hi, by omega, hkl⟩
  have hnb : n ≤ 65 := by omega
  obtain ⟨bx, hbx⟩ : ∃ bx, w.heap.size = bx := ⟨_, rfl⟩
  rw [hbx] at z0 z1 hbs hr0 htbl ⊢
  clear hb1 hlt hge hG hkl hkw hop hnp hkk hkm hn hvk hc ih hi hlo hhi hpl
  generalize foundB t.ps i p.kp = fb
  have HIB := Lib.hid hib
  go_wp2
  refine wp_region_T 9 (S := (fun w' => w'.cell? ⟨t.r, 1, none⟩ = some (.slice (some ⟨kb, 0, none⟩) n c) ∧ w'.cell? ⟨kb, i, none⟩ = some (pt k.r) ∧ w'.cell? ⟨bx, 0, none⟩ = some (.slice p.A p.n p.c) ∧ w'.cell? ⟨bx, 1, none⟩ = some (.int .i64 p.id))) (by kernel_rfl) (by simp [go_sem, ↓IntWalk.iteOmega, *]) (fun hHeld => ?_)
  refine tkT 0 ?oi201 (?v201) ?hi201 ?hy201 ?_
  case hi201 => (simp only [gA, gS, gZ]; try rfl)
  case hy201 => (refine Or.inl ⟨by rfl, ?_⟩; intro wq hSw; (try dsimp only at hSw); go_simp; (try with_reducible rfl))
  (try simp only [Act.put, pA, pZ, pS])
  refine tkT 1 ?oi202 (?v202) ?hi202 ?hy202 ?_
  case hi202 => (simp only [gA, gS, gZ]; try rfl)
  case hy202 => (refine Or.inl ⟨by rfl, ?_⟩; intro wq hSw; (try dsimp only at hSw); go_simp; (try with_reducible rfl))
  (try simp only [Act.put, pA, pZ, pS])
  refine tkT 2 ?oi203 (?v203) ?hi203 ?hy203 ?_
  case hi203 => (simp only [gA, gS, gZ]; try rfl)
  case hy203 => (refine Or.inl ⟨by rfl, ?_⟩; intro wq hSw; (try dsimp only at hSw); go_simp; (try with_reducible rfl))
  (try simp only [Act.put, pA, pZ, pS])
  refine tkT 3 ?oi204 (?v204) ?hi204 ?hy204 ?_
  case hi204 => (simp only [gA, gS, gZ]; try rfl)
  case hy204 => (refine Or.inl ⟨by rfl, ?_⟩; intro wq hSw; (try dsimp only at hSw); go_simp; (try with_reducible rfl))
  (try simp only [Act.put, pA, pZ, pS])
  refine tkT 4 ?oi205 (?v205) ?hi205 ?hy205 ?_
  case hi205 => (simp only [gA, gS, gZ]; try rfl)
  case hy205 => (refine Or.inl ⟨by rfl, ?_⟩; intro wq hSw; (try dsimp only at hSw); go_simp; (try with_reducible rfl))
  (try simp only [Act.put, pA, pZ, pS])
  refine tkT 5 ?oi206 (?v206) ?hi206 ?hy206 ?_
  case hi206 => (simp only [gA, gS, gZ]; try rfl)
  case hy206 => (refine Or.inl ⟨by rfl, ?_⟩; intro wq hSw; (try dsimp only at hSw); go_simp; (try with_reducible rfl))
  (try simp only [Act.put, pA, pZ, pS])
  refine tkT 6 ?oi207 (?v207) ?hi207 ?hy207 ?_
  case hi207 => (simp only [gA, gS, gZ]; try rfl)
  case hy207 => (refine Or.inl ⟨by rfl, ?_⟩; intro wq hSw; (try dsimp only at hSw); go_simp; (try with_reducible rfl))
  (try simp only [Act.put, pA, pZ, pS])
  refine tkT 7 ?oi208 (?v208) ?hi208 ?hy208 ?_
  case hi208 => (simp only [gA, gS, gZ]; try rfl)
  case hy208 => (refine Or.inl ⟨by rfl, ?_⟩; intro wq hSw; (try dsimp only at hSw); go_simp; (try with_reducible rfl))
  (try simp only [Act.put, pA, pZ, pS])
  refine tkT 8 ?oi209 (?v209) ?hi209 ?hy209 ?_
  case hi209 => (simp only [gA, gS, gZ]; try rfl)
  case hy209 => (refine Or.inl ⟨by rfl, ?_⟩; intro wq hSw; (try dsimp only at hSw); go_simp; (try with_reducible rfl))
  (try simp only [Act.put, pA, pZ, pS])
  refine wpAnyT_ready (rs := [9]) (by kernel_rfl) (by simp) ?_
  refine AllReadyT.last (o := ?oi210) ?hi210 ?ti210
  case hi210 => (simp only [gA, gS, gZ]; try rfl)
  case ti210 =>
   intro KQ hKQ
   go_simp
   go_at_call 48
   refine Calls.mono (HIH.out _ (ex_)) ?_
   rintro e w2 ⟨rfl, k', hU, HI, HWk⟩
   refine hKQ.out _ _ ?_
   clear hKQ KQ hHeld
   (try simp only [Act.put, pA, pZ, pS])
   refine wpAnyT_done (by kernel_rfl) ?_ _
   have hkm := List.mem_of_getElem? HKK.out
   have hU := Upd.pre (HG.out.kid hkm) (foot_of_kid HND.out hkm) (hE1.tr (Ext.dr (Ext.refl' _))) hU
   have UT0 := Upd.kid HG.out HND.out HKS.out hU
   obtain ⟨T1, e_r, e_vp, e_vk, e_ps, e_ks, UT⟩ : ∃ T1 : MT, T1.r = t.r ∧ T1.vp = t.vp ∧ T1.vk = t.vk ∧ T1.ps = t.ps ∧ T1.ks = t.ks.take i ++ k' :: t.ks.drop (i + 1) ∧ Upd base (d + 1) w w2 t T1 := ⟨MT.nd t.r t.vp t.vk t.ps (t.ks.take i ++ k' :: t.ks.drop (i + 1)), rfl, rfl, rfl, rfl, rfl, UT0⟩
   have htb2 := UT.tur.cell HTBW.out HTF.out
   have hnode := UT.good.1
   have hop := hnode.ok
   have hnp := hnode.hp
   have hn1 : T1.ks.length = n := by have := HI1.out; rw [e_ks, ← HN.out]; simp; omega
   rw [e_vk, HVK.out, HN.out, hn1] at hop
   rw [e_r, e_vp, e_vk, HVK.out, HN.out] at hnp
   have hkk' : T1.ks[i]? = some k' := by
    have := HI1.out
    rw [e_ks, List.getElem?_append_right (by simp; omega), List.length_take, Nat.min_eq_left (by omega), Nat.sub_self]
    rfl
   have hkn := hU.good.node
   obtain ⟨Ak, ck, hkv, _, _, _⟩ := own_form2 hkn.op
   have hkp := hkn.hp
   rw [hkv] at hkp
   have hflt : flat (d + 1) T1 = pre (t.ps.take i) ((t.ks.take i).map (flat d)) ++ (flat d k' ++ post (t.ps.drop i) ((t.ks.drop (i + 1)).map (flat d))) := flat_at (P1 := t.ps.take i) (P2 := t.ps.drop i) (by rw [e_ps, List.take_append_drop]) e_ks (by have := HI1.out; simp; omega)
   have HIN : Hid (Ins p (flat (d + 1) t) (flat (d + 1) T1)) := Lib.hid (by
    rw [hflt]
    have h1 := HAR.out
    have h2 := HKNE.out
    rw [HFK.out] at h2 ⊢
    exact HI.around h1.1 fun q hq => gt_of (h1.2 q hq) (h2 q (List.mem_append_right _ (List.mem_append_right _ hq))))
   have hwk := wf_iff.1 HWk
   have HWk := Lib.hid hwk
   have UT := Lib.hid UT
   have HU := Lib.hid hU
   have HEP := Lib.hid e_ps
   have HEK := Lib.hid e_ks
   have HER := Lib.hid e_r
   have HEV := Lib.hid e_vp
   have HEVK := Lib.hid e_vk
   have HKK1 := Lib.hid hkk'
   have HNODE := Lib.hid hnode
   have HKN := Lib.hid hkn
   have HW2 : Hid (∀ x ∈ t.ks.take i ++ t.ks.drop (i + 1), Wf m d (m / 2) m x) := Lib.hid fun x hx => HKW.out x (by rcases List.mem_append.1 hx with hx | hx; exact List.mem_of_mem_take hx; exact List.mem_of_mem_drop hx)
   obtain ⟨nk, hnk⟩ : ∃ nk, k'.ps.length = nk := ⟨_, rfl⟩
   rw [hnk] at hkp hwk
   have HNKK := Lib.hid hnk
   clear t0 t1 ft0 ft1 rt q0 hkb z0 z1 hbs htb
   obtain ⟨hkb, q0⟩ := ownQ_at hop hkk'
   obtain ⟨rt, t0, t1', ft0, ft1⟩ := two_cells hnp
   obtain ⟨rk, k0, k1, _, _⟩ := two_cells hkp
   clear UT0 hU HI hop hnp hkk' hkp hnk hflt hkn hnode e_r e_vp e_vk e_ps e_ks hn1 HIH
   have hn64 := hwk.2.2
   clear hwk
   by_cases hgt : m < nk
   ·
    have hgtz : (m : Int) < (nk : Int) := by omega
    have hnm : nk = m + 1 := by omega
    obtain ⟨md, hmd⟩ : ∃ md, nk / 2 = md := ⟨_, rfl⟩
    obtain ⟨q, hq⟩ : ∃ q, k'.ps[md]? = some q := ⟨_, List.getElem?_eq_getElem (by have := HNKK.out; omega)⟩
    have HQ := Lib.hid hq
    have HSP : Hid (∀ W, Ext w2 W → Calls Tryz.prog 49 #[pt k'.r] W fun e w' => ∃ l r : MT, e = .returned (.tuple #[pv q, pt r.r]) ∧ SplitR base W w' k' l r md) := Lib.hid fun W hE =>
     split_any base k' md q W (Nat.le_trans HB.out (Nat.le_trans UT.out.tur.size hE.size)) (HKN.out.same fun b hb => hE.block b (HKN.out.old b hb).2.1) (by have := HNKK.out; omega) (by have := HNKK.out; omega) (by rw [HNKK.out]; exact hmd) HQ.out (by
      have h := HWk.out.1
      cases d with
      | zero => exact .inl h
      | succ d => exact .inr h.1) (List.Nodup.sublist (by cases d; exact List.Sublist.refl _; exact List.sublist_append_left _ _) HU.out.nodup)
    have HMD := Lib.hid hmd
    have HNM := Lib.hid hnm
    clear hq hmd hnm
    go_wp2
    go_quiet (fail)
    go_wp2_with fail
    refine Calls.mono (HSP.out _ (ex_)) ?_
    rintro e w3 ⟨l, r, rfl, hS⟩
    have H3 := Hp.ofSplit (t := T1) (hS := hS) (hbw := by have := UT.out.tur.size; have := HB.out; simp; omega) (hT := HNODE.out.same fun b hb => by rfl) (hK := HKN.out.same fun b hb => by rfl) (hnd := kid_apart UT.out.nodup HKK1.out)
    have hn1 : T1.ks.length = n := by have := HI1.out; rw [HEK.out, ← HN.out]; simp; omega
    rw [HER.out, HEV.out, HEVK.out, HVK.out, HN.out, HEP.out, hn1] at H3
    have H3 := Lib.hid H3
    have HSR := Lib.hid hS
    have hw3 : w2.heap.size ≤ w3.heap.size := by have := hS.tur.size; simpa using this
    clear hS HSP t0 t1' ft0 ft1 rt k0 k1 rk q0 hkb hn1
    go_wp2
    have H7 := H3.out.al (c := #[.slice q.A q.n q.c, .int .i64 q.id]) (t := TP) rfl
    obtain ⟨bu, hbu⟩ : ∃ bu, w3.heap.size = bu := ⟨_, rfl⟩
    rw [hbu] at H7 ⊢
    have H7 := Lib.hid H7
    obtain ⟨rt, t0, t1', ft0, ft1⟩ := H7.out.two 0 rfl
    obtain ⟨rl, l0, l1, fl0, fl1⟩ := H7.out.two 1 rfl
    obtain ⟨rr, r0, r1, fr0, fr1⟩ := H7.out.two 2 rfl
    obtain ⟨ru, u0, u1, fu0, fu1⟩ := H7.out.two 3 rfl
    generalize w3.alloc (.cells #[.slice q.A q.n q.c, .int .i64 q.id] TP) = W7 at *
    refine wp_region_T 11 (S := (fun w' => w'.cell? ⟨t.r, 0, none⟩ = some t.vp ∧ w'.cell? ⟨bu, 0, none⟩ = some (.slice q.A q.n q.c) ∧ w'.cell? ⟨bu, 1, none⟩ = some (.int .i64 q.id))) (by kernel_rfl) (by simp [go_sem, ↓IntWalk.iteOmega, *]) (fun hHeld => ?_)
    refine tkT 0 ?oi401 (?v401) ?hi401 ?hy401 ?_
    case hi401 => (simp only [gA, gS, gZ]; try rfl)
    case hy401 => (refine Or.inl ⟨by rfl, ?_⟩; intro wq hSw; (try dsimp only at hSw); go_simp; (try with_reducible rfl))
    (try simp only [Act.put, pA, pZ, pS])
    refine tkT 1 ?oi402 (?v402) ?hi402 ?hy402 ?_
    case hi402 => (simp only [gA, gS, gZ]; try rfl)
    case hy402 => (refine Or.inl ⟨by rfl, ?_⟩; intro wq hSw; (try dsimp only at hSw); go_simp; (try with_reducible rfl))
    (try simp only [Act.put, pA, pZ, pS])
    refine tkT 2 ?oi403 (?v403) ?hi403 ?hy403 ?_
    case hi403 => (simp only [gA, gS, gZ]; try rfl)
    case hy403 => (refine Or.inl ⟨by rfl, ?_⟩; intro wq hSw; (try dsimp only at hSw); go_simp; (try with_reducible rfl))
    (try simp only [Act.put, pA, pZ, pS])
    refine tkT 3 ?oi404 (?v404) ?hi404 ?hy404 ?_
    case hi404 => (simp only [gA, gS, gZ]; try rfl)
    case hy404 => (refine Or.inl ⟨by rfl, ?_⟩; intro wq hSw; (try dsimp only at hSw); go_simp; (try with_reducible rfl))
    (try simp only [Act.put, pA, pZ, pS])
    refine tkT 4 ?oi405 (?v405) ?hi405 ?hy405 ?_
    case hi405 => (simp only [gA, gS, gZ]; try rfl)
    case hy405 => (refine Or.inl ⟨by rfl, ?_⟩; intro wq hSw; (try dsimp only at hSw); go_simp; (try with_reducible rfl))
    (try simp only [Act.put, pA, pZ, pS])
    refine tkT 5 ?oi406 (?v406) ?hi406 ?hy406 ?_
    case hi406 => (simp only [gA, gS, gZ]; try rfl)
    case hy406 => (refine Or.inl ⟨by rfl, ?_⟩; intro wq hSw; (try dsimp only at hSw); go_simp; (try with_reducible rfl))
    (try simp only [Act.put, pA, pZ, pS])
    refine tkT 6 ?oi407 (?v407) ?hi407 ?hy407 ?_
    case hi407 => (simp only [gA, gS, gZ]; try rfl)
    case hy407 => (refine Or.inl ⟨by rfl, ?_⟩; intro wq hSw; (try dsimp only at hSw); go_simp; (try with_reducible rfl))
    (try simp only [Act.put, pA, pZ, pS])
    refine wpAnyT_ready (rs := [7]) (by kernel_rfl) (by simp) ?_
    refine AllReadyT.cons (o := ?oi408) ?hi408 ?ti408 AllReadyT.nil
    case hi408 => (simp only [gA, gS, gZ]; try rfl)
    case ti408 =>
     intro KQ hKQ
     go_simp
     refine hKQ.out _ _ (by simp [go_sem, ↓IntWalk.iteOmega, *]) (fun hHeld2 => ?_)
     clear hHeld hKQ KQ; have hHeld := hHeld2; clear hHeld2
     (try simp only [Act.put, pA, pZ, pS])
     refine wpAnyT_ready (rs := [8]) (by kernel_rfl) (by simp) ?_
     refine AllReadyT.cons (o := ?oi409) ?hi409 ?ti409 AllReadyT.nil
     case hi409 => (simp only [gA, gS, gZ]; try rfl)
     case ti409 =>
      intro KQ hKQ
      go_simp
      go_at_call 87
      refine Calls.mono (insP_any base t.ps.length i W7.heap.size 1 t.vp (mpl t.ps) (mp2 q) _ (H7.out.ext (ex_)).bs ((H7.out.ext (ex_)).own 0 rfl) HI0.out (by have := HLOHI.out; omega) (own_far (H7.out.own 0 rfl)) (al_new (by simp)) rfl (by intro u hu; simp [mp2] at hu; rcases hu with rfl | rfl <;> rfl) (oneCell_mpl _)) ?_
      rintro e w8 ⟨v8, rfl, ho8, hg8, hn8⟩
      obtain ⟨A8, k8, rfl, _, _, _⟩ := own_form2 ho8
      have H8 := Lib.hid ((H7.out.ext (ex_)).grow 0 rfl hg8 ho8 hn8)
      clear ho8 hg8 hn8
      clear rt t0 t1' ft0 ft1 rl l0 l1 fl0 fl1 rr r0 r1 fr0 fr1 ru u0 u1 fu0 fu1
      obtain ⟨rt, t0, t1', ft0, ft1⟩ := H8.out.two 0 rfl
      obtain ⟨rl, l0, l1, fl0, fl1⟩ := H8.out.two 1 rfl
      obtain ⟨rr, r0, r1, fr0, fr1⟩ := H8.out.two 2 rfl
      obtain ⟨ru, u0, u1, fu0, fu1⟩ := H8.out.two 3 rfl
      refine hKQ.out _ _ (by simp [go_sem, ↓IntWalk.iteOmega, *]) (fun hHeld2 => ?_)
      clear hHeld hKQ KQ; have hHeld := hHeld2; clear hHeld2
      (try simp only [Act.put, pA, pZ, pS])
      refine tkT 9 ?oi410 (?v410) ?hi410 ?hy410 ?_
      case hi410 => (simp only [gA, gS, gZ]; try rfl)
      case hy410 => (refine Or.inl ⟨by rfl, ?_⟩; intro wq hSw; (try dsimp only at hSw); go_simp; (try with_reducible rfl))
      (try simp only [Act.put, pA, pZ, pS])
      refine tkT 10 ?oi411 (?v411) ?hi411 ?hy411 ?_
      case hi411 => (simp only [gA, gS, gZ]; try rfl)
      case hy411 => (refine Or.inl ⟨by rfl, ?_⟩; intro wq hSw; (try dsimp only at hSw); go_simp; (try with_reducible rfl))
      (try simp only [Act.put, pA, pZ, pS])
      refine wpAnyT_ready (rs := [11]) (by kernel_rfl) (by simp) ?_
      refine AllReadyT.last (o := ?oi412) ?hi412 ?ti412
      case hi412 => (simp only [gA, gS, gZ]; try rfl)
      case ti412 =>
       intro KQ hKQ
       go_simp
       refine hKQ.out _ _ ?_
       clear hKQ KQ hHeld
       (try simp only [Act.put, pA, pZ, pS])
       refine wpAnyT_done (by kernel_rfl) ?_ _
       have H9 := Lib.hid (H8.out.set 0 rfl 0 (.slice A8 (t.ps.length + 1) k8))
       clear rt t0 t1' ft0 ft1 rl l0 l1 fl0 fl1 rr r0 r1 fr0 fr1 ru u0 u1 fu0 fu1
       obtain ⟨rt, t0, t1', ft0, ft1⟩ := H9.out.two 0 rfl
       obtain ⟨rl, l0, l1, fl0, fl1⟩ := H9.out.two 1 rfl
       obtain ⟨rr, r0, r1, fr0, fr1⟩ := H9.out.two 2 rfl
       obtain ⟨ru, u0, u1, fu0, fu1⟩ := H9.out.two 3 rfl
       generalize w8.setCell ⟨t.r, 0, none⟩ (.slice A8 (t.ps.length + 1) k8) = W9 at *
       have HIQ := insQ_any base n (i + 1) W9.heap.size 1 (.slice (some ⟨kb, 0, none⟩) n c) (ptl (T1.ks.map MT.r)) [pt r.r]
       rw [show (((i + 1 : Nat) : Int)) = (i : Int) + 1 by omega] at HIQ
       have HIQ := Lib.hid HIQ
       have hin1 : i + 1 ≤ n := by omega
       go_wp2_with fail
       refine Calls.mono (HIQ.out _ (H9.out.ext (ex_)).bs ((H9.out.ext (ex_)).own 1 rfl) hin1 (by omega) (own_far (H9.out.own 1 rfl)) (al_new (by simp)) rfl (by intro u hu; simp at hu; subst hu; rfl) (oneCell_ptl _)) ?_
       rintro e w10 ⟨v10, rfl, ho10, hg10, hn10⟩
       obtain ⟨A10, k10, rfl, _, _, _⟩ := own_form2 ho10
       have H10 := Lib.hid ((H9.out.ext (ex_)).grow 1 rfl hg10 ho10 hn10)
       clear ho10 hg10 hn10 HIQ
       clear rt t0 t1' ft0 ft1 rl l0 l1 fl0 fl1 rr r0 r1 fr0 fr1 ru u0 u1 fu0 fu1
       obtain ⟨rt, t0, t1', ft0, ft1⟩ := H10.out.two 0 rfl
       obtain ⟨rl, l0, l1, fl0, fl1⟩ := H10.out.two 1 rfl
       obtain ⟨rr, r0, r1, fr0, fr1⟩ := H10.out.two 2 rfl
       obtain ⟨ru, u0, u1, fu0, fu1⟩ := H10.out.two 3 rfl
       go_wp2
       have H11 := H10.out.set 0 rfl 1 (.slice A10 (n + 1) k10)
       refine bodyPost_end (v := .tuple #[]) ?_ rfl ?_
       ·
        simp [results, Tryz.results48]
       have hn1 : T1.ks.length = n := by have := HI1.out; rw [HEK.out, ← HN.out]; simp; omega
       have hT := three_fin (S := T1.own ++ k'.own) (r1 := t.r) (r2 := l.r) (r3 := r.r) (p1 := .slice A8 (t.ps.length + 1) k8) (k1 := .slice A10 (n + 1) k10) (p2 := l.vp) (k2 := l.vk) (p3 := r.vp) (k3 := r.vk) (P1 := t.ps.take i ++ q :: t.ps.drop i) (K1 := T1.ks.take i ++ l :: r :: T1.ks.drop (i + 1)) (P2 := l.ps) (K2 := l.ks) (P3 := r.ps) (K3 := r.ks)
        (H11.sub (by repeat (first | exact List.Sublist.slnil | exact List.Sublist.refl _ | exact List.nil_sublist _ | apply List.Sublist.cons_cons | apply List.Sublist.cons)) (List.Sublist.refl _)) (by rw [mpl_take, mpl_drop, ← mpl_one, ← mpl_append, ← mpl_append]; rfl) (by rw [Nat.mul_one]; exact ptl_ins HKK1.out HSR.out.lr) rfl rfl rfl rfl (by have := HI0.out; simp; omega) (by have := HI1.out; have := HN.out; simp; omega) rfl rfl rfl rfl
       rw [show MT.nd l.r l.vp l.vk l.ps l.ks = l by cases l; rfl, show MT.nd r.r r.vp r.vk r.ps r.ks = r by cases r; rfl] at hT
       have hM := Upd.mid (w := w2.drewN nq) (t := T1) (t' := MT.nd t.r (.slice A8 (t.ps.length + 1) k8) (.slice A10 (n + 1) k10) (t.ps.take i ++ q :: t.ps.drop i) (T1.ks.take i ++ l :: r :: T1.ks.drop (i + 1))) (K1 := T1.ks.take i) (X := [k']) (X' := [l, r]) (K2 := T1.ks.drop (i + 1)) (UT.out.good.ext (ex_)) UT.out.nodup (one_at HKK1.out) rfl HER.out.symm (by simp [HSR.out.lks, HSR.out.rks]) hT.okt (by intro x hx; simp at hx; rcases hx with rfl | rfl; exact hT.oka; exact hT.okb) (by simpa using hT.nodup) (by intro x hx; simpa using hT.new x (by simpa using hx)) (by simpa using hT.tur)
       have hmd := HMD.out
       have hnm := HNM.out
       have hnkk := HNKK.out
       have hlohi := HLOHI.out
       have hi1 := HI1.out
       have hfl : flat (d + 1) (MT.nd t.r (.slice A8 (t.ps.length + 1) k8) (.slice A10 (n + 1) k10) (t.ps.take i ++ q :: t.ps.drop i) (T1.ks.take i ++ l :: r :: T1.ks.drop (i + 1))) = flat (d + 1) T1 := by
        rw [flat_at2 (P1 := t.ps.take i) (P2 := t.ps.drop i) (K1 := T1.ks.take i) (a := l) (b := r) (q := q) (K2 := T1.ks.drop (i + 1)) rfl rfl (by simp; omega),
         flat_at (t := T1) (P1 := t.ps.take i) (P2 := t.ps.drop i) (K1 := T1.ks.take i) (k := k') (K2 := T1.ks.drop (i + 1)) (by rw [HEP.out, List.take_append_drop]) (one_at HKK1.out) (by simp; omega), HSR.out.flat HQ.out HWk.out.1.len]
       have hN2 := HN.out
       have hlr := HSR.out.kids HWk.out.1 (by omega)
       refine ⟨rfl, _, Upd.trans UT.out (Upd.pre UT.out.good UT.out.nodup (ex_) hM), by rw [hfl]; exact HIN.out, ?_, ?_, ?_, fun x hx => ?_⟩
       ·
        show (T1.ks.take i ++ l :: r :: T1.ks.drop (i + 1)).length = (t.ps.take i ++ q :: t.ps.drop i).length + 1
        simp; omega
       ·
        show lo ≤ (t.ps.take i ++ q :: t.ps.drop i).length
        simp; omega
       ·
        show (t.ps.take i ++ q :: t.ps.drop i).length ≤ m + 1
        simp; omega
       ·
        have hx : x ∈ T1.ks.take i ++ l :: r :: T1.ks.drop (i + 1) := hx
        have e1 : T1.ks.take i = t.ks.take i := by rw [HEK.out, List.take_left' (by simp; omega)]
        have e2 : T1.ks.drop (i + 1) = t.ks.drop (i + 1) := by
         rw [HEK.out, show t.ks.take i ++ k' :: t.ks.drop (i + 1) = (t.ks.take i ++ [k']) ++ t.ks.drop (i + 1) by simp, List.drop_left' (by simp; omega)]
        rw [e1, e2] at hx
        rcases List.mem_append.1 hx with hx | hx
        ·
         exact HW2.out x (List.mem_append_left _ hx)
        ·
         rcases List.mem_cons.1 hx with rfl | hx
         ·
          exact wf_iff.2 ⟨hlr.1, by rw [HSR.out.lps]; simp; omega, by rw [HSR.out.lps]; simp; omega⟩
         ·
          rcases List.mem_cons.1 hx with rfl | hx
          ·
           exact wf_iff.2 ⟨hlr.2, by rw [HSR.out.rps]; simp; omega, by rw [HSR.out.rps]; simp; omega⟩
          ·
           exact HW2.out x (List.mem_append_right _ hx)
   ·
    have hgtz : ¬ ((m : Int) < (nk : Int)) := by omega
    go_wp2
    go_quiet (fail)
    go_wp2
    refine bodyPost_end (v := .tuple #[]) ?_ rfl ?_
    ·
     simp [results, Tryz.results48]
    refine ⟨rfl, T1, Upd.trans UT.out (Upd.refl UT.out.good UT.out.nodup (ex_)), HIN.out, ?_⟩
    obtain ⟨h1, h2, h3⟩ := HLOHI.out
    refine ⟨by have := HI1.out; rw [HEK.out, HEP.out]; simp; omega, by rw [HEP.out]; omega, by rw [HEP.out]; omega, fun x hx => ?_⟩
    rw [HEK.out] at hx
    rcases List.mem_append.1 hx with hx | hx
    ·
     exact HW2.out x (List.mem_append_left _ hx)
    ·
     rcases List.mem_cons.1 hx with rfl | hx
     ·
      exact wf_iff.2 ⟨HWk.out.1, HWk.out.2.1, by rw [HNKK.out]; omega⟩
     ·
      exact HW2.out x (List.mem_append_right _ hx)

end Go.Proofs.YtdiaecgpjgdkdaaGreat

namespace Go.Proofs.YtdiaecgpjgdkdaaGreat
open Go.RowKit

theorem foundB_true {l : List MP} {i : Nat} {p : Kp} (h : foundB l i p = true) : ∃ z, l[i]? = some z ∧ z.kp = p := by
 unfold foundB at h
 split at h
 ·
  rename_i z hz
  exact ⟨z, hz, of_decide_eq_true h⟩
 ·
  cases h
theorem foundB_false {l : List MP} {i : Nat} {p : Kp} (h : foundB l i p = false) {z : MP} (hz : l[i]? = some z) : z.kp ≠ p := by
 unfold foundB at h
 rw [hz] at h
 exact of_decide_eq_false h
theorem post_head {P : List MP} {K : List (List MP)} {p : Kp} (hs : SrtB (post P K)) (h : ∀ x ∈ post P K, ¬ ltP x.kp p) (h0 : ∀ z, P[0]? = some z → z.kp ≠ p) : ∀ x ∈ post P K, x.kp ≠ p := by
 intro x hx e
 cases P with
 | nil => simp [post] at hx
 | cons z P =>
  have hz := h0 z rfl
  have hh : ∃ R, post (z :: P) K = z :: R := by cases K with | nil => exact ⟨P, by simp [post]⟩ | cons k K => exact ⟨k ++ post P K, rfl⟩
  obtain ⟨R, hR⟩ := hh
  rw [hR] at hs hx h
  rcases List.mem_cons.1 hx with rfl | hx
  ·
   exact hz e
  ·
   have h1 := (List.pairwise_cons.1 hs).1 x hx
   rw [e] at h1
   exact h z (by simp) h1

end Go.Proofs.YtdiaecgpjgdkdaaGreat

namespace Go.Proofs.YtdiaecgpjgdkdaaGreat
open Go.RowKit

theorem three_cells {W : World} {b : Nat} {x y z : Value} {t : TypeId} (h : W.heap[b]? = some (.cells #[x, y, z] t (0, 0))) : b < W.heap.size ∧ W.cell? ⟨b, 0, none⟩ = some x ∧ W.cell? ⟨b, 1, none⟩ = some y ∧ W.cell? ⟨b, 2, none⟩ = some z ∧ W.frozen? ⟨b, 0, none⟩ = false ∧ W.frozen? ⟨b, 1, none⟩ = false ∧ W.frozen? ⟨b, 2, none⟩ = false := by
 refine ⟨(Array.getElem?_eq_some_iff.1 h).1, ?_, ?_, ?_, ?_, ?_, ?_⟩ <;> simp [World.cell?, World.frozen?, h]
theorem in_kid {d i : Nat} {t k : MT} {p : Kp} (hl : t.ks.length = t.ps.length + 1) (hk : t.ks[i]? = some k) (hs : SrtB (flat (d + 1) t)) (h1 : ∀ q ∈ t.ps.take i, ltP q.kp p) (h2 : ∀ q ∈ t.ps.drop i, ¬ ltP q.kp p) (hf : foundB t.ps i p = false) :
  (∃ q ∈ flat (d + 1) t, q.kp = p) ↔ ∃ q ∈ flat d k, q.kp = p := by
 constructor
 ·
  rintro ⟨q, hq, hqp⟩
  obtain ⟨h3, h4⟩ := around_kid hl hk hs h1 h2
  rw [flat_kid hl hk] at hq hs
  rcases List.mem_append.1 hq with h | h
  ·
   have := h3 q h; rw [hqp] at this; exact absurd this (ltP_irr _)
  ·
   rcases List.mem_append.1 h with h | h
   ·
    exact ⟨q, h, hqp⟩
   ·
    exact absurd hqp (post_head (List.pairwise_append.1 (List.pairwise_append.1 hs).2.1).2.1 h4 (fun x hx => foundB_false hf (by simpa using hx)) q h)
 ·
  rintro ⟨q, hq, hqp⟩
  exact ⟨q, (kid_sub hl hk).subset hq, hqp⟩
theorem in_leaf {i : Nat} {l : List MP} {p : Kp} (hs : SrtB l) (h1 : ∀ q ∈ l.take i, ltP q.kp p) (h2 : ∀ q ∈ l.drop i, ¬ ltP q.kp p) (hf : foundB l i p = false) : ¬ ∃ q ∈ l, q.kp = p := by
 rintro ⟨q, hq, hqp⟩
 rw [← List.take_append_drop i l] at hq hs
 rcases List.mem_append.1 hq with h | h
 ·
  have := h1 q h; rw [hqp] at this; exact ltP_irr _ this
 ·
  have e : l.drop i = post (l.drop i) [] := by cases l.drop i <;> simp [post]
  rw [e] at h h2 hs
  exact post_head (List.pairwise_append.1 hs).2.1 h2 (fun x hx => foundB_false hf (by simpa using hx)) q h hqp
set_option maxRecDepth 100000 in
set_option maxHeartbeats 8000000 in
theorem has_none (tb : Nat) (x y : Value) (p : MP) (w : World) (htb : w.heap[tb]? = some (.cells #[.pointer none, x, y] TT (0, 0))) : Calls Tryz.prog 47 #[pt tb, pv p] w fun e w' => e = .returned (.bool false) ∧ Ext w w' := by
 obtain ⟨rb, c0, _, _, _, _, _⟩ := three_cells htb
 go_enter Tryz.func47, Tryz.ntmps47
 go_wp2
 go_step3
 go_wp2
 go_step3
 go_wp2
 go_loopg [5] 0 (fun g s wr => s = .pointer none ∧ Ext w wr)
 case atStart => exact ⟨rfl, ex_⟩
 case round =>
  obtain ⟨rfl, hE⟩ := hrel
  go_wp2
  rw [Exit.noGoto_ret]
  go_ret
  exact ⟨rfl, ex_⟩
set_option maxRecDepth 100000 in
set_option maxHeartbeats 8000000 in
theorem has_any (base m tb d : Nat) (x y : Value) (t : MT) (p : MP) (w : World) (h2 : 2 ≤ m) (hm : m ≤ 64) (htb : w.heap[tb]? = some (.cells #[pt t.r, x, y] TT (0, 0))) (hG : GoodB base w d t) (hW : Wf m d 1 m t) (hs : SrtB (flat d t)) (hk : ∀ q ∈ flat d t, KOk base w q) (hp : KR w p) :
  Calls Tryz.prog 47 #[pt tb, pv p] w fun e w' => ∃ b : Bool, (b = true ↔ ∃ q ∈ flat d t, q.kp = p.kp) ∧ e = .returned (.bool b) ∧ Ext w w' := by
 obtain ⟨rb, c0, _, _, _, _, _⟩ := three_cells htb
 go_enter Tryz.func47, Tryz.ntmps47
 go_wp2
 go_step3
 go_wp2
 go_step3
 go_wp2
 have hE0 : Ext w (w.alloc (.cells #[.slice p.A p.n p.c, .int .i64 p.id] TP)) := (ex_)
 have hbs : w.heap.size < (w.alloc (.cells #[.slice p.A p.n p.c, .int .i64 p.id] TP)).heap.size := by simp
 have zz := two_cells (heap_alloc_new w (.cells #[.slice p.A p.n p.c, .int .i64 p.id] TP))
 generalize w.alloc (.cells #[.slice p.A p.n p.c, .int .i64 p.id] TP) = Wb at hE0 hbs zz ⊢
 obtain ⟨bx, hbx⟩ : ∃ bx, w.heap.size = bx := ⟨_, rfl⟩
 rw [hbx] at hbs zz ⊢
 obtain ⟨_, z0, z1, _, _⟩ := zz
 have HK : Hid (∀ q ∈ flat d t, KR Wb q) := Lib.hid fun q hq => (hk q hq).kr.ext hE0
 have HP : Hid (KR Wb p) := Lib.hid (hp.ext hE0)
 have HG0 := Lib.hid (hG.ext hE0)
 have HW0 := Lib.hid hW
 have HS0 := Lib.hid hs
 have HE0 := Lib.hid hE0
 clear hG hW hs hk hp htb hE0
 go_loopg [5] d (fun g s wr => ∃ (t' : MT) (lo' : Nat), s = pt t'.r ∧ Hid (GoodB base Wb g t') ∧ Hid (Wf m g lo' m t') ∧ Hid (SrtB (flat g t')) ∧ Hid (∀ q ∈ flat g t', KR Wb q) ∧ Hid ((∃ q ∈ flat g t', q.kp = p.kp) ↔ ∃ q ∈ flat d t, q.kp = p.kp) ∧ Ext Wb wr)
 case atStart => exact ⟨t, 1, rfl, HG0, HW0, HS0, HK, Lib.hid Iff.rfl, Ext.refl' _⟩
 case round =>
  obtain ⟨t', lo', rfl, HG, HW, HS, HKR, HF, hE⟩ := hrel
  have HE := Lib.hid hE
  have hnode := (HG.out.ext hE).node
  have hwf := wf_iff.1 HW.out
  have HFI : Hid (∀ W, Ext wr W → Calls Tryz.prog 86 #[pt t'.r, pv p] W fun e w' => ∃ i : Nat, i ≤ t'.ps.length ∧ (∀ q ∈ t'.ps.take i, ltP q.kp p.kp) ∧ (∀ q ∈ t'.ps.drop i, ¬ ltP q.kp p.kp) ∧ e = .returned (.tuple #[.int .i64 i, .bool (foundB t'.ps i p.kp)]) ∧ Ext W w') := Lib.hid fun W hE2 => find_anyB base t' p W ((HG.out.ext (hE.tr hE2)).node) (by omega) (List.Pairwise.sublist ps_sub HS.out) (fun q hq => (HKR.out q (ps_sub.subset hq)).ext (hE.tr hE2)) (HP.out.ext (hE.tr hE2))
  have z0 := hE.cell' z0
  have z1 := hE.cell' z1
  have hp := hnode.hp
  clear hwf
  go_wp2_with fail
  refine Calls.mono (HFI.out _ (ex_)) ?_
  rintro e w1 ⟨i, hi, hlt, hge, rfl, hb1⟩
  have hb1' : Ext wr w1 := hb1
  have hp1 := hb1'.at hp
  cases hfb : foundB t'.ps i p.kp with
  | true =>
   obtain ⟨z, hz, hzp⟩ := foundB_true hfb
   have HT : Hid ((true = true) ↔ ∃ q ∈ flat d t, q.kp = p.kp) := Lib.hid ⟨fun _ => HF.out.1 ⟨z, ps_sub.subset (List.mem_of_getElem? hz), hzp⟩, fun _ => rfl⟩
   clear hfb hz hlt hge hnode hp hp1
   go_wp2
   rw [Exit.noGoto_ret]
   go_ret
   exact ⟨true, by simpa using HT.out, rfl, HE0.out.tr (HE.out.tr (ex_))⟩
  | false =>
   cases gk with
   | zero =>
    have hks : t'.ks = [] := HW.out.1
    obtain ⟨A2, da, hak, _, _, _⟩ := own_form2 hnode.ok
    rw [hak, hks] at hp1
    obtain ⟨rt, t0, t1, _, _⟩ := two_cells hp1
    have HT : Hid ((false = true) ↔ ∃ q ∈ flat d t, q.kp = p.kp) := Lib.hid ⟨fun h => (by cases h), fun h => absurd (HF.out.2 h) (in_leaf (p := p.kp) HS.out hlt hge hfb)⟩
    clear hfb hlt hge hnode hp hp1 hak hks
    go_wp2
    rw [Exit.noGoto_ret]
    go_ret
    exact ⟨false, by simpa using HT.out, rfl, HE0.out.tr (HE.out.tr (ex_))⟩
   | succ g =>
    obtain ⟨e1, e2, e3, e4⟩ := HW.out
    obtain ⟨kb, c, hvk, hc, _⟩ := own_ne0 hnode.ok (by omega)
    obtain ⟨n, hn⟩ : ∃ n, t'.ks.length = n := ⟨_, rfl⟩
    obtain ⟨k, hk⟩ : ∃ k, t'.ks[i]? = some k := ⟨_, List.getElem?_eq_getElem (by omega)⟩
    have hkm := List.mem_of_getElem? hk
    have HF2 : Hid ((∃ q ∈ flat g k, q.kp = p.kp) ↔ ∃ q ∈ flat d t, q.kp = p.kp) := Lib.hid ((in_kid (p := p.kp) e1 hk HS.out hlt hge hfb).symm.trans HF.out)
    have HGk : Hid (GoodB base Wb g k) := Lib.hid (HG.out.2 k hkm)
    have HWk : Hid (Wf m g (m / 2) m k) := Lib.hid (e4 k hkm)
    have HSk : Hid (SrtB (flat g k)) := Lib.hid (List.Pairwise.sublist (kid_sub e1 hk) HS.out)
    have HKk : Hid (∀ q ∈ flat g k, KR Wb q) := Lib.hid fun q hq => HKR.out q ((kid_sub e1 hk).subset hq)
    have hop := hnode.ok
    rw [hvk, hn] at hop
    obtain ⟨hpb, k0⟩ := ownQ_at hop hk
    have k0 := hb1'.cell' k0
    have hpb := Nat.lt_of_lt_of_le hpb hb1'.size
    rw [hvk, hn] at hp1
    obtain ⟨rt, t0, t1, _, _⟩ := two_cells hp1
    have hin : (i : Int) < (n : Int) := by omega
    have hn0 : ¬ (n = 0) := by omega
    clear hfb hlt hge hnode hp hp1 hop hvk hn hk hc e1 e2 e3 e4 hkm hi
    go_wp2
    go_roundg g
    case rel => exact ⟨k, m / 2, rfl, HGk, HWk, HSk, HKk, HF2, HE.out.tr (ex_)⟩
    case measure => omega

end Go.Proofs.YtdiaecgpjgdkdaaGreat

namespace Go.Proofs.YtdiaecgpjgdkdaaGreat
open Go.RowKit

set_option maxRecDepth 100000 in
set_option maxHeartbeats 2000000 in
theorem cloneV_any (A : Option Addr) (n c : Nat) (xs : List Value) (w : World) (hR : Rd w 3 A n xs) (h1 : ∀ u ∈ xs, u.oneCell' = true) (hn : n ≤ 1048576) (hnil : A = none → n = 0 ∧ c = 0) :
  Calls Tryz.prog 35 #[.slice A n c] w fun e w' => ∃ v', e = .returned v' ∧ w'.ownsRow w.heap.size 66 3 v' n xs ∧ Ext w w' := by
 rcases A with _ | ad
 ·
  obtain ⟨rfl, rfl⟩ := hnil rfl
  have hx : xs = [] := List.eq_nil_of_length_eq_zero (by simpa using hR.1)
  subst hx
  have heq := Lib.run_eql_slice_nil (P := Tryz.prog) w 33 66 none 0 0 0 0 Tryz.underlying33
  go_enter Tryz.func35, Tryz.ntmps35
  go_wp2
  go_ret
  exact ⟨_, rfl, World.ownsRow_nil _ _ _ _, ex_⟩
 ·
  have heq := Lib.run_eql_slice_nil (P := Tryz.prog) w 33 66 (some ad) n c 0 0 Tryz.underlying33
  go_enter Tryz.func35, Tryz.ntmps35
  go_wp2_with (at_builtin; refine wpList_app _ rfl (.tmp 5) (.tmp 6) rfl elVal3 w (ex_) _ 0 [] rfl (own_lit0cB w _ (Nat.le_refl _) _ _) (some ad) n c xs rfl (hR.ext (ex_)) h1 (by unfold maxLen; omega) (by omega) ?_; intro v1 x1 ho1 _)
  go_ret
  exact ⟨_, rfl, by simpa using ho1, ex_⟩
theorem KOk.of_own {base : Nat} {w : World} {A : Option Addr} {n c : Nat} {K : List Va} {id : Int} {b0 : Nat} (h : w.ownsRow b0 TVA 3 (.slice A n c) n (vcl K)) (hn : n = K.length) (hK : K.length ≤ 1048576) : KOk base w ⟨A, n, c, K, id⟩ := by
 have hnc : n ≤ c := by
  rcases own_forms h with ⟨h1, rfl, h3⟩ | ⟨g, cap, cur, h1, hB, hnc, htk⟩
  ·
   omega
  ·
   simp only [Value.slice.injEq] at h1
   obtain ⟨_, _, rfl⟩ := h1
   exact hnc
 refine ⟨hn, ⟨hK, hnc⟩, fun h0 => ?_⟩
 rcases own_forms h with ⟨h1, rfl, h3⟩ | ⟨g, cap, cur, h1, hB, hnc, htk⟩
 ·
  have h0 : 0 < K.length := h0
  omega
 ·
  simp only [Value.slice.injEq] at h1
  obtain ⟨rfl, _, rfl⟩ := h1
  refine ⟨g, 0, rfl, hB.lt, .inr ⟨_, _, hB.hp⟩, fun j u hu => ?_⟩
  have hu : (vcl K)[j]? = some u := hu
  rw [hB.cell, Nat.zero_add]
  rw [← htk, List.getElem?_take] at hu
  split at hu
  ·
   exact hu
  ·
   cases hu
structure TreeIs (base : Nat) (w : World) (tb m : Nat) (l : List MP) (F : List Nat) : Prop where
 hb : base ≤ tb
 nF : tb ∉ F
 srt : SrtB l
 key : ∀ q ∈ l, KOk base w q
 len : l.length ≤ 1048576
 root : (l = [] ∧ F = [] ∧ w.heap[tb]? = some (.cells #[.pointer none, .int .i64 m, .int .i64 0] TT (0, 0))) ∨ ∃ d t, w.heap[tb]? = some (.cells #[pt t.r, .int .i64 m, .int .i64 l.length] TT (0, 0)) ∧ GoodB base w d t ∧ (foot d t).Nodup ∧ Wf m d 1 m t ∧ flat d t = l ∧ F = foot d t
theorem TreeIs.ext {base tb m : Nat} {w w' : World} {l : List MP} {F : List Nat} (h : TreeIs base w tb m l F) (e : Ext w w') : TreeIs base w' tb m l F :=
 ⟨h.hb, h.nF, h.srt, fun q hq => (h.key q hq).ext e, h.len, h.root.imp (fun ⟨h1, h2, h3⟩ => ⟨h1, h2, e.at h3⟩) fun ⟨d, t, h1, h2, h3⟩ => ⟨d, t, e.at h1, h2.ext e, h3⟩⟩
theorem TreeIs.old {base tb m : Nat} {w : World} {l : List MP} {F : List Nat} (h : TreeIs base w tb m l F) : ∀ b ∈ tb :: F, base ≤ b ∧ b < w.heap.size ∧ ∀ c ty f, w.heap[b]? = some (.cells c ty f) → TreeT ty := by
 intro b hb
 have htb : ∃ c, w.heap[tb]? = some (.cells c TT (0, 0)) := by
  rcases h.root with ⟨_, _, h1⟩ | ⟨d, t, h1, _⟩
  ·
   exact ⟨_, h1⟩
  ·
   exact ⟨_, h1⟩
 rcases List.mem_cons.1 hb with rfl | hb
 ·
  obtain ⟨c0, h1⟩ := htb
  exact ⟨h.hb, (Array.getElem?_eq_some_iff.1 h1).1, fun c ty f e => by rw [h1] at e; simp at e; exact .inr (.inr (.inr e.2.1.symm))⟩
 ·
  rcases h.root with ⟨_, rfl, _⟩ | ⟨d, t, _, h2, _, _, _, rfl⟩
  ·
   cases hb
  ·
   exact h2.old b hb
theorem Mut.start' {base tb m : Nat} {w w' : World} {l : List MP} {F : List Nat} (h : TreeIs base w tb m l F) (e : Ext w w') : Mut base (tb :: F) w w' :=
 (Mut.ofExt e).of_sub (by simp) fun b hb => ⟨(h.old b hb).1, (h.old b hb).2.2⟩
theorem mut_tb {base tb o : Nat} {S : List Nat} {w W : World} {u : Value} (h : Mut base S w W) (ht : tb ∈ S) : Mut base S w (W.setCell ⟨tb, o, none⟩ u) :=
 h.step (T := [tb]) rfl rfl rfl (by rw [set_size]; exact Nat.le_refl _) (fun b _ hb => set_other (by simpa using hb)) (fun b hb => by simp at hb; subst hb; exact .inl ht)

structure PutS (base tb m : Nat) (w W : World) (l : List MP) (F : List Nat) (p : MP) (d lo : Nat) (t : MT) : Prop where
 hb : base ≤ W.heap.size
 htb : W.heap[tb]? = some (.cells #[pt t.r, .int .i64 m, .int .i64 l.length] TT (0, 0))
 good : GoodB base W d t
 nd : (foot d t).Nodup
 tn : tb ∉ foot d t
 wf : Wf m d lo m t
 lo1 : lo = 1 ∨ d = 0
 srt : SrtB (flat d t)
 key : ∀ q ∈ flat d t, KOk base W q
 kp : KOk base W p
 ne : ∀ q ∈ flat d t, q.kp ≠ p.kp
 fl : flat d t = l
 mt : Mut base (tb :: F) w W
 new : ∀ x ∈ foot d t, x ∈ F ∨ w.heap.size ≤ x
 ll : l.length < 1048576
 hbt : base ≤ tb
theorem PutS.put {base tb m : Nat} {w W : World} {l : List MP} {F : List Nat} {p : MP} {d lo : Nat} {t : MT} (hm : 2 ≤ m) (hm2 : m ≤ 64) (h : PutS base tb m w W l F p d lo t) : ∀ W', Ext W W' → Calls Tryz.prog 48 #[pt tb, pt t.r, pv p] W' fun e w' => e = .returned (.tuple #[]) ∧ ∃ t', Upd base d W' w' t t' ∧ Ins p (flat d t) (flat d t') ∧ Wf m d lo (m + 1) t' := fun W' hE =>
 put_any base m tb hm hm2 d lo t p W' (Nat.le_trans h.hb hE.size) (hE.cell' (three_cells h.htb).2.2.1) h.tn (h.good.ext hE) h.nd h.wf h.srt (fun q hq => (h.key q hq).ext hE) (h.kp.ext hE) h.ne
theorem PutS.fin {base tb m : Nat} {w W w3 W' : World} {l : List MP} {F : List Nat} {p : MP} {d lo : Nat} {t t1 : MT} (h : PutS base tb m w W l F p d lo t) (hU : Upd base d W w3 t t1) (hI : Ins p (flat d t) (flat d t1)) (hW : Wf m d lo (m + 1) t1) (hle : t1.ps.length ≤ m)
  (hE : Ext (w3.setCell ⟨tb, 2, none⟩ (.int .i64 ((l.length : Int) + 1))) W') : TreeIs base W' tb m (flat d t1) (foot d t1) ∧ Mut base (tb :: F) w W' ∧ (∀ x ∈ foot d t1, x ∈ F ∨ w.heap.size ≤ x) := by
 have htl := (Array.getElem?_eq_some_iff.1 h.htb).1
 have hn : tb ∉ foot d t1 := fun e => (hU.new tb e).elim h.tn fun e => by omega
 have hl : (flat d t1).length = l.length + 1 := by rw [hI.length, h.fl]
 have hM : Mut base (tb :: F) w w3 := h.mt.trans hU.tur fun b hb => (h.new b hb).imp (fun e => List.mem_cons_of_mem _ e) id
 have hM2 : Mut base (tb :: F) w (w3.setCell ⟨tb, 2, none⟩ (.int .i64 ((l.length : Int) + 1))) := mut_tb hM (by simp)
 refine ⟨⟨h.hbt, hn, hI.sorted h.srt, fun q hq => ?_, by have := h.ll; omega, .inr ⟨d, t1, hE.at ?_, ?_, hU.nodup, ?_, rfl, rfl⟩⟩, hM2.step (T := []) hE.os hE.tape hE.output hE.size (fun b hb _ => hE.block b hb) (by simp), fun x hx => ?_⟩
 ·
  have hk : KOk base w3 q := by
   rcases hI.mem.1 hq with rfl | hq
   ·
    exact hU.tur.key h.kp
   ·
    exact hU.tur.key (h.key q hq)
  refine KOk.ext (Mut.key (mut_tb (S := [tb]) (o := 2) (u := .int .i64 ((l.length : Int) + 1)) (Mut.start (w := w3) (fun b hb _ => by simp at hb; subst hb; exact h.hbt) (fun b hb c ty f e => by
   simp at hb; subst hb
   rw [hU.tur.block h.htb h.tn] at e; simp at e; exact .inr (.inr (.inr e.2.1.symm)))) (by simp)) hk) hE
 ·
  rw [set_heap (hU.tur.block h.htb h.tn), hl, hU.r]
  rfl
 ·
  refine GoodB.ext (hU.good.same fun b hb => set_other (b := tb) fun e => hn (by rw [← e]; exact hb)) hE
 ·
  have h1 := wf_iff.1 hW
  refine wf_iff.2 ⟨h1.1, ?_, hle⟩
  rcases h.lo1 with e | e
  ·
   omega
  ·
   subst e
   have : (flat 0 t1).length = t1.ps.length := rfl
   omega
 ·
  rcases hU.new x hx with e | e
  ·
   exact h.new x e
  ·
   exact .inr (Nat.le_trans h.mt.size e)
theorem PutS.fin2 {base tb m rb b1 b2 md : Nat} {w W w3 w4 W' : World} {l : List MP} {F : List Nat} {p q : MP} {d lo : Nat} {t t1 x y : MT} (h : PutS base tb m w W l F p d lo t) (hU : Upd base d W w3 t t1) (hI : Ins p (flat d t) (flat d t1)) (hW : Wf m d lo (m + 1) t1) (hm : 2 ≤ m)
  (hS : SplitR base w3 w4 t1 x y md) (hq : t1.ps[md]? = some q) (hmd : t1.ps.length / 2 = md) (hgt : m < t1.ps.length)
  (h1 : w4.heap.size ≤ b1) (h2 : w4.heap.size ≤ b2) (h3 : w4.heap.size ≤ rb) (n1 : b1 ≠ b2) (n2 : b1 ≠ rb) (n3 : b2 ≠ rb)
  (e0 : W'.heap[tb]? = some (.cells #[pt rb, .int .i64 m, .int .i64 ((l.length : Int) + 1)] TT (0, 0))) (e1 : W'.heap[b1]? = some (.cells #[.slice q.A q.n q.c, .int .i64 q.id] TP (0, 0))) (e2 : W'.heap[b2]? = some (.cells #[pt x.r, pt y.r] TQ (0, 0))) (e3 : W'.heap[rb]? = some (.cells #[.slice (some ⟨b1, 0, none⟩) 1 1, .slice (some ⟨b2, 0, none⟩) 2 2] TN (0, 0)))
  (hM' : Mut base [tb] w4 W') : ∃ l' F', TreeIs base W' tb m l' F' ∧ Mut base (tb :: F) w W' ∧ (∀ x ∈ F', x ∈ F ∨ w.heap.size ≤ x) ∧ Ins p (flat d t) l' := by
 have htl := (Array.getElem?_eq_some_iff.1 h.htb).1
 have hn : tb ∉ foot d t1 := fun e => (hU.new tb e).elim h.tn fun e => by omega
 have hl : (flat d t1).length = l.length + 1 := by rw [hI.length, h.fl]
 have hwf := wf_iff.1 hW
 -- both halves as kids of a node that is the whole of t1
 have h34 := hS.tur.size
 have hxy := hS.kids hwf.1 (by omega)
 have hfl : flat d t1 = flat d x ++ q :: flat d y := hS.flat hq hwf.1.len
 have hold := hU.good.old
 have p1 := (foot_perm (d := d) [t1])
 have p2 := (foot_perm (d := d) [x, y])
 simp only [List.flatMap_cons, List.flatMap_nil, List.append_nil] at p1 p2
 rw [show x.ks ++ y.ks = t1.ks by rw [hS.lks, hS.rks, List.take_append_drop]] at p2
 have hnd1 := p1.nodup_iff.1 hU.nodup
 have hdis := (List.nodup_append.1 hnd1).2.2
 have hgk : ∀ b ∈ GK d t1.ks, base ≤ b ∧ b < w3.heap.size ∧ ∀ c ty f, w3.heap[b]? = some (.cells c ty f) → TreeT ty := fun b hb => hold b (p1.mem_iff.2 (List.mem_append_right _ hb))
 have hnd2 : (foot d x ++ foot d y).Nodup := p2.nodup_iff.2 (nodup_swap hnd1 hS.nodup hS.new fun b hb => (hgk b hb).2.1)
 have hmem2 : ∀ b ∈ foot d x ++ foot d y, b < w4.heap.size ∧ (b ∈ foot d t1 ∨ w3.heap.size ≤ b) := by
  intro b hb
  rcases List.mem_append.1 (p2.mem_iff.1 hb) with hb | hb
  ·
   refine ⟨?_, (hS.new b hb).imp (fun e => p1.mem_iff.2 (List.mem_append_left _ e)) id⟩
   rcases List.mem_append.1 hb with hb | hb
   ·
    exact (hS.lok.old b hb).2.1
   ·
    exact (hS.rok.old b hb).2.1
  ·
   exact ⟨Nat.lt_of_lt_of_le (hgk b hb).2.1 h34, .inl (p1.mem_iff.2 (List.mem_append_right _ hb))⟩
 have htn2 : tb ∉ foot d x ++ foot d y := fun e => by
  have htl3 := Nat.lt_of_lt_of_le htl hU.tur.size
  rcases (hmem2 tb e).2 with e | e
  ·
   exact hn e
  ·
   omega
 have hgx : ∀ z ∈ [x, y], GoodB base W' d z := by
  intro z hz
  have hzok : NodeOk base w4 z := by simp at hz; rcases hz with rfl | rfl; exact hS.lok; exact hS.rok
  have hzk : ∀ k ∈ z.ks, k ∈ t1.ks := by
   intro k hk
   simp at hz
   rcases hz with rfl | rfl
   ·
    rw [hS.lks] at hk; exact List.mem_of_mem_take hk
   ·
    rw [hS.rks] at hk; exact List.mem_of_mem_drop hk
  have hg4 : GoodB base w4 d z := by
   cases d with
   | zero => exact hzok
   | succ d => exact ⟨hzok, fun k hk => (hU.good.2 k (hzk k hk)).mut hS.tur fun b hb hs => hdis b hs b (List.mem_flatMap.2 ⟨k, hzk k hk, hb⟩) rfl⟩
  refine hg4.mut hM' fun b hb e => htn2 ?_
  simp at e; subst e
  simp at hz
  rcases hz with rfl | rfl
  ·
   exact List.mem_append_left _ hb
  ·
   exact List.mem_append_right _ hb
 have hbb : base ≤ w4.heap.size := Nat.le_trans h.hb (Nat.le_trans hU.tur.size h34)
 have hok : NodeOk base W' (.nd rb (.slice (some ⟨b1, 0, none⟩) 1 1) (.slice (some ⟨b2, 0, none⟩) 2 2) [q] [x, y]) := by
  refine ⟨Nat.le_trans hbb h3, e3, ?_, ?_⟩
  ·
   exact Blk.own (cur := mp2 q) ⟨Nat.le_trans hbb h1, e1, by unfold maxLen; omega, rfl⟩ (Nat.le_refl _)
  ·
   exact Blk.own (cur := [pt x.r, pt y.r]) ⟨Nat.le_trans hbb h2, e2, by unfold maxLen; omega, rfl⟩ (Nat.le_refl _)
 have hM3 : Mut base (tb :: F) w w3 := h.mt.trans hU.tur fun b hb => (h.new b hb).imp (fun e => List.mem_cons_of_mem _ e) id
 have hM4 : Mut base (tb :: F) w w4 := hM3.trans hS.tur fun b hb => by
  rcases hU.new b (own_sub b hb) with e | e
  ·
   exact (h.new b e).imp (fun e => List.mem_cons_of_mem _ e) id
  ·
   exact .inr (Nat.le_trans h.mt.size e)
 have hM5 : Mut base (tb :: F) w W' := hM4.trans hM' fun b hb => by simp at hb; subst hb; exact .inl (by simp)
 have hbig : w.heap.size ≤ w3.heap.size := hM3.size
 have hbig4 : w.heap.size ≤ w4.heap.size := hM4.size
 refine ⟨flat d t1, foot (d + 1) (.nd rb (.slice (some ⟨b1, 0, none⟩) 1 1) (.slice (some ⟨b2, 0, none⟩) 2 2) [q] [x, y]), ⟨h.hbt, ?_, hI.sorted h.srt, fun z hz => ?_, by have := h.ll; omega, .inr ⟨d + 1, .nd rb (.slice (some ⟨b1, 0, none⟩) 1 1) (.slice (some ⟨b2, 0, none⟩) 2 2) [q] [x, y], ?_, ⟨hok, hgx⟩, ?_, ?_, ?_, rfl⟩⟩, hM5, ?_, hI⟩
 ·
  intro hb
  rcases List.mem_append.1 hb with hb | hb
  ·
   have htl4 : tb < w4.heap.size := Nat.lt_of_lt_of_le htl (Nat.le_trans hU.tur.size h34)
   simp [MT.own, MT.r, MT.vp, MT.vk, ob, Value.ownBlock] at hb
   omega
  ·
   exact htn2 (by simpa [MT.ks] using hb)
 ·
  refine hM'.key (hS.tur.key ?_)
  rcases hI.mem.1 hz with rfl | hz
  ·
   exact hU.tur.key h.kp
  ·
   exact hU.tur.key (h.key z hz)
 ·
  rw [hl]; exact e0
 ·
  show ((MT.nd rb (.slice (some ⟨b1, 0, none⟩) 1 1) (.slice (some ⟨b2, 0, none⟩) 2 2) [q] [x, y]).own ++ [x, y].flatMap (foot d)).Nodup
  rw [List.nodup_append]
  refine ⟨?_, by simpa using hnd2, fun a ha b hb e => ?_⟩
  ·
   simp [MT.own, MT.r, MT.vp, MT.vk, ob, Value.ownBlock]; omega
  ·
   subst e
   have := (hmem2 a (by simpa using hb)).1
   simp [MT.own, MT.r, MT.vp, MT.vk, ob, Value.ownBlock] at ha
   omega
 ·
  refine ⟨rfl, Nat.le_refl _, by show 1 ≤ m; omega, fun k hk => ?_⟩
  have hk : k ∈ [x, y] := hk
  simp at hk
  rcases hk with rfl | rfl
  ·
   exact wf_iff.2 ⟨hxy.1, by rw [hS.lps]; simp; omega, by rw [hS.lps]; simp; omega⟩
  ·
   exact wf_iff.2 ⟨hxy.2, by rw [hS.rps]; simp; omega, by rw [hS.rps]; simp; omega⟩
 ·
  show inter [q] ([x, y].map (flat d)) = flat d t1
  rw [hfl]
  rfl
 ·
  intro z hz
  rcases List.mem_append.1 hz with hz | hz
  ·
   simp [MT.own, MT.r, MT.vp, MT.vk, ob, Value.ownBlock] at hz
   exact .inr (by omega)
  ·
   rcases (hmem2 z (by simpa [MT.ks] using hz)).2 with e | e
   ·
    rcases hU.new z e with e | e
    ·
     exact h.new z e
    ·
     exact .inr (Nat.le_trans h.mt.size e)
   ·
    exact .inr (Nat.le_trans hbig e)

end Go.Proofs.YtdiaecgpjgdkdaaGreat
