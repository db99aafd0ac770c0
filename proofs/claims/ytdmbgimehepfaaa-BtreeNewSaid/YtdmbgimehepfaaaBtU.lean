/- A tree turned at one place: what stays, what its pairs then are. -/
import Derived.Test.YtdmbgimehepfaaaBtL
set_option linter.unusedSimpArgs false
set_option linter.unusedVariables false
namespace Go.Proofs.Ytdmbgimehepfaaa
open Go.RowKit

/-- the blocks of grandkids -/
def GK : Nat → List MT → List Nat
  | 0, _ => []
  | d + 1, Q => Q.flatMap (foot d)
theorem foot_perm {d : Nat} : ∀ (X : List MT), (X.flatMap (foot d)).Perm (X.flatMap MT.own ++ GK d (X.flatMap MT.ks))
  | [] => by cases d <;> exact List.Perm.refl _
  | x :: X => by
    have ih := foot_perm (d := d) X
    have e : foot d x = x.own ++ GK d x.ks := by cases d <;> simp [foot, GK]
    have e2 : GK d ((x :: X).flatMap MT.ks) = GK d x.ks ++ GK d (X.flatMap MT.ks) := by cases d <;> simp [GK]
    rw [List.flatMap_cons, List.flatMap_cons, e, e2]
    rw [List.perm_iff_count] at ih ⊢
    intro z
    have := ih z
    simp only [List.count_append] at this ⊢
    omega
theorem foot_split {d : Nat} {t : MT} {K1 X K2 : List MT} (h : t.ks = K1 ++ (X ++ K2)) : (foot (d + 1) t).Perm ((t.own ++ X.flatMap MT.own) ++ (K1.flatMap (foot d) ++ (GK d (X.flatMap MT.ks) ++ K2.flatMap (foot d)))) := by
  have ih := foot_perm (d := d) X
  show (t.own ++ t.ks.flatMap (foot d)).Perm _
  rw [h]
  rw [List.perm_iff_count] at ih ⊢
  intro z
  have := ih z
  simp only [List.flatMap_append, List.count_append] at this ⊢
  omega
theorem nodup_swap {S S' R : List Nat} {N : Nat} (h : (S ++ R).Nodup) (h1 : S'.Nodup) (hn : ∀ b ∈ S', b ∈ S ∨ N ≤ b) (hl : ∀ b ∈ R, b < N) : (S' ++ R).Nodup := by
  rw [List.nodup_append] at h ⊢
  refine ⟨h1, h.2.1, fun a ha b hb e => ?_⟩
  subst e
  rcases hn a ha with h2 | h2
  · exact h.2.2 a h2 a hb rfl
  · have := hl a hb; omega
/-- a tree of depth d turned, its root in its place -/
structure Upd (base d : Nat) (w w' : World) (t t' : MT) : Prop where
  r : t'.r = t.r
  good : Good base w' d t'
  nodup : (foot d t').Nodup
  new : ∀ b ∈ foot d t', b ∈ foot d t ∨ w.heap.size ≤ b
  tur : Mut base (foot d t) w w'
theorem Good.kid {base : Nat} {w : World} {d : Nat} {t k : MT} (h : Good base w (d + 1) t) (hk : k ∈ t.ks) : Good base w d k := h.2 k hk
theorem Mut.of_sub {base : Nat} {S T : List Nat} {w w' : World} (h : Mut base S w w') (hs : ∀ b ∈ S, b ∈ T) (hT : ∀ b ∈ T, base ≤ b ∧ ∀ c ty f, w.heap[b]? = some (.cells c ty f) → TreeT ty) : Mut base T w w' :=
  h.wide hs (fun b hb _ => (hT b hb).1) (fun b hb => (hT b hb).2)
theorem Upd.refl {base d : Nat} {w w' : World} {t : MT} (h : Good base w d t) (hn : (foot d t).Nodup) (e : Ext w w') : Upd base d w w' t t :=
  ⟨rfl, h.ext e, hn, fun b hb => .inl hb, (Mut.ofExt e).of_sub (by simp) fun b hb => ⟨(h.old b hb).1, (h.old b hb).2.2⟩⟩
theorem Upd.trans {base d : Nat} {w w1 w2 : World} {t t1 t2 : MT} (h : Upd base d w w1 t t1) (k : Upd base d w1 w2 t1 t2) : Upd base d w w2 t t2 :=
  ⟨k.r.trans h.r, k.good, k.nodup, fun b hb => (k.new b hb).elim (h.new b) (fun e => .inr (Nat.le_trans h.tur.size e)), h.tur.trans k.tur h.new⟩
/-- some adjacent kids turned into others with the same kids; the node turned with them -/
theorem Upd.mid {base d : Nat} {w w' : World} {t t' : MT} {K1 X X' K2 : List MT} (hG : Good base w (d + 1) t) (hnd : (foot (d + 1) t).Nodup) (ht : t.ks = K1 ++ (X ++ K2)) (ht' : t'.ks = K1 ++ (X' ++ K2)) (hr : t'.r = t.r) (hk : X'.flatMap MT.ks = X.flatMap MT.ks)
    (hok : NodeOk base w' t') (hokX : ∀ x ∈ X', NodeOk base w' x) (hsn : (t'.own ++ X'.flatMap MT.own).Nodup) (hnew : ∀ b ∈ t'.own ++ X'.flatMap MT.own, b ∈ t.own ++ X.flatMap MT.own ∨ w.heap.size ≤ b) (hm : Mut base (t.own ++ X.flatMap MT.own) w w') : Upd base (d + 1) w w' t t' := by
  have p1 := foot_split (d := d) ht
  have p2 := foot_split (d := d) ht'
  rw [hk] at p2
  have h1 := p1.nodup_iff.1 hnd
  have hold := hG.old
  have hdis := (List.nodup_append.1 h1).2.2
  refine ⟨hr, ⟨hok, fun x hx => ?_⟩, ?_, fun b hb => ?_, hm.of_sub (fun b hb => p1.mem_iff.2 (List.mem_append_left _ hb)) fun b hb => ⟨(hold b hb).1, (hold b hb).2.2⟩⟩
  · rw [ht'] at hx
    rcases List.mem_append.1 hx with hx | hx
    · refine (hG.kid (k := x) (by rw [ht]; exact List.mem_append_left _ hx)).mut hm fun b hb hs => hdis b hs b (List.mem_append_left _ (List.mem_flatMap.2 ⟨x, hx, hb⟩)) rfl
    · rcases List.mem_append.1 hx with hx | hx
      · cases d with
        | zero => exact hokX x hx
        | succ d =>
          refine ⟨hokX x hx, fun y hy => ?_⟩
          have hyq : y ∈ X.flatMap MT.ks := by rw [← hk]; exact List.mem_flatMap.2 ⟨x, hx, hy⟩
          obtain ⟨z, hz, hyz⟩ := List.mem_flatMap.1 hyq
          have hGz := hG.kid (k := z) (by rw [ht]; exact List.mem_append_right _ (List.mem_append_left _ hz))
          exact (hGz.2 y hyz).mut hm fun b hb hs => hdis b hs b (List.mem_append_right _ (List.mem_append_left _ (List.mem_flatMap.2 ⟨y, hyq, hb⟩))) rfl
      · refine (hG.kid (k := x) (by rw [ht]; exact List.mem_append_right _ (List.mem_append_right _ hx))).mut hm fun b hb hs => hdis b hs b (List.mem_append_right _ (List.mem_append_right _ (List.mem_flatMap.2 ⟨x, hx, hb⟩))) rfl
  · exact p2.nodup_iff.2 (nodup_swap h1 hsn hnew fun b hb => (hold b (p1.mem_iff.2 (List.mem_append_right _ hb))).2.1)
  · rcases List.mem_append.1 (p2.mem_iff.1 hb) with hb | hb
    · exact (hnew b hb).imp (fun e => p1.mem_iff.2 (List.mem_append_left _ e)) id
    · exact .inl (p1.mem_iff.2 (List.mem_append_right _ hb))
/-- one kid turned, the node as it was -/
theorem Upd.kid {base d : Nat} {w w' : World} {t k k' : MT} {K1 K2 : List MT} (hG : Good base w (d + 1) t) (hnd : (foot (d + 1) t).Nodup) (ht : t.ks = K1 ++ k :: K2) (h : Upd base d w w' k k') : Upd base (d + 1) w w' t (.nd t.r t.vp t.vk t.ps (K1 ++ k' :: K2)) := by
  have e : foot (d + 1) t = (t.own ++ K1.flatMap (foot d)) ++ (foot d k ++ K2.flatMap (foot d)) := by show t.own ++ t.ks.flatMap (foot d) = _; rw [ht]; simp
  have e' : foot (d + 1) (.nd t.r t.vp t.vk t.ps (K1 ++ k' :: K2)) = (t.own ++ K1.flatMap (foot d)) ++ (foot d k' ++ K2.flatMap (foot d)) := by
    show (MT.nd t.r t.vp t.vk t.ps (K1 ++ k' :: K2)).own ++ (K1 ++ k' :: K2).flatMap (foot d) = _
    have : (MT.nd t.r t.vp t.vk t.ps (K1 ++ k' :: K2)).own = t.own := rfl
    rw [this]; simp
  have hold := hG.old
  have hnd' := hnd
  rw [e] at hnd' hold
  have hp1 : ((t.own ++ K1.flatMap (foot d)) ++ (foot d k ++ K2.flatMap (foot d))).Perm (foot d k ++ ((t.own ++ K1.flatMap (foot d)) ++ K2.flatMap (foot d))) := by
    rw [List.perm_iff_count]; intro z; simp only [List.count_append]; omega
  have hp2 : ((t.own ++ K1.flatMap (foot d)) ++ (foot d k' ++ K2.flatMap (foot d))).Perm (foot d k' ++ ((t.own ++ K1.flatMap (foot d)) ++ K2.flatMap (foot d))) := by
    rw [List.perm_iff_count]; intro z; simp only [List.count_append]; omega
  have h1 := hp1.nodup_iff.1 hnd'
  have hdis := (List.nodup_append.1 h1).2.2
  have hkm : k ∈ t.ks := by rw [ht]; simp
  have hm : Mut base (foot (d + 1) t) w w' := h.tur.of_sub (fun b hb => foot_kid hkm b hb) fun b hb => ⟨(hG.old b hb).1, (hG.old b hb).2.2⟩
  refine ⟨rfl, ⟨?_, fun x hx => ?_⟩, ?_, fun b hb => ?_, hm⟩
  · have hs := hG.1.same (w' := w') fun b hb => h.tur.same b (hG.1.old b hb).2.1 fun hs => hdis b hs b (by simp [hb]) rfl
    refine ⟨hs.hb, hs.hp, hs.op, ?_⟩
    have hk2 := hs.ok
    have e3 : t.ks.map MT.r = (K1 ++ k' :: K2).map MT.r := by rw [ht]; simp [h.r]
    have e4 : t.ks.length = (K1 ++ k' :: K2).length := by rw [ht]; simp
    rw [e3, e4] at hk2
    exact hk2
  · rcases List.mem_append.1 hx with hx | hx
    · refine (hG.kid (k := x) (by rw [ht]; simp [hx])).mut h.tur fun b hb hs => hdis b hs b ?_ rfl
      exact List.mem_append_left _ (List.mem_append_right _ (List.mem_flatMap.2 ⟨x, hx, hb⟩))
    · rcases List.mem_cons.1 hx with rfl | hx
      · exact h.good
      · refine (hG.kid (k := x) (by rw [ht]; simp [hx])).mut h.tur fun b hb hs => hdis b hs b ?_ rfl
        exact List.mem_append_right _ (List.mem_flatMap.2 ⟨x, hx, hb⟩)
  · rw [e']
    exact hp2.nodup_iff.2 (nodup_swap h1 h.nodup h.new fun b hb => (hold b (hp1.mem_iff.2 (List.mem_append_right _ hb))).2.1)
  · rw [e'] at hb
    rw [e]
    rcases List.mem_append.1 (hp2.mem_iff.1 hb) with hb | hb
    · exact (h.new b hb).imp (fun e => hp1.mem_iff.2 (List.mem_append_left _ e)) id
    · exact .inl (hp1.mem_iff.2 (List.mem_append_right _ hb))
/-- two nodes' pairs with one between them -/
theorem inter_join : ∀ {pa : List MP} {ka : List (List MP)}, ka.length = pa.length + 1 → ∀ (q : MP) (pb : List MP) (kb : List (List MP)), inter (pa ++ q :: pb) (ka ++ kb) = inter pa ka ++ q :: inter pb kb
  | [], [k], _, q, pb, kb => by
    show inter (q :: pb) (k :: kb) = k ++ q :: inter pb kb
    rfl
  | [], [], h, _, _, _ => by simp at h
  | [], _ :: _ :: _, h, _, _, _ => by simp at h
  | _ :: _, [], h, _, _, _ => by simp at h
  | p :: pa, k :: ka, h, q, pb, kb => by
    show k ++ p :: inter (pa ++ q :: pb) (ka ++ kb) = (k ++ p :: inter pa ka) ++ q :: inter pb kb
    rw [inter_join (by simpa using h)]
    simp
theorem flat_join {d : Nat} {x a b : MT} {q : MP} (hp : x.ps = a.ps ++ q :: b.ps) (hk : x.ks = a.ks ++ b.ks) (hl : d = 0 ∨ a.ks.length = a.ps.length + 1) : flat d x = flat d a ++ q :: flat d b := by
  cases d with
  | zero => exact hp
  | succ d =>
    show inter x.ps (x.ks.map (flat d)) = inter a.ps (a.ks.map (flat d)) ++ q :: inter b.ps (b.ks.map (flat d))
    rw [hp, hk, List.map_append, inter_join (by rcases hl with hl | hl <;> simp_all)]
/-- a node's pairs around its kid i, and around the pair behind it -/
theorem flat_at {d : Nat} {t k : MT} {P1 P2 : List MP} {K1 K2 : List MT} (hp : t.ps = P1 ++ P2) (hk : t.ks = K1 ++ k :: K2) (hl : P1.length = K1.length) : flat (d + 1) t = pre P1 (K1.map (flat d)) ++ (flat d k ++ post P2 (K2.map (flat d))) := by
  show inter t.ps (t.ks.map (flat d)) = _
  rw [hp, hk, List.map_append, List.map_cons, inter_split (by simpa using hl)]
theorem flat_at2 {d : Nat} {t a b : MT} {q : MP} {P1 P2 : List MP} {K1 K2 : List MT} (hp : t.ps = P1 ++ q :: P2) (hk : t.ks = K1 ++ a :: b :: K2) (hl : P1.length = K1.length) : flat (d + 1) t = pre P1 (K1.map (flat d)) ++ ((flat d a ++ q :: flat d b) ++ post P2 (K2.map (flat d))) := by
  rw [flat_at hp hk hl, List.map_cons, post_cons]
  simp
end Go.Proofs.Ytdmbgimehepfaaa
