/- Plain laws for insertion and removal at one node. -/
import Derived.Test.YtdmbgimehepfaaaBtX
set_option linter.unusedSimpArgs false
set_option linter.unusedVariables false
namespace Go.Proofs.Ytdmbgimehepfaaa
open Go.RowKit

theorem inter_ps : ∀ {ps : List MP} {ks : List (List MP)}, ps.Sublist (inter ps ks)
  | [], _ => List.nil_sublist _
  | p :: ps, [] => List.Sublist.refl _
  | p :: ps, k :: ks => ((inter_ps (ps := ps) (ks := ks)).cons_cons p).trans (List.sublist_append_right _ _)
theorem ps_sub {d : Nat} {t : MT} : t.ps.Sublist (flat d t) := by
  cases d with
  | zero => exact List.Sublist.refl _
  | succ d => exact inter_ps
theorem flat_kid {d i : Nat} {t k : MT} (hl : t.ks.length = t.ps.length + 1) (hk : t.ks[i]? = some k) : flat (d + 1) t = pre (t.ps.take i) ((t.ks.take i).map (flat d)) ++ (flat d k ++ post (t.ps.drop i) ((t.ks.drop (i + 1)).map (flat d))) := by
  have hi := (List.getElem?_eq_some_iff.1 hk).1
  exact flat_at (List.take_append_drop i t.ps).symm (one_at hk) (by simp; omega)
theorem kid_sub {d i : Nat} {t k : MT} (hl : t.ks.length = t.ps.length + 1) (hk : t.ks[i]? = some k) : (flat d k).Sublist (flat (d + 1) t) := by
  rw [flat_kid hl hk]
  exact (List.sublist_append_left _ _).trans (List.sublist_append_right _ _)
/-- pairs ahead of p and behind p around the kid i -/
theorem around_kid {d i : Nat} {t k : MT} {p : Kp} (hl : t.ks.length = t.ps.length + 1) (hk : t.ks[i]? = some k) (hs : Srt (flat (d + 1) t)) (h1 : ∀ q ∈ t.ps.take i, ltP q.kp p) (h2 : ∀ q ∈ t.ps.drop i, ¬ ltP q.kp p) :
    (∀ q ∈ pre (t.ps.take i) ((t.ks.take i).map (flat d)), ltP q.kp p) ∧ ∀ q ∈ post (t.ps.drop i) ((t.ks.drop (i + 1)).map (flat d)), ¬ ltP q.kp p := by
  have hi := (List.getElem?_eq_some_iff.1 hk).1
  obtain ⟨_, h3, h4⟩ := around (ps := t.ps) (ks := t.ks.map (flat d)) (i := i) (by simpa using hl) hs (by omega) h1 h2
  rw [← List.map_take] at h3
  rw [← List.map_drop] at h4
  exact ⟨h3, h4⟩
theorem gt_of {a p : Kp} (h : ¬ ltP a p) (hne : a ≠ p) : ltP p a := by
  rcases ltP_tri a p with h1 | h1 | h1
  · exact absurd h1 h
  · exact absurd h1 hne
  · exact h1
theorem ins_at {l : List MP} {i : Nat} {p : MP} (h1 : ∀ q ∈ l.take i, ltP q.kp p.kp) (h2 : ∀ q ∈ l.drop i, ¬ ltP q.kp p.kp) (hn : ∀ q ∈ l, q.kp ≠ p.kp) : Ins p l (l.take i ++ p :: l.drop i) :=
  ⟨l.take i, l.drop i, (List.take_append_drop i l).symm, rfl, h1, fun q hq => gt_of (h2 q hq) (hn q (List.mem_of_mem_drop hq))⟩
/-- the node and its divided kid -/
theorem Hp.ofSplit {base md : Nat} {w w' : World} {t k l r : MT} (hbw : base ≤ w.heap.size) (hT : NodeOk base w t) (hK : NodeOk base w k) (hnd : (t.own ++ k.own).Nodup) (hS : SplitR base w w' k l r md) :
    Hp base (t.own ++ k.own) w w' [⟨t.r, #[t.vp, t.vk], TN⟩, ⟨l.r, #[l.vp, l.vk], TN⟩, ⟨r.r, #[r.vp, r.vk], TN⟩] [rowP t.vp t.ps.length t.ps, rowQ t.vk t.ks.length t.ks, rowP l.vp l.ps.length l.ps, rowQ l.vk l.ks.length l.ks, rowP r.vp r.ps.length r.ps, rowQ r.vk r.ks.length r.ks] := by
  have hdis := (List.nodup_append.1 hnd).2.2
  have hT' : NodeOk base w' t := hT.same fun b hb => hS.tur.same b (hT.old b hb).2.1 fun hs => hdis b hb b hs rfl
  have hm : Mut base (t.own ++ k.own) w w' := hS.tur.of_sub (fun b hb => List.mem_append_right _ hb) fun b hb => by
    rcases List.mem_append.1 hb with hb | hb
    · exact ⟨(hT.old b hb).1, (hT.old b hb).2.2⟩
    · exact ⟨(hK.old b hb).1, (hK.old b hb).2.2⟩
  have hn := nodup_swap (S := k.own) (S' := l.own ++ r.own) (R := t.own) (N := w.heap.size) (List.perm_append_comm.nodup_iff.1 hnd) hS.nodup hS.new fun b hb => (hT.old b hb).2.1
  refine ⟨hbw, hm, ?_, ?_, ?_, ?_⟩
  · intro x hx
    simp only [List.mem_cons, List.not_mem_nil, or_false] at hx
    rcases hx with rfl | rfl | rfl
    · exact ⟨hT'.hb, hT'.hp⟩
    · exact ⟨hS.lok.hb, hS.lok.hp⟩
    · exact ⟨hS.rok.hb, hS.rok.hp⟩
  · intro x hx
    simp only [List.mem_cons, List.not_mem_nil, or_false] at hx
    rcases hx with rfl | rfl | rfl | rfl | rfl | rfl
    · exact hT'.op
    · exact hT'.ok
    · exact hS.lok.op
    · exact hS.lok.ok
    · exact hS.rok.op
    · exact hS.rok.ok
  · simp only [MT.own, MT.r, MT.vp, MT.vk, blks, List.map_cons, List.map_nil, List.flatMap_cons, List.flatMap_nil, List.append_nil, List.nodup_append, List.nodup_cons, List.mem_append, List.mem_cons, List.not_mem_nil, or_false] at hn ⊢
    grind
  · intro x hx
    have h1 := hS.new x
    simp only [MT.own, MT.r, MT.vp, MT.vk, blks, List.map_cons, List.map_nil, List.flatMap_cons, List.flatMap_nil, List.append_nil, List.mem_append, List.mem_cons, List.not_mem_nil, or_false] at hx h1 ⊢
    grind
theorem SplitR.flat {base d md : Nat} {w w' : World} {k l r : MT} {q : MP} (hS : SplitR base w w' k l r md) (hq : k.ps[md]? = some q) (hl : d = 0 ∨ k.ks.length = k.ps.length + 1) : flat d k = flat d l ++ q :: flat d r := by
  have hi := (List.getElem?_eq_some_iff.1 hq).1
  refine flat_join (by rw [hS.lps, hS.rps]; exact one_at hq) (by rw [hS.lks, hS.rks, List.take_append_drop]) (hl.imp id fun h => ?_)
  rw [hS.lks, hS.lps]; simp; omega
theorem SplitR.kids {base m d md : Nat} {w w' : World} {k l r : MT} (hS : SplitR base w w' k l r md) (hk : KidW m d k) (hm : md < k.ps.length) : KidW m d l ∧ KidW m d r := by
  cases d with
  | zero =>
    have h0 : k.ks = [] := hk
    exact ⟨by show l.ks = []; rw [hS.lks, h0]; rfl, by show r.ks = []; rw [hS.rks, h0]; rfl⟩
  | succ d =>
    have h1 := hk.1
    refine ⟨⟨?_, fun x hx => ?_⟩, ⟨?_, fun x hx => ?_⟩⟩
    · rw [hS.lks, hS.lps]; simp; omega
    · rw [hS.lks] at hx; exact hk.2 x (List.mem_of_mem_take hx)
    · rw [hS.rks, hS.rps]; simp; omega
    · rw [hS.rks] at hx; exact hk.2 x (List.mem_of_mem_drop hx)
theorem Ins.mem {p : MP} {l l' : List MP} (h : Ins p l l') {q : MP} : q ∈ l' ↔ q = p ∨ q ∈ l := by
  obtain ⟨a, b, rfl, rfl, _⟩ := h
  simp only [List.mem_append, List.mem_cons]
  grind
end Go.Proofs.Ytdmbgimehepfaaa
