/- Put. -/
import Derived.Test.YtdmbgimehepfaaaBtT
set_option linter.unusedSimpArgs false
set_option linter.unusedVariables false
namespace Go.Proofs.Ytdmbgimehepfaaa
open Go.RowKit


set_option maxRecDepth 100000 in
set_option maxHeartbeats 2000000 in
theorem cloneV_any (A : Option Addr) (n c : Nat) (xs : List Value) (w : World) (hR : Rd w 3 A n xs) (h1 : ∀ u ∈ xs, u.oneCell' = true) (hn : n ≤ 1048576) (hnil : A = none → n = 0 ∧ c = 0) :
    Calls Try.prog 28 #[.slice A n c] w fun e w' => ∃ v', e = .returned v' ∧ w'.ownsRow w.heap.size 57 3 v' n xs ∧ Ext w w' := by
  rcases A with _ | ad
  · obtain ⟨rfl, rfl⟩ := hnil rfl
    have hx : xs = [] := List.eq_nil_of_length_eq_zero (by simpa using hR.1)
    subst hx
    have heq := Lib.run_eql_slice_nil (P := Try.prog) w 22 57 none 0 0 0 0 Try.underlying22
    go_enter Try.func28, Try.ntmps28
    go_wp2
    go_ret
    exact ⟨_, rfl, World.ownsRow_nil _ _ _ _, by repeat (first | exact Ext.refl' _ | assumption | apply Ext.ex' | apply Ext.al | apply Ext.drN | apply Ext.dr)⟩
  · have heq := Lib.run_eql_slice_nil (P := Try.prog) w 22 57 (some ad) n c 0 0 Try.underlying22
    go_enter Try.func28, Try.ntmps28
    go_wp2_with (at_builtin; refine wpList_app _ rfl (.tmp 5) (.tmp 6) rfl elVal3 w (by repeat (first | exact Ext.refl' _ | assumption | apply Ext.ex' | apply Ext.al | apply Ext.drN | apply Ext.dr)) _ 0 [] rfl (own_lit0c w _ (Nat.le_refl _) _ _) (some ad) n c xs rfl (hR.ext (by repeat (first | exact Ext.refl' _ | assumption | apply Ext.ex' | apply Ext.al | apply Ext.drN | apply Ext.dr))) h1 (by unfold maxLen; omega) (by omega) ?_; intro v1 x1 ho1 _)
    go_ret
    exact ⟨_, rfl, by simpa using ho1, by repeat (first | exact Ext.refl' _ | assumption | apply Ext.ex' | apply Ext.al | apply Ext.drN | apply Ext.dr)⟩
/-- a cloned key -/
theorem KOk.of_own {base : Nat} {w : World} {A : Option Addr} {n c : Nat} {K : List Va} {id : Int} {b0 : Nat} (h : w.ownsRow b0 TVA 3 (.slice A n c) n (vcl K)) (hn : n = K.length) (hK : K.length ≤ 1048576) : KOk base w ⟨A, n, c, K, id⟩ := by
  have hnc : n ≤ c := by
    rcases own_forms h with ⟨h1, rfl, h3⟩ | ⟨g, cap, cur, h1, hB, hnc, htk⟩
    · omega
    · simp only [Value.slice.injEq] at h1
      obtain ⟨_, _, rfl⟩ := h1
      exact hnc
  refine ⟨hn, ⟨hK, hnc⟩, fun h0 => ?_⟩
  rcases own_forms h with ⟨h1, rfl, h3⟩ | ⟨g, cap, cur, h1, hB, hnc, htk⟩
  · have h0 : 0 < K.length := h0
    omega
  · simp only [Value.slice.injEq] at h1
    obtain ⟨rfl, _, rfl⟩ := h1
    refine ⟨g, 0, rfl, hB.lt, .inr ⟨_, _, hB.hp⟩, fun j u hu => ?_⟩
    have hu : (vcl K)[j]? = some u := hu
    rw [hB.cell, Nat.zero_add]
    rw [← htk, List.getElem?_take] at hu
    split at hu
    · exact hu
    · cases hu
/-- a tree in memory: its struct at tb, its pairs, its blocks -/
structure TreeIs (base : Nat) (w : World) (tb m : Nat) (l : List MP) (F : List Nat) : Prop where
  hb : base ≤ tb
  nF : tb ∉ F
  srt : Srt l
  key : ∀ q ∈ l, KOk base w q
  len : l.length ≤ 1048576
  root : (l = [] ∧ F = [] ∧ w.heap[tb]? = some (.cells #[.pointer none, .int .i64 m, .int .i64 0] TT (0, 0))) ∨ ∃ d t, w.heap[tb]? = some (.cells #[pt t.r, .int .i64 m, .int .i64 l.length] TT (0, 0)) ∧ Good base w d t ∧ (foot d t).Nodup ∧ Wf m d 1 m t ∧ flat d t = l ∧ F = foot d t
theorem TreeIs.ext {base tb m : Nat} {w w' : World} {l : List MP} {F : List Nat} (h : TreeIs base w tb m l F) (e : Ext w w') : TreeIs base w' tb m l F :=
  ⟨h.hb, h.nF, h.srt, fun q hq => (h.key q hq).ext e, h.len, h.root.imp (fun ⟨h1, h2, h3⟩ => ⟨h1, h2, e.at h3⟩) fun ⟨d, t, h1, h2, h3⟩ => ⟨d, t, e.at h1, h2.ext e, h3⟩⟩
theorem TreeIs.old {base tb m : Nat} {w : World} {l : List MP} {F : List Nat} (h : TreeIs base w tb m l F) : ∀ b ∈ tb :: F, base ≤ b ∧ b < w.heap.size ∧ ∀ c ty f, w.heap[b]? = some (.cells c ty f) → TreeT ty := by
  intro b hb
  have htb : ∃ c, w.heap[tb]? = some (.cells c TT (0, 0)) := by
    rcases h.root with ⟨_, _, h1⟩ | ⟨d, t, h1, _⟩
    · exact ⟨_, h1⟩
    · exact ⟨_, h1⟩
  rcases List.mem_cons.1 hb with rfl | hb
  · obtain ⟨c0, h1⟩ := htb
    exact ⟨h.hb, (Array.getElem?_eq_some_iff.1 h1).1, fun c ty f e => by rw [h1] at e; simp at e; exact .inr (.inr (.inr e.2.1.symm))⟩
  · rcases h.root with ⟨_, rfl, _⟩ | ⟨d, t, _, h2, _, _, _, rfl⟩
    · cases hb
    · exact h2.old b hb
theorem Mut.start' {base tb m : Nat} {w w' : World} {l : List MP} {F : List Nat} (h : TreeIs base w tb m l F) (e : Ext w w') : Mut base (tb :: F) w w' :=
  (Mut.ofExt e).of_sub (by simp) fun b hb => ⟨(h.old b hb).1, (h.old b hb).2.2⟩
/-- the struct's cells written -/
theorem mut_tb {base tb o : Nat} {S : List Nat} {w W : World} {u : Value} (h : Mut base S w W) (ht : tb ∈ S) : Mut base S w (W.setCell ⟨tb, o, none⟩ u) :=
  h.step (T := [tb]) rfl rfl rfl (by rw [set_size]; exact Nat.le_refl _) (fun b _ hb => set_other (by simpa using hb)) (fun b hb => by simp at hb; subst hb; exact .inl ht)


/-- where Put stands ahead of put -/
structure PutS (base tb m : Nat) (w W : World) (l : List MP) (F : List Nat) (p : MP) (d lo : Nat) (t : MT) : Prop where
  hb : base ≤ W.heap.size
  htb : W.heap[tb]? = some (.cells #[pt t.r, .int .i64 m, .int .i64 l.length] TT (0, 0))
  good : Good base W d t
  nd : (foot d t).Nodup
  tn : tb ∉ foot d t
  wf : Wf m d lo m t
  lo1 : lo = 1 ∨ d = 0
  srt : Srt (flat d t)
  key : ∀ q ∈ flat d t, KOk base W q
  kp : KOk base W p
  ne : ∀ q ∈ flat d t, q.kp ≠ p.kp
  fl : flat d t = l
  mt : Mut base (tb :: F) w W
  new : ∀ x ∈ foot d t, x ∈ F ∨ w.heap.size ≤ x
  ll : l.length < 1048576
  hbt : base ≤ tb
theorem PutS.put {base tb m : Nat} {w W : World} {l : List MP} {F : List Nat} {p : MP} {d lo : Nat} {t : MT} (hm : 2 ≤ m) (hm2 : m ≤ 64) (h : PutS base tb m w W l F p d lo t) : ∀ W', Ext W W' → Calls Try.prog 30 #[pt tb, pt t.r, pv p] W' fun e w' => e = .returned (.tuple #[]) ∧ ∃ t', Upd base d W' w' t t' ∧ Ins p (flat d t) (flat d t') ∧ Wf m d lo (m + 1) t' := fun W' hE =>
  put_any base m tb hm hm2 d lo t p W' (Nat.le_trans h.hb hE.size) (hE.cell' (three_cells h.htb).2.2.1) h.tn (h.good.ext hE) h.nd h.wf h.srt (fun q hq => (h.key q hq).ext hE) (h.kp.ext hE) h.ne
/-- the end, where the root is not divided -/
theorem PutS.fin {base tb m : Nat} {w W w3 W' : World} {l : List MP} {F : List Nat} {p : MP} {d lo : Nat} {t t1 : MT} (h : PutS base tb m w W l F p d lo t) (hU : Upd base d W w3 t t1) (hI : Ins p (flat d t) (flat d t1)) (hW : Wf m d lo (m + 1) t1) (hle : t1.ps.length ≤ m)
    (hE : Ext (w3.setCell ⟨tb, 2, none⟩ (.int .i64 ((l.length : Int) + 1))) W') : TreeIs base W' tb m (flat d t1) (foot d t1) ∧ Mut base (tb :: F) w W' ∧ (∀ x ∈ foot d t1, x ∈ F ∨ w.heap.size ≤ x) := by
  have htl := (Array.getElem?_eq_some_iff.1 h.htb).1
  have hn : tb ∉ foot d t1 := fun e => (hU.new tb e).elim h.tn fun e => by omega
  have hl : (flat d t1).length = l.length + 1 := by rw [hI.length, h.fl]
  have hM : Mut base (tb :: F) w w3 := h.mt.trans hU.tur fun b hb => (h.new b hb).imp (fun e => List.mem_cons_of_mem _ e) id
  have hM2 : Mut base (tb :: F) w (w3.setCell ⟨tb, 2, none⟩ (.int .i64 ((l.length : Int) + 1))) := mut_tb hM (by simp)
  refine ⟨⟨h.hbt, hn, hI.sorted h.srt, fun q hq => ?_, by have := h.ll; omega, .inr ⟨d, t1, hE.at ?_, ?_, hU.nodup, ?_, rfl, rfl⟩⟩, hM2.step (T := []) hE.os hE.tape hE.output hE.size (fun b hb _ => hE.block b hb) (by simp), fun x hx => ?_⟩
  · have hk : KOk base w3 q := by
      rcases hI.mem.1 hq with rfl | hq
      · exact hU.tur.key h.kp
      · exact hU.tur.key (h.key q hq)
    refine KOk.ext (Mut.key (mut_tb (S := [tb]) (o := 2) (u := .int .i64 ((l.length : Int) + 1)) (Mut.start (w := w3) (fun b hb _ => by simp at hb; subst hb; exact h.hbt) (fun b hb c ty f e => by
      simp at hb; subst hb
      rw [hU.tur.block h.htb h.tn] at e; simp at e; exact .inr (.inr (.inr e.2.1.symm)))) (by simp)) hk) hE
  · rw [set_heap (hU.tur.block h.htb h.tn), hl, hU.r]
    rfl
  · refine Good.ext (hU.good.same fun b hb => set_other (b := tb) fun e => hn (by rw [← e]; exact hb)) hE
  · have h1 := wf_iff.1 hW
    refine wf_iff.2 ⟨h1.1, ?_, hle⟩
    rcases h.lo1 with e | e
    · omega
    · subst e
      have : (flat 0 t1).length = t1.ps.length := rfl
      omega
  · rcases hU.new x hx with e | e
    · exact h.new x e
    · exact .inr (Nat.le_trans h.mt.size e)
/-- the end, under a new root -/
theorem PutS.fin2 {base tb m rb b1 b2 md : Nat} {w W w3 w4 W' : World} {l : List MP} {F : List Nat} {p q : MP} {d lo : Nat} {t t1 x y : MT} (h : PutS base tb m w W l F p d lo t) (hU : Upd base d W w3 t t1) (hI : Ins p (flat d t) (flat d t1)) (hW : Wf m d lo (m + 1) t1) (hm : 2 ≤ m)
    (hS : SplitR base w3 w4 t1 x y md) (hq : t1.ps[md]? = some q) (hmd : t1.ps.length / 2 = md) (hgt : m < t1.ps.length)
    (h1 : w4.heap.size ≤ b1) (h2 : w4.heap.size ≤ b2) (h3 : w4.heap.size ≤ rb) (n1 : b1 ≠ b2) (n2 : b1 ≠ rb) (n3 : b2 ≠ rb)
    (e0 : W'.heap[tb]? = some (.cells #[pt rb, .int .i64 m, .int .i64 ((l.length : Int) + 1)] TT (0, 0))) (e1 : W'.heap[b1]? = some (.cells #[.slice q.A q.n q.c, .int .i64 q.id] TP (0, 0))) (e2 : W'.heap[b2]? = some (.cells #[pt x.r, pt y.r] TQ (0, 0))) (e3 : W'.heap[rb]? = some (.cells #[.slice (some ⟨b1, 0, none⟩) 1 1, .slice (some ⟨b2, 0, none⟩) 2 2] TN (0, 0)))
    (hM' : Mut base [tb] w4 W') : ∃ l' F', TreeIs base W' tb m l' F' ∧ Mut base (tb :: F) w W' ∧ (∀ x ∈ F', x ∈ F ∨ w.heap.size ≤ x) ∧ Ins p (flat d t) l' := by
  have htl := (Array.getElem?_eq_some_iff.1 h.htb).1
  have hn : tb ∉ foot d t1 := fun e => (hU.new tb e).elim h.tn fun e => by omega
  have hl : (flat d t1).length = l.length + 1 := by rw [hI.length, h.fl]
  have hwf := wf_iff.1 hW
  -- both halves as kids of a node that is the whole of t1
  have h34 := hS.tur.size
  have hxy := hS.kids hwf.1 (by omega)
  have hfl : flat d t1 = flat d x ++ q :: flat d y := hS.flat hq hwf.1.len
  have hold := hU.good.old
  have p1 := (foot_perm (d := d) [t1])
  have p2 := (foot_perm (d := d) [x, y])
  simp only [List.flatMap_cons, List.flatMap_nil, List.append_nil] at p1 p2
  rw [show x.ks ++ y.ks = t1.ks by rw [hS.lks, hS.rks, List.take_append_drop]] at p2
  have hnd1 := p1.nodup_iff.1 hU.nodup
  have hdis := (List.nodup_append.1 hnd1).2.2
  have hgk : ∀ b ∈ GK d t1.ks, base ≤ b ∧ b < w3.heap.size ∧ ∀ c ty f, w3.heap[b]? = some (.cells c ty f) → TreeT ty := fun b hb => hold b (p1.mem_iff.2 (List.mem_append_right _ hb))
  have hnd2 : (foot d x ++ foot d y).Nodup := p2.nodup_iff.2 (nodup_swap hnd1 hS.nodup hS.new fun b hb => (hgk b hb).2.1)
  have hmem2 : ∀ b ∈ foot d x ++ foot d y, b < w4.heap.size ∧ (b ∈ foot d t1 ∨ w3.heap.size ≤ b) := by
    intro b hb
    rcases List.mem_append.1 (p2.mem_iff.1 hb) with hb | hb
    · refine ⟨?_, (hS.new b hb).imp (fun e => p1.mem_iff.2 (List.mem_append_left _ e)) id⟩
      rcases List.mem_append.1 hb with hb | hb
      · exact (hS.lok.old b hb).2.1
      · exact (hS.rok.old b hb).2.1
    · exact ⟨Nat.lt_of_lt_of_le (hgk b hb).2.1 h34, .inl (p1.mem_iff.2 (List.mem_append_right _ hb))⟩
  have htn2 : tb ∉ foot d x ++ foot d y := fun e => by
    have htl3 := Nat.lt_of_lt_of_le htl hU.tur.size
    rcases (hmem2 tb e).2 with e | e
    · exact hn e
    · omega
  have hgx : ∀ z ∈ [x, y], Good base W' d z := by
    intro z hz
    have hzok : NodeOk base w4 z := by simp at hz; rcases hz with rfl | rfl; exact hS.lok; exact hS.rok
    have hzk : ∀ k ∈ z.ks, k ∈ t1.ks := by
      intro k hk
      simp at hz
      rcases hz with rfl | rfl
      · rw [hS.lks] at hk; exact List.mem_of_mem_take hk
      · rw [hS.rks] at hk; exact List.mem_of_mem_drop hk
    have hg4 : Good base w4 d z := by
      cases d with
      | zero => exact hzok
      | succ d => exact ⟨hzok, fun k hk => (hU.good.2 k (hzk k hk)).mut hS.tur fun b hb hs => hdis b hs b (List.mem_flatMap.2 ⟨k, hzk k hk, hb⟩) rfl⟩
    refine hg4.mut hM' fun b hb e => htn2 ?_
    simp at e; subst e
    simp at hz
    rcases hz with rfl | rfl
    · exact List.mem_append_left _ hb
    · exact List.mem_append_right _ hb
  have hbb : base ≤ w4.heap.size := Nat.le_trans h.hb (Nat.le_trans hU.tur.size h34)
  have hok : NodeOk base W' (.nd rb (.slice (some ⟨b1, 0, none⟩) 1 1) (.slice (some ⟨b2, 0, none⟩) 2 2) [q] [x, y]) := by
    refine ⟨Nat.le_trans hbb h3, e3, ?_, ?_⟩
    · exact Blk.own (cur := mp2 q) ⟨Nat.le_trans hbb h1, e1, by unfold maxLen; omega, rfl⟩ (Nat.le_refl _)
    · exact Blk.own (cur := [pt x.r, pt y.r]) ⟨Nat.le_trans hbb h2, e2, by unfold maxLen; omega, rfl⟩ (Nat.le_refl _)
  have hM3 : Mut base (tb :: F) w w3 := h.mt.trans hU.tur fun b hb => (h.new b hb).imp (fun e => List.mem_cons_of_mem _ e) id
  have hM4 : Mut base (tb :: F) w w4 := hM3.trans hS.tur fun b hb => by
    rcases hU.new b (own_sub b hb) with e | e
    · exact (h.new b e).imp (fun e => List.mem_cons_of_mem _ e) id
    · exact .inr (Nat.le_trans h.mt.size e)
  have hM5 : Mut base (tb :: F) w W' := hM4.trans hM' fun b hb => by simp at hb; subst hb; exact .inl (by simp)
  have hbig : w.heap.size ≤ w3.heap.size := hM3.size
  have hbig4 : w.heap.size ≤ w4.heap.size := hM4.size
  refine ⟨flat d t1, foot (d + 1) (.nd rb (.slice (some ⟨b1, 0, none⟩) 1 1) (.slice (some ⟨b2, 0, none⟩) 2 2) [q] [x, y]), ⟨h.hbt, ?_, hI.sorted h.srt, fun z hz => ?_, by have := h.ll; omega, .inr ⟨d + 1, .nd rb (.slice (some ⟨b1, 0, none⟩) 1 1) (.slice (some ⟨b2, 0, none⟩) 2 2) [q] [x, y], ?_, ⟨hok, hgx⟩, ?_, ?_, ?_, rfl⟩⟩, hM5, ?_, hI⟩
  · intro hb
    rcases List.mem_append.1 hb with hb | hb
    · have htl4 : tb < w4.heap.size := Nat.lt_of_lt_of_le htl (Nat.le_trans hU.tur.size h34)
      simp [MT.own, MT.r, MT.vp, MT.vk, ob, Value.ownBlock] at hb
      omega
    · exact htn2 (by simpa [MT.ks] using hb)
  · refine hM'.key (hS.tur.key ?_)
    rcases hI.mem.1 hz with rfl | hz
    · exact hU.tur.key h.kp
    · exact hU.tur.key (h.key z hz)
  · rw [hl]; exact e0
  · show ((MT.nd rb (.slice (some ⟨b1, 0, none⟩) 1 1) (.slice (some ⟨b2, 0, none⟩) 2 2) [q] [x, y]).own ++ [x, y].flatMap (foot d)).Nodup
    rw [List.nodup_append]
    refine ⟨?_, by simpa using hnd2, fun a ha b hb e => ?_⟩
    · simp [MT.own, MT.r, MT.vp, MT.vk, ob, Value.ownBlock]; omega
    · subst e
      have := (hmem2 a (by simpa using hb)).1
      simp [MT.own, MT.r, MT.vp, MT.vk, ob, Value.ownBlock] at ha
      omega
  · refine ⟨rfl, Nat.le_refl _, by show 1 ≤ m; omega, fun k hk => ?_⟩
    have hk : k ∈ [x, y] := hk
    simp at hk
    rcases hk with rfl | rfl
    · exact wf_iff.2 ⟨hxy.1, by rw [hS.lps]; simp; omega, by rw [hS.lps]; simp; omega⟩
    · exact wf_iff.2 ⟨hxy.2, by rw [hS.rps]; simp; omega, by rw [hS.rps]; simp; omega⟩
  · show inter [q] ([x, y].map (flat d)) = flat d t1
    rw [hfl]
    rfl
  · intro z hz
    rcases List.mem_append.1 hz with hz | hz
    · simp [MT.own, MT.r, MT.vp, MT.vk, ob, Value.ownBlock] at hz
      exact .inr (by omega)
    · rcases (hmem2 z (by simpa [MT.ks] using hz)).2 with e | e
      · rcases hU.new z e with e | e
        · exact h.new z e
        · exact .inr (Nat.le_trans h.mt.size e)
      · exact .inr (Nat.le_trans hbig e)

end Go.Proofs.Ytdmbgimehepfaaa
