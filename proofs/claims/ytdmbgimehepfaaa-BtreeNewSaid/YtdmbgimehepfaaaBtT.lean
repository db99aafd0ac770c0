/- Whether a tree contains a pair. -/
import Derived.Test.YtdmbgimehepfaaaBtQ
import Derived.Deep.LoopGhost
import Derived.WalkMore
set_option linter.unusedSimpArgs false
set_option linter.unusedVariables false
namespace Go.Proofs.Ytdmbgimehepfaaa
open Go.RowKit


theorem three_cells {W : World} {b : Nat} {x y z : Value} {t : TypeId} (h : W.heap[b]? = some (.cells #[x, y, z] t (0, 0))) : b < W.heap.size ∧ W.cell? ⟨b, 0, none⟩ = some x ∧ W.cell? ⟨b, 1, none⟩ = some y ∧ W.cell? ⟨b, 2, none⟩ = some z ∧ W.frozen? ⟨b, 0, none⟩ = false ∧ W.frozen? ⟨b, 1, none⟩ = false ∧ W.frozen? ⟨b, 2, none⟩ = false := by
  refine ⟨(Array.getElem?_eq_some_iff.1 h).1, ?_, ?_, ?_, ?_, ?_, ?_⟩ <;> simp [World.cell?, World.frozen?, h]
/-- a pair is in a subtree exactly if it is found here or in the kid -/
theorem in_kid {d i : Nat} {t k : MT} {p : Kp} (hl : t.ks.length = t.ps.length + 1) (hk : t.ks[i]? = some k) (hs : Srt (flat (d + 1) t)) (h1 : ∀ q ∈ t.ps.take i, ltP q.kp p) (h2 : ∀ q ∈ t.ps.drop i, ¬ ltP q.kp p) (hf : foundB t.ps i p = false) :
    (∃ q ∈ flat (d + 1) t, q.kp = p) ↔ ∃ q ∈ flat d k, q.kp = p := by
  constructor
  · rintro ⟨q, hq, hqp⟩
    obtain ⟨h3, h4⟩ := around_kid hl hk hs h1 h2
    rw [flat_kid hl hk] at hq hs
    rcases List.mem_append.1 hq with h | h
    · have := h3 q h; rw [hqp] at this; exact absurd this (ltP_irr _)
    · rcases List.mem_append.1 h with h | h
      · exact ⟨q, h, hqp⟩
      · exact absurd hqp (post_head (List.pairwise_append.1 (List.pairwise_append.1 hs).2.1).2.1 h4 (fun x hx => foundB_false hf (by simpa using hx)) q h)
  · rintro ⟨q, hq, hqp⟩
    exact ⟨q, (kid_sub hl hk).subset hq, hqp⟩
theorem in_leaf {i : Nat} {l : List MP} {p : Kp} (hs : Srt l) (h1 : ∀ q ∈ l.take i, ltP q.kp p) (h2 : ∀ q ∈ l.drop i, ¬ ltP q.kp p) (hf : foundB l i p = false) : ¬ ∃ q ∈ l, q.kp = p := by
  rintro ⟨q, hq, hqp⟩
  rw [← List.take_append_drop i l] at hq hs
  rcases List.mem_append.1 hq with h | h
  · have := h1 q h; rw [hqp] at this; exact ltP_irr _ this
  · have e : l.drop i = post (l.drop i) [] := by cases l.drop i <;> simp [post]
    rw [e] at h h2 hs
    exact post_head (List.pairwise_append.1 hs).2.1 h2 (fun x hx => foundB_false hf (by simpa using hx)) q h hqp
set_option maxRecDepth 100000 in
set_option maxHeartbeats 8000000 in
theorem has_none (tb : Nat) (x y : Value) (p : MP) (w : World) (htb : w.heap[tb]? = some (.cells #[.pointer none, x, y] TT (0, 0))) : Calls Try.prog 29 #[pt tb, pv p] w fun e w' => e = .returned (.bool false) ∧ Ext w w' := by
  obtain ⟨rb, c0, _, _, _, _, _⟩ := three_cells htb
  go_enter Try.func29, Try.ntmps29
  go_wp2
  go_step3
  go_wp2
  go_step3
  go_wp2
  go_loopg [5] 0 (fun g s wr => s = .pointer none ∧ Ext w wr)
  case atStart => exact ⟨rfl, by repeat (first | exact Ext.refl' _ | assumption | apply Ext.ex' | apply Ext.al | apply Ext.drN | apply Ext.dr)⟩
  case round =>
    obtain ⟨rfl, hE⟩ := hrel
    go_wp2
    rw [Exit.noGoto_ret]
    go_ret
    exact ⟨rfl, by repeat (first | exact Ext.refl' _ | assumption | apply Ext.ex' | apply Ext.al | apply Ext.drN | apply Ext.dr)⟩
set_option maxRecDepth 100000 in
set_option maxHeartbeats 8000000 in
theorem has_any (base m tb d : Nat) (x y : Value) (t : MT) (p : MP) (w : World) (h2 : 2 ≤ m) (hm : m ≤ 64) (htb : w.heap[tb]? = some (.cells #[pt t.r, x, y] TT (0, 0))) (hG : Good base w d t) (hW : Wf m d 1 m t) (hs : Srt (flat d t)) (hk : ∀ q ∈ flat d t, KOk base w q) (hp : KR w p) :
    Calls Try.prog 29 #[pt tb, pv p] w fun e w' => ∃ b : Bool, (b = true ↔ ∃ q ∈ flat d t, q.kp = p.kp) ∧ e = .returned (.bool b) ∧ Ext w w' := by
  obtain ⟨rb, c0, _, _, _, _, _⟩ := three_cells htb
  go_enter Try.func29, Try.ntmps29
  go_wp2
  go_step3
  go_wp2
  go_step3
  go_wp2
  have hE0 : Ext w (w.alloc (.cells #[.slice p.A p.n p.c, .int .i64 p.id] TP)) := (by repeat (first | exact Ext.refl' _ | assumption | apply Ext.ex' | apply Ext.al | apply Ext.drN | apply Ext.dr))
  have hbs : w.heap.size < (w.alloc (.cells #[.slice p.A p.n p.c, .int .i64 p.id] TP)).heap.size := by simp
  have zz := two_cells (heap_alloc_new w (.cells #[.slice p.A p.n p.c, .int .i64 p.id] TP))
  generalize w.alloc (.cells #[.slice p.A p.n p.c, .int .i64 p.id] TP) = Wb at hE0 hbs zz ⊢
  obtain ⟨bx, hbx⟩ : ∃ bx, w.heap.size = bx := ⟨_, rfl⟩
  rw [hbx] at hbs zz ⊢
  obtain ⟨_, z0, z1, _, _⟩ := zz
  have HK : Hid (∀ q ∈ flat d t, KR Wb q) := Lib.hid fun q hq => (hk q hq).kr.ext hE0
  have HP : Hid (KR Wb p) := Lib.hid (hp.ext hE0)
  have HG0 := Lib.hid (hG.ext hE0)
  have HW0 := Lib.hid hW
  have HS0 := Lib.hid hs
  have HE0 := Lib.hid hE0
  clear hG hW hs hk hp htb hE0
  go_loopg [5] d (fun g s wr => ∃ (t' : MT) (lo' : Nat), s = pt t'.r ∧ Hid (Good base Wb g t') ∧ Hid (Wf m g lo' m t') ∧ Hid (Srt (flat g t')) ∧ Hid (∀ q ∈ flat g t', KR Wb q) ∧ Hid ((∃ q ∈ flat g t', q.kp = p.kp) ↔ ∃ q ∈ flat d t, q.kp = p.kp) ∧ Ext Wb wr)
  case atStart => exact ⟨t, 1, rfl, HG0, HW0, HS0, HK, Lib.hid Iff.rfl, Ext.refl' _⟩
  case round =>
    obtain ⟨t', lo', rfl, HG, HW, HS, HKR, HF, hE⟩ := hrel
    have HE := Lib.hid hE
    have hnode := (HG.out.ext hE).node
    have hwf := wf_iff.1 HW.out
    have HFI : Hid (∀ W, Ext wr W → Calls Try.prog 48 #[pt t'.r, pv p] W fun e w' => ∃ i : Nat, i ≤ t'.ps.length ∧ (∀ q ∈ t'.ps.take i, ltP q.kp p.kp) ∧ (∀ q ∈ t'.ps.drop i, ¬ ltP q.kp p.kp) ∧ e = .returned (.tuple #[.int .i64 i, .bool (foundB t'.ps i p.kp)]) ∧ Ext W w') := Lib.hid fun W hE2 => find_any base t' p W ((HG.out.ext (hE.tr hE2)).node) (by omega) (List.Pairwise.sublist ps_sub HS.out) (fun q hq => (HKR.out q (ps_sub.subset hq)).ext (hE.tr hE2)) (HP.out.ext (hE.tr hE2))
    have z0 := hE.cell' z0
    have z1 := hE.cell' z1
    have hp := hnode.hp
    clear hwf
    go_wp2_with fail
    refine Calls.mono (HFI.out _ (by repeat (first | exact Ext.refl' _ | assumption | apply Ext.ex' | apply Ext.al | apply Ext.drN | apply Ext.dr))) ?_
    rintro e w1 ⟨i, hi, hlt, hge, rfl, hb1⟩
    have hb1' : Ext wr w1 := hb1
    have hp1 := hb1'.at hp
    cases hfb : foundB t'.ps i p.kp with
    | true =>
      obtain ⟨z, hz, hzp⟩ := foundB_true hfb
      have HT : Hid ((true = true) ↔ ∃ q ∈ flat d t, q.kp = p.kp) := Lib.hid ⟨fun _ => HF.out.1 ⟨z, ps_sub.subset (List.mem_of_getElem? hz), hzp⟩, fun _ => rfl⟩
      clear hfb hz hlt hge hnode hp hp1
      go_wp2
      rw [Exit.noGoto_ret]
      go_ret
      exact ⟨true, by simpa using HT.out, rfl, HE0.out.tr (HE.out.tr (by repeat (first | exact Ext.refl' _ | assumption | apply Ext.ex' | apply Ext.al | apply Ext.drN | apply Ext.dr)))⟩
    | false =>
      cases gk with
      | zero =>
        have hks : t'.ks = [] := HW.out.1
        obtain ⟨A2, da, hak, _, _, _⟩ := own_form2 hnode.ok
        rw [hak, hks] at hp1
        obtain ⟨rt, t0, t1, _, _⟩ := two_cells hp1
        have HT : Hid ((false = true) ↔ ∃ q ∈ flat d t, q.kp = p.kp) := Lib.hid ⟨fun h => (by cases h), fun h => absurd (HF.out.2 h) (in_leaf (p := p.kp) HS.out hlt hge hfb)⟩
        clear hfb hlt hge hnode hp hp1 hak hks
        go_wp2
        rw [Exit.noGoto_ret]
        go_ret
        exact ⟨false, by simpa using HT.out, rfl, HE0.out.tr (HE.out.tr (by repeat (first | exact Ext.refl' _ | assumption | apply Ext.ex' | apply Ext.al | apply Ext.drN | apply Ext.dr)))⟩
      | succ g =>
        obtain ⟨e1, e2, e3, e4⟩ := HW.out
        obtain ⟨kb, c, hvk, hc, _⟩ := own_ne0 hnode.ok (by omega)
        obtain ⟨n, hn⟩ : ∃ n, t'.ks.length = n := ⟨_, rfl⟩
        obtain ⟨k, hk⟩ : ∃ k, t'.ks[i]? = some k := ⟨_, List.getElem?_eq_getElem (by omega)⟩
        have hkm := List.mem_of_getElem? hk
        have HF2 : Hid ((∃ q ∈ flat g k, q.kp = p.kp) ↔ ∃ q ∈ flat d t, q.kp = p.kp) := Lib.hid ((in_kid (p := p.kp) e1 hk HS.out hlt hge hfb).symm.trans HF.out)
        have HGk : Hid (Good base Wb g k) := Lib.hid (HG.out.2 k hkm)
        have HWk : Hid (Wf m g (m / 2) m k) := Lib.hid (e4 k hkm)
        have HSk : Hid (Srt (flat g k)) := Lib.hid (List.Pairwise.sublist (kid_sub e1 hk) HS.out)
        have HKk : Hid (∀ q ∈ flat g k, KR Wb q) := Lib.hid fun q hq => HKR.out q ((kid_sub e1 hk).subset hq)
        have hop := hnode.ok
        rw [hvk, hn] at hop
        obtain ⟨hpb, k0⟩ := ownQ_at hop hk
        have k0 := hb1'.cell' k0
        have hpb := Nat.lt_of_lt_of_le hpb hb1'.size
        rw [hvk, hn] at hp1
        obtain ⟨rt, t0, t1, _, _⟩ := two_cells hp1
        have hin : (i : Int) < (n : Int) := by omega
        have hn0 : ¬ (n = 0) := by omega
        clear hfb hlt hge hnode hp hp1 hop hvk hn hk hc e1 e2 e3 e4 hkm hi
        go_wp2
        go_roundg g
        case rel => exact ⟨k, m / 2, rfl, HGk, HWk, HSk, HKk, HF2, HE.out.tr (by repeat (first | exact Ext.refl' _ | assumption | apply Ext.ex' | apply Ext.al | apply Ext.drN | apply Ext.dr))⟩
        case measure => omega

end Go.Proofs.Ytdmbgimehepfaaa
