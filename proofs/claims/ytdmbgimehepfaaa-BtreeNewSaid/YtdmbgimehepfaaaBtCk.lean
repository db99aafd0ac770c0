/- New, Len, Depth, sound. -/
import Derived.Test.YtdmbgimehepfaaaBtFr
import Derived.Deep.LoopGhost
set_option linter.unusedSimpArgs false
set_option linter.unusedVariables false
namespace Go.Proofs.Ytdmbgimehepfaaa
open Go.RowKit


set_option maxHeartbeats 4000000 in
theorem New_any (base m : Nat) (w : World) (hm : 2 ≤ m) (hm2 : m ≤ 64) (hb : base ≤ w.heap.size) : Calls Try.prog 9 #[.int .i64 m] w fun e w' => ∃ tb, e = .returned (.tuple #[pt tb, .int .i64 0]) ∧ w.heap.size ≤ tb ∧ TreeIs base w' tb m [] [] ∧ Ext w w' := by
  have h1 : (2 : Int) ≤ (m : Int) := by omega
  have h2 : (m : Int) ≤ 64 := by omega
  go_enter Try.func9, Try.ntmps9
  go_wp2
  go_ret2
  exact ⟨w.heap.size, rfl, Nat.le_refl _, ⟨hb, by simp, List.Pairwise.nil, by simp, by simp, .inl ⟨rfl, rfl, heap_alloc_new _ _⟩⟩, by repeat (first | exact Ext.refl' _ | assumption | apply Ext.ex' | apply Ext.al | apply Ext.drN | apply Ext.dr)⟩
set_option maxHeartbeats 4000000 in
theorem New_no (o : Int) (w : World) (h : o < 2 ∨ 64 < o) : Calls Try.prog 9 #[.int .i64 o] w fun e w' => e = .returned (.tuple #[.pointer none, .int .i64 6]) ∧ Ext w w' := by
  by_cases h1 : o < 2
  · clear h
    go_enter Try.func9, Try.ntmps9
    go_wp2
    go_ret2
    exact ⟨rfl, by repeat (first | exact Ext.refl' _ | assumption | apply Ext.ex' | apply Ext.al | apply Ext.drN | apply Ext.dr)⟩
  · have h2 : 64 < o := by omega
    clear h
    go_enter Try.func9, Try.ntmps9
    go_wp2
    go_ret2
    exact ⟨rfl, by repeat (first | exact Ext.refl' _ | assumption | apply Ext.ex' | apply Ext.al | apply Ext.drN | apply Ext.dr)⟩
set_option maxHeartbeats 4000000 in
theorem Len_any (base m tb : Nat) (l : List MP) (F : List Nat) (w : World) (hT : TreeIs base w tb m l F) : Calls Try.prog 15 #[pt tb] w fun e w' => e = .returned (.int .i64 l.length) ∧ Ext w w' := by
  have hc : ∃ c0, w.heap[tb]? = some (.cells #[c0, .int .i64 m, .int .i64 l.length] TT (0, 0)) := by
    rcases hT.root with ⟨h1, _, h2⟩ | ⟨d, t, h2, _⟩
    · subst h1; exact ⟨_, h2⟩
    · exact ⟨_, h2⟩
  obtain ⟨c0, h⟩ := hc
  obtain ⟨rb, k0, k1, k2, _, _, _⟩ := three_cells h
  clear hT h
  go_enter Try.func15, Try.ntmps15
  go_wp2
  go_ret
  exact ⟨rfl, by repeat (first | exact Ext.refl' _ | assumption | apply Ext.ex' | apply Ext.al | apply Ext.drN | apply Ext.dr)⟩
theorem flat_depth {m : Nat} (h2 : 1 ≤ m / 2) : ∀ {d lo hi : Nat} {t : MT}, Wf m d lo hi t → 1 ≤ lo → d + 1 ≤ (flat d t).length
  | 0, lo, hi, t, h, hl => by have := h.2.1; show 1 ≤ t.ps.length; omega
  | d + 1, lo, hi, t, h, hl => by
    obtain ⟨h1, h3, _, h4⟩ := h
    obtain ⟨k, hk⟩ : ∃ k, t.ks[0]? = some k := ⟨_, List.getElem?_eq_getElem (by omega)⟩
    have ih := flat_depth h2 (h4 k (List.mem_of_getElem? hk)) h2
    obtain ⟨x, hx⟩ : ∃ x, t.ps[0]? = some x := ⟨_, List.getElem?_eq_getElem (by omega)⟩
    have e : flat (d + 1) t = restAt t.ps (t.ks.map (flat d)) 0 := rfl
    rw [e, restAt_kid (k := flat d k) (x := x) (by rw [List.getElem?_map, hk]; rfl) hx (by simpa using h1)]
    simp only [List.length_append, List.length_cons]
    omega
set_option maxRecDepth 100000 in
set_option maxHeartbeats 8000000 in
theorem Depth_at (base m tb d : Nat) (x y : Value) (t : MT) (w : World) (hm : 2 ≤ m) (hm2 : m ≤ 64) (h0 : w.heap[tb]? = some (.cells #[pt t.r, x, y] TT (0, 0))) (hG : Good base w d t) (hW : Wf m d 1 m t) (hdl : d ≤ 1048576) : Calls Try.prog 16 #[pt tb] w fun e w' => e = .returned (.int .i64 ((d + 1 : Nat) : Int)) ∧ Ext w w' := by
  have HG := Lib.hid hG
  have HW := Lib.hid hW
  obtain ⟨rb, k0, k1, k2, _, _, _⟩ := three_cells h0
  clear h0 hG hW
  go_enter Try.func16, Try.ntmps16
  go_wp2
  go_loopg [3, 4] d (fun g x s wr => ∃ (t' : MT) (lo : Nat), x = .int .i64 ((d - g + 1 : Nat) : Int) ∧ g ≤ d ∧ s = pt t'.r ∧ Hid (Good base w g t') ∧ Hid (Wf m g lo m t') ∧ Ext w wr)
  case atStart => exact ⟨t, 1, by simp, Nat.le_refl _, rfl, HG, HW, Ext.refl' _⟩
  case round =>
    obtain ⟨t', lo, rfl, hg, rfl, HG', HW', hE⟩ := hrel
    have hnode := (HG'.out.ext hE).node
    have HE := Lib.hid hE
    cases gk with
    | zero =>
      have hks : t'.ks = [] := HW'.out.1
      obtain ⟨A2, da, hak, _, _, _⟩ := own_form2 hnode.ok
      have hp := hnode.hp
      rw [hak, hks] at hp
      obtain ⟨rt, t0, t1, _, _⟩ := two_cells hp
      clear hnode hp hak hks
      go_wp2
      go_ret
      exact ⟨by simp, HE.out.tr (by repeat (first | exact Ext.refl' _ | assumption | apply Ext.ex' | apply Ext.al | apply Ext.drN | apply Ext.dr))⟩
    | succ g =>
      obtain ⟨e1, e2, e3, e4⟩ := HW'.out
      obtain ⟨kb, c, hvk, hc, _⟩ := own_ne0 hnode.ok (by omega)
      obtain ⟨k, hk⟩ : ∃ k, t'.ks[0]? = some k := ⟨_, List.getElem?_eq_getElem (by omega)⟩
      have hkm := List.mem_of_getElem? hk
      have HGk : Hid (Good base w g k) := Lib.hid (HG'.out.2 k hkm)
      have HWk : Hid (Wf m g (m / 2) m k) := Lib.hid (e4 k hkm)
      have hop := hnode.ok
      obtain ⟨n, hn⟩ : ∃ n, t'.ks.length = n := ⟨_, rfl⟩
      rw [hvk, hn] at hop
      obtain ⟨hpb, q0⟩ := ownQ_at hop hk
      have hp := hnode.hp
      rw [hvk, hn] at hp
      obtain ⟨rt, t0, t1, _, _⟩ := two_cells hp
      have hnp : 0 < n := by omega
      have hnz : (0 : Int) < (n : Int) := by omega
      have hcast : ((d - (g + 1) + 1 : Nat) : Int) = (d : Int) - (g : Int) := by omega
      have hw1 : IntKind.i64.wrap ((d : Int) - (g : Int) + 1) = (d : Int) - (g : Int) + 1 := IntWalk.i64_in _ (by omega)
      rw [hcast]
      clear hnode hp hop hvk hn hk hc e1 e2 e3 e4 hkm hcast
      go_wp2
      go_roundg g
      case rel => exact ⟨k, m / 2, by first | rfl | (congr 1; omega) | (simp; omega), by omega, rfl, HGk, HWk, HE.out.tr (by repeat (first | exact Ext.refl' _ | assumption | apply Ext.ex' | apply Ext.al | apply Ext.drN | apply Ext.dr))⟩
      case measure => omega
set_option maxRecDepth 100000 in
set_option maxHeartbeats 8000000 in
theorem Depth_any (base m tb : Nat) (l : List MP) (F : List Nat) (w : World) (hm : 2 ≤ m) (hm2 : m ≤ 64) (hT : TreeIs base w tb m l F) : Calls Try.prog 16 #[pt tb] w fun e w' => ∃ D : Nat, e = .returned (.int .i64 D) ∧ ((l = [] ∧ D = 0) ∨ ∃ d t, w.heap[tb]? = some (.cells #[pt t.r, .int .i64 m, .int .i64 l.length] TT (0, 0)) ∧ D = d + 1 ∧ Good base w d t ∧ Wf m d 1 m t ∧ flat d t = l) ∧ Ext w w' := by
  rcases hT.root with ⟨h1, _, h0⟩ | ⟨d, t, h0, hG, _, hW, hfl, _⟩
  · obtain ⟨rb, k0, k1, k2, _, _, _⟩ := three_cells h0
    have H1 := Lib.hid h1
    clear hT h1 h0
    go_enter Try.func16, Try.ntmps16
    go_wp2
    go_ret
    exact ⟨0, rfl, .inl ⟨H1.out, rfl⟩, by repeat (first | exact Ext.refl' _ | assumption | apply Ext.ex' | apply Ext.al | apply Ext.drN | apply Ext.dr)⟩
  · have hd := flat_depth (m := m) (by omega) hW (Nat.le_refl _)
    have hdl : d ≤ 1048576 := by have := hT.len; rw [hfl] at hd; omega
    refine Calls.mono (Depth_at base m tb d _ _ t w hm hm2 h0 hG hW hdl) ?_
    rintro e w' ⟨rfl, hx⟩
    exact ⟨d + 1, rfl, .inr ⟨d, t, h0, rfl, hG, hW, hfl⟩, hx⟩

end Go.Proofs.Ytdmbgimehepfaaa
