/- The regions of a map collected; Merge. -/
import Derived.Test.YtpifjhoelnacgaaGreatCfI
set_option linter.unusedSimpArgs false
set_option linter.unusedVariables false
namespace Go.Proofs.YtpifjhoelnacgaaGreat
open Go.RowKit Go.Maps Go.Shelf

attribute [local go_sem] Oper.semAt_some


theorem kpt_own {β : Type} {h B : Nat} {t1 t2 : TypeId} {w₀ : World} (hh : h ≤ w₀.heap.size) : OwnFrom h (fun (_ : β) W => KpT h B t1 t2 w₀ W) :=
  fun _ X Y row hs hg hr => hs.trans ⟨But.grown hg (fun r e => (hr r e).1) (Nat.le_trans hh hs.but.size), fun k c t f hk _ _ => nodes_kept hg (fun r e => (hr r e).2) hk⟩
theorem cells3 (W : World) (u0 u1 u2 : Value) (t : TypeId) {b : Nat} (hb : b = W.heap.size) : ∀ (j : Nat) (u : Value), [u0, u1, u2][j]? = some u → (W.alloc (.cells #[u0, u1, u2] t)).cell? ((⟨b, 0, none⟩ : Addr).add j) = some u := by
  subst hb
  intro j u hu
  rcases j with _ | _ | _ | j
  · simp at hu; subst hu; simp [go_sem]
  · simp at hu; subst hu; simp [go_sem]
  · simp at hu; subst hu; simp [go_sem]
  · simp at hu
theorem acc_cells {w : World} {b : Nat} {x : Acc} (h : w.heap[b]? = some (.cells #[.string x.1, .int .i64 x.2.1, .int .i64 x.2.2] 32)) : b < w.heap.size ∧ w.cell? ⟨b, 0, none⟩ = some (.string x.1) ∧ w.cell? ⟨b, 1, none⟩ = some (.int .i64 x.2.1) ∧ w.cell? ⟨b, 2, none⟩ = some (.int .i64 x.2.2) := by
  refine ⟨(Array.getElem?_eq_some_iff.1 h).1, ?_, ?_, ?_⟩ <;> simp [World.cell?, h]
theorem regions_stops (m h B bm b N : Nat) (F : List UInt8 → List (Int × Int)) (ks : List (List UInt8)) (w0 : World) (hM : MapR w0 b N F) (hbm : w0.cell? ⟨bm, 0, none⟩ = some (.map (some b))) (hN : N ≤ 1048576) (hk : ks.Pairwise (· < ·)) (hm : ∀ t, t ∈ ks ↔ F t ≠ []) (hF : ∀ t, (F t).length ≤ 549755813888)
    (hh0 : w0.heap.size ≤ h) (hB0 : w0.heap.size ≤ B) : SeqStopsK Fence.wide (m + 1) Tryz.prog 46 #[.pointer (some ⟨bm, 0, none⟩)] (fun x : Acc => #[acg x]) (KpT h B 32 26) (fun xs => xs = regL F ks) (fun pre => pre <+: regL F ks) (regL F ks).length w0 :=
  fun l J Jx W hW hJ _ hY h0 => regions1_in m l h B bm b N F ks w0 hM hbm hN hk hm hF hh0 hB0 J Jx (fun pre A A' hj hg => hJ pre A A' none hj hg (fun r e => by cases e)) (fun pre x A hj hl => yieldAnyDepth m (hY pre x A hj hl)) W hW h0
set_option maxRecDepth 100000 in
set_option maxHeartbeats 8000000 in
theorem appendSeq_any (bm b N : Nat) (F : List UInt8 → List (Int × Int)) (ks : List (List UInt8)) (w : World) (hM : MapR w b N F) (hbm : w.cell? ⟨bm, 0, none⟩ = some (.map (some b))) (hN : N ≤ 1048576) (hk : ks.Pairwise (· < ·)) (hm : ∀ t, t ∈ ks ↔ F t ≠ []) (hF : ∀ t, (F t).length ≤ 549755813888) (hRL : (regL F ks).length ≤ 1048576) :
    Calls Tryz.prog 49 #[.slice none 0 0, .func (.func 46) #[] #[.pointer (some ⟨bm, 0, none⟩)]] w fun e w' => ∃ A c, e = .returned (.slice A (regL F ks).length c) ∧ Ext w w' ∧ Rd w' 3 A (regL F ks).length (acl (regL F ks)) := by
  obtain ⟨i0, hi, hz0, hz1, hz2⟩ := (elAcc : El Tryz.prog 26 32 (.agg #[.string ⟨#[]⟩, .int .i64 0, .int .i64 0]) 3 32).hi
  refine (callsIn_wide (n := 9)).1 ?_
  refine callsIn_of_wp_marks Tryz.func49 rfl trivial ?_ rfl
  simp only [Tryz.ntmps49, List.size_toArray, List.length_cons, List.length_nil, Nat.reduceAdd, Nat.reduceSub, Array.replicate_succ, Array.replicate_zero, List.push_toArray, List.append_toArray, List.nil_append, List.cons_append]
  gi_wp2
  obtain ⟨W0, hW0⟩ : ∃ W0, w.alloc (.cells #[.slice none 0 0] 26) = W0 := ⟨_, rfl⟩
  have hsz : W0.heap.size = w.heap.size + 1 := by rw [← hW0]; simp
  have hE0 : Ext w W0 := by rw [← hW0]; exact (by repeat (first | exact Ext.refl' _ | assumption | apply Ext.ex' | apply Ext.al | apply Ext.drN | apply Ext.dr))
  have bB : Boxed W0 w.heap.size 26 (.slice none 0 0) := by rw [← hW0]; exact Boxed.new w 26 (.slice none 0 0)
  try rw [hW0]
  clear hW0
  refine wpIn_rangeFunc_ownH (encs := fun x : Acc => #[acg x]) (F := Fence.wide) (n := 9) (ps := #[7]) (w := W0) (Kp := (KpT W0.heap.size w.heap.size 32 26)) rfl (by decide) (gf := 46) (lb := #[.pointer (some ⟨bm, 0, none⟩)]) rfl trivial (enters_of Tryz.func46 (by kernel_rfl) rfl)
    (regions_stops 7 W0.heap.size w.heap.size bm b N F ks w hM hbm hN hk hm hF (by omega) (Nat.le_refl _)) KpT.trans (KpT.kb (Nat.le_refl _)) hE0 (fun _ => rfl)
    (fun (pre : List Acc) W => ∃ v, Boxed W w.heap.size 26 v ∧ W.ownsRow W0.heap.size 32 3 v pre.length (acl pre) ∧ KpT W0.heap.size w.heap.size 32 26 W0 W)
    (fun _ _ _ => False)
    (fun pre W W' row ⟨v, h1, h2, h3⟩ hg hr => ⟨v, boxed_kept hg (fun r e => (hr r e).2) h1, row_kept hg (fun r e => (hr r e).2) h2, kpt_own (β := Unit) (Nat.le_refl _) () W W' row h3 hg hr⟩)
    (fun _ _ _ _ _ hs _ _ => hs)
    ⟨_, bB, World.ownsRow_nil _ _ _ _, KpT.refl _ _ _ _ _⟩
    (fun x a' W => ∃ bx, a' = { tmps := #[.slice none 0 0, .func (.func 46) #[] #[.pointer (some ⟨bm, 0, none⟩)], .pointer (some ⟨w.heap.size, 0, none⟩), undef, .slice none 0 0, .pointer (some ⟨bx, 0, none⟩), .func (.func 46) #[] #[.pointer (some ⟨bm, 0, none⟩)], acg x, undef, undef, undef, undef, undef], defers := [] } ∧ W.heap[bx]? = some (.cells #[.string x.1, .int .i64 x.2.1, .int .i64 x.2.2] 32))
    (fun x a' _ X Y row ⟨bx, h1, h2⟩ hg hr => ⟨bx, h1, nodes_kept hg (fun r e => (hr r e).2) h2⟩) ?assign ?body ?done ?stop
  case assign =>
    rintro l pre x W K ⟨v, h1, h2, h3⟩ hK
    gi_wp2
    have hEW : Ext W (W.alloc (.cells #[.string x.1, .int .i64 x.2.1, .int .i64 x.2.2] 32)) := (by repeat (first | exact Ext.refl' _ | assumption | apply Ext.ex' | apply Ext.al | apply Ext.drN | apply Ext.dr))
    have hWs := h3.but.size
    refine hK _ _ ((keepsOthers_ext hEW).from _) (KpT.ofExt hEW hWs) ⟨v, boxed_ext h1 hEW, ownsRow_ext h2 hEW, h3.trans (KpT.ofExt hEW hWs)⟩ ⟨_, rfl, World.alloc_heap_new _ _⟩
  case body =>
    rintro l pre x a' W hl _ ⟨v, hv, hrow, hk⟩ ⟨bx, rfl, hbx⟩ hlt
    obtain ⟨hbs, c0, c1, c2⟩ := acc_cells hbx
    have hWs := hk.but.size
    have hc := hv.cell
    have hf := hv.frozen
    have hB := hv.lt
    have hpl : pre.length ≤ 1048576 := by omega
    clear hbx
    gi_wp2_with (gi_at_builtin; refine wpListIn_append_own _ rfl _ _ 26 rfl W0.heap.size 32 i0 (.agg #[.string ⟨#[]⟩, .int .i64 0, .int .i64 0]) 3 32 Tryz.underlying26 hi hz0 hz1 hz2 rfl (by decide) _ _ _ rfl (World.ownsRow.alloc hrow _) ⟨W.heap.size, 0, none⟩ 1 1 (ac x) rfl rfl (cells3 _ _ _ _ _ rfl) (by have := oneCell_acl [x]; rwa [acl_one] at this) (by unfold maxLen; omega) (by omega) (by simp; omega) ?_; intro v' w1 hown' hgrow _; obtain ⟨g', cap', rfl⟩ := ownsRow_succ hown'; obtain ⟨hv1, hv3, hr3, hk3, hb3, hno3⟩ := boxed_app hv (by decide) hrow (by omega) hown' hgrow; have hc1 := hv1.cell; have hf1 := hv1.frozen)
    refine ⟨hk3.from _, ⟨hb3, hno3⟩, _, hv3, ?_, hk.trans ⟨hb3, hno3⟩⟩
    rw [List.length_append, List.length_singleton, acl_append, acl_one]
    exact hr3
  case done =>
    rintro D xs W hD hS ⟨v, hv, hrow, hk⟩ hK
    have HS := Lib.hid hS
    clear hS
    have hc := hv.cell
    have hf := hv.frozen
    obtain ⟨A, c, rfl, hcap⟩ := row_formG hrow
    have hWs := hk.but.size
    gi_wp2
    refine ⟨by simp, .inl ⟨_, _, rfl, run_takeDeferred hK, ?_⟩⟩
    refine ⟨_, results_tmp rfl _ _ _, A, c, by rw [← HS.out]; rfl, ?_, ?_⟩
    · exact (hE0.trans (hk.but.below (by omega) (by omega))).trans ((But.kb (B := W0.heap.size) (Nat.le_refl W0.heap.size) W D _ _ (by omega) hK rfl rfl).below (by omega) (by omega))
    · rw [← HS.out]
      exact Rd.of_own (ownsRow_putObj hrow (.deferred none) hK rfl)
  case stop =>
    rintro D c pre W _ _ h _
    exact h.elim

end Go.Proofs.YtpifjhoelnacgaaGreat
