/- Packed trees: Search, Visits, Stab, Bounds, Len, Depth of the program. -/
import Derived.Test.YtahmkinppighkaaTrH
set_option linter.unusedSimpArgs false
set_option linter.unusedVariables false
namespace Go.Proofs.Ytahmkinppighkaa
open Go.RowKit Go.Shelf

attribute [local go_sem] Oper.semAt_some


theorem TM.boxes {w : World} {t : Tr} {p : Nat} (h : TM w t p) : ∃ A c, p < w.heap.size ∧ w.cell? ⟨p, 4, none⟩ = some (.slice A t.bs.length c) ∧ t.bs.length ≤ 1048576 ∧ Rd w 5 A t.bs.length (bxl t.bs) := by
  cases t with
  | lf r bs =>
    rw [TM] at h
    obtain ⟨A, c, h0, h1, h2, h3, h4, h5, h6, h7, h8⟩ := h
    exact ⟨A, c, h0, h5, h7, h8⟩
  | nd r ks =>
    rw [TM] at h
    obtain ⟨A, c, ps, h0, h1, h2, h3, h4, h5, h6, h7, h8, h9⟩ := h
    exact ⟨none, 0, h0, h5, by simp [Tr.bs], Rd.nil⟩
theorem KpT.own {β : Type} {h B : Nat} {t1 t2 : TypeId} {w₀ : World} (hh : h ≤ w₀.heap.size) : OwnFrom h (fun (_ : β) W => KpT h B t1 t2 w₀ W) :=
  fun _ X Y row hs hg hr => hs.trans ⟨But.grown hg (fun r e => (hr r e).1) (Nat.le_trans hh hs.but.size), fun k c t f hk _ _ => nodes_kept hg (fun r e => (hr r e).2) hk⟩
theorem sum_le {α : Type} {f g : α → Nat} : ∀ {l : List α}, (∀ x ∈ l, f x ≤ g x) → (l.map f).sum ≤ (l.map g).sum
  | [], _ => by simp
  | x :: l, h => by
    have h1 := h x (by simp)
    have h2 := sum_le (l := l) (fun y hy => h y (by simp [hy]))
    simp; omega
theorem cell_one_at (W : World) (v : Value) (t : TypeId) {b : Nat} (hb : b = W.heap.size) : ∀ (j : Nat) (u : Value), [v][j]? = some u → (W.alloc (.cells #[v] t)).cell? ((⟨b, 0, none⟩ : Addr).add j) = some u := by
  subst hb; exact cell_one_new _ _ _
theorem own_len (q : Rct) {w : World} : ∀ pre : List (Nd w), ((pre.map (·.1.2)).flatMap (own q)).length ≤ pre.length * 1048576
  | [] => by simp
  | x :: l => by
    have h1 := own_len q l
    obtain ⟨A, c, _, _, hbl, _⟩ := x.2.boxes
    have h2 : (own q x.1.2).length ≤ x.1.2.bs.length := by unfold own; rw [List.length_map]; exact List.length_filter_le _ _
    simp only [List.map_cons, List.flatMap_cons, List.length_append, List.length_cons]
    omega
theorem own_take (q : Rct) (l : List Bxs) {k : Nat} (h : k < l.length) : ((l.take (k + 1)).filter fun b => ovlB b.1 q).map (·.2) = ((l.take k).filter fun b => ovlB b.1 q).map (·.2) ++ if ovlB l[k].1 q then [l[k].2] else [] := by
  rw [List.take_succ_eq_append_getElem h, List.filter_append, List.map_append]
  congr 1
  cases hv : ovlB l[k].1 q <;> simp [hv]


set_option maxRecDepth 100000 in
set_option maxHeartbeats 8000000 in
theorem search_any (q : Rct) (root : Option Tr) (a : Option Addr) (n d : Int) (w : World) (hT : TreeH w a root n d) (hN : ((exQ q root).flatMap (own q)).length ≤ 1048576) (hNN : (exQ q root).length ≤ 1048576) :
    Calls Try.prog 20 #[.pointer a, rx q] w (RdP 1 ((exQ q root).flatMap (own q)).length (ic (((exQ q root).flatMap (own q)).mergeSort fun x y => decide (x ≤ y))) w) := by
  obtain ⟨i0, hi, hz0, hz1, hz2⟩ := (elInt : El Try.prog 53 3 (.int .i64 0) 1 8).hi
  refine (callsIn_wide (n := 9)).1 ?_
  refine callsIn_of_wp_marks Try.func20 rfl trivial ?_ rfl
  simp only [Try.ntmps20, List.size_toArray, List.length_cons, List.length_nil, Nat.reduceAdd, Nat.reduceSub, Array.replicate_succ, Array.replicate_zero, List.push_toArray, List.append_toArray, List.nil_append, List.cons_append]
  gi_wp2_with (refine ⟨trivial, ?_⟩; gi_at_call 47; refine (callsIn_to (examined_any a q _)).mono ?_; rintro e w' ⟨rfl, rfl⟩)
  obtain ⟨W0, hW0⟩ : ∃ W0, (((w.alloc (.cells #[.int .i64 q.1.1, .int .i64 q.1.2, .int .i64 q.2.1, .int .i64 q.2.2] 43)).alloc (.cells #[.slice none 0 0] 53)).alloc (.cells #[.pointer a] 48)).alloc (.cells #[.int .i64 q.1.1, .int .i64 q.1.2, .int .i64 q.2.1, .int .i64 q.2.2] 43) = W0 := ⟨_, rfl⟩
  have hsz : W0.heap.size = w.heap.size + 4 := by rw [← hW0]; simp
  have hE0 : Ext w W0 := by rw [← hW0]; exact (by repeat (first | exact Ext.refl' _ | assumption | apply Ext.ex' | apply Ext.al | apply Ext.drN | apply Ext.dr))
  have b0 : W0.heap[w.heap.size]? = some (.cells #[.int .i64 q.1.1, .int .i64 q.1.2, .int .i64 q.2.1, .int .i64 q.2.2] 43) := by rw [← hW0]; exact ((show Ext (w.alloc (.cells #[.int .i64 q.1.1, .int .i64 q.1.2, .int .i64 q.2.1, .int .i64 q.2.2] 43)) _ from (by repeat (first | exact Ext.refl' _ | assumption | apply Ext.ex' | apply Ext.al | apply Ext.drN | apply Ext.dr))).block _ (by simp)).trans (World.alloc_heap_new w _)
  have bB : Boxed W0 (w.heap.size + 1) 53 (.slice none 0 0) := by
    rw [← hW0]
    have := Boxed.new (w.alloc (.cells #[.int .i64 q.1.1, .int .i64 q.1.2, .int .i64 q.2.1, .int .i64 q.2.2] 43)) 53 (.slice none 0 0)
    rw [World.size_alloc] at this
    exact (this.alloc _).alloc _
  have b2 : W0.heap[w.heap.size + 1 + 1]? = some (.cells #[.pointer a] 48) := by
    rw [← hW0]
    have := World.alloc_heap_new ((w.alloc (.cells #[.int .i64 q.1.1, .int .i64 q.1.2, .int .i64 q.2.1, .int .i64 q.2.2] 43)).alloc (.cells #[.slice none 0 0] 53)) (.cells #[.pointer a] 48)
    rw [World.size_alloc, World.size_alloc] at this
    exact ((Ext.al1 _ _).block _ (by simp)).trans this
  have b3 : W0.heap[w.heap.size + 1 + 1 + 1]? = some (.cells #[.int .i64 q.1.1, .int .i64 q.1.2, .int .i64 q.2.1, .int .i64 q.2.2] 43) := by
    rw [← hW0]
    have := World.alloc_heap_new (((w.alloc (.cells #[.int .i64 q.1.1, .int .i64 q.1.2, .int .i64 q.2.1, .int .i64 q.2.2] 43)).alloc (.cells #[.slice none 0 0] 53)).alloc (.cells #[.pointer a] 48)) (.cells #[.int .i64 q.1.1, .int .i64 q.1.2, .int .i64 q.2.1, .int .i64 q.2.2] 43)
    rw [World.size_alloc, World.size_alloc, World.size_alloc] at this
    exact this
  try rw [hW0]
  try simp only [World.size_alloc]
  clear hW0
  refine wpIn_rangeFunc_ownG (encs := fun x : Nd w => #[pt x.1.1]) (F := Fence.wide) (n := 9) (ps := #[12]) (w := W0) (Kp := KpT W0.heap.size (w.heap.size + 1) 3 53) rfl (by decide) (gf := 69) (lb := #[.pointer (some ⟨w.heap.size + 1 + 1, 0, none⟩), .pointer (some ⟨w.heap.size + 1 + 1 + 1, 0, none⟩)]) rfl trivial (enters_of Try.func69 (by kernel_rfl) rfl)
    (examined_stops q root a n d W0.heap.size (w.heap.size + 1) (w.heap.size + 1 + 1) (w.heap.size + 1 + 1 + 1) w W0 hT hE0 b2 b3 (by omega) (by omega)) KpT.trans (KpT.kb (Nat.le_refl _)) (Below.refl _ _) (fun _ => rfl)
    (fun (pre : List (Nd w)) W => ∃ v zs, zs = (pre.map (·.1.2)).flatMap (own q) ∧ Boxed W (w.heap.size + 1) 53 v ∧ W.ownsRow W0.heap.size 3 1 v zs.length (ic zs) ∧ KpT W0.heap.size (w.heap.size + 1) 3 53 W0 W)
    (fun _ _ _ => False)
    (fun pre W W' row ⟨v, zs, h0, h1, h2, h3⟩ hg hr => ⟨v, zs, h0, boxed_kept hg (fun r e => (hr r e).2) h1, row_kept hg (fun r e => (hr r e).2) h2, KpT.own (β := Unit) (Nat.le_refl _) () W W' row h3 hg hr⟩)
    (fun _ _ _ _ _ hs _ _ => hs)
    ⟨_, [], rfl, bB, World.ownsRow_nil _ _ _ _, KpT.refl _ _ _ _ _⟩
    (fun x => { tmps := #[.pointer a, rx q, undef, .pointer (some ⟨w.heap.size, 0, none⟩), .slice none 0 0, .pointer (some ⟨w.heap.size + 1, 0, none⟩), pt x.1.1, undef, undef, .pointer a, rx q, .func (.func 69) #[] #[.pointer (some ⟨w.heap.size + 1 + 1, 0, none⟩), .pointer (some ⟨w.heap.size + 1 + 1 + 1, 0, none⟩)], pt x.1.1, undef, undef, undef, undef, undef, undef, undef, undef, undef, undef, undef, undef, undef, undef, undef, undef, undef, undef, undef, undef, undef, undef], defers := [] }) ?assign ?body ?done ?stop
  case assign =>
    intro l x W K hK
    first | (refine wpIn_skip ?_; simp [Exit.then]; exact hK) | (gi_wp2; exact hK)
  case body =>
    rintro l pre x W ⟨v, zs0, hz, hv, hrow, hk⟩ hlt
    have hEw : Ext w W := hE0.trans (hk.but.below (by omega) (by omega))
    have hWsz := hk.but.size
    obtain ⟨A, c, hp, c4, hbl, hRb⟩ := x.2.boxes
    have c4 := hEw.cell' c4
    have hp : x.1.1 < W.heap.size := Nat.lt_of_lt_of_le hp hEw.size
    have hpre : zs0.length ≤ 1099511627776 := by
      rw [hz]
      have h1 := own_len q pre
      have h2 : pre.length * 1048576 ≤ 1048576 * 1048576 := Nat.mul_le_mul_right _ (by omega)
      omega
    have HZ : Hid ((zs0 ++ own q x.1.2) = ((pre ++ [x]).map (·.1.2)).flatMap (own q)) := Lib.hid (by rw [hz]; simp)
    have HOW : Hid (own q x.1.2 = (x.1.2.bs.filter fun b => ovlB b.1 q).map (·.2)) := Lib.hid rfl
    clear hz
    generalize x.1.2.bs = bs at c4 hbl hRb HOW
    generalize x.1.1 = p at hp c4 ⊢
    gi_wp2
    gi_loopw [18] (fun i wr => ∃ (k : Nat) (v : Value) (zs : List Int), i = .int .i64 k ∧ k ≤ bs.length ∧ zs = zs0 ++ ((bs.take k).filter fun b => ovlB b.1 q).map (·.2) ∧ Boxed wr (w.heap.size + 1) 53 v ∧ wr.ownsRow W0.heap.size 3 1 v zs.length (ic zs) ∧ KeepsOthers W wr ∧ KpT W0.heap.size (w.heap.size + 1) 3 53 W wr) (fun i _ => bs.length - (intOf i).toNat)
    case atStart => exact ⟨0, v, zs0, rfl, Nat.zero_le _, by simp, hv, hrow, KeepsOthers.refl _, KpT.refl _ _ _ _ _⟩
    case round =>
      obtain ⟨k, v2, zs, rfl, hkl, hzs, hv2, hrow2, hko, hk2⟩ := hrel
      have hEr : Ext w wr := hEw.trans (hk2.but.below (by omega) (by omega))
      have hrs := hk2.but.size
      by_cases hlt2 : k < bs.length
      · obtain ⟨b, o, rfl, hbw, e0, e1, e2, e3, e4⟩ := (hRb.ext hEr).box rfl hlt2
        obtain ⟨hrb, r0, r1, r2, r3⟩ := rect_cells (q := q) (hk2.blk _ _ _ _ (hk.blk _ _ _ _ b0 (by decide) (by decide)) (by decide) (by decide))
        have HOT := Lib.hid (own_take q bs hlt2)
        have hlz : zs.length ≤ 1099511627776 + 1048576 := by
          rw [hzs, List.length_append, List.length_map]
          have h1 := List.length_filter_le (fun b : Bxs => ovlB b.1 q) (bs.take k)
          have h2 := List.length_take_le k bs
          omega
        have HZS := Lib.hid hzs
        clear hzs
        generalize bs[k] = bb at e0 e1 e2 e3 e4 HOT
        obtain ⟨br, bi⟩ := bb
        simp only at e0 e1 e2 e3 e4
        have HOV := Lib.hid (fun w => overlapsX_any br q w)
        have hc2 := hv2.cell
        have hf2 := hv2.frozen
        have hB2 := hv2.lt
        rcases hov : ovlB br q with _ | _
        · rw [hov] at HOV
          have HOU : Hid (((bs.take (k + 1)).filter fun b => ovlB b.1 q).map (·.2) = ((bs.take k).filter fun b => ovlB b.1 q).map (·.2)) := Lib.hid (by rw [HOT.out]; simp [hov])
          clear hov HOT
          gi_wp2_with (refine ⟨trivial, ?_⟩; gi_at_call 48; refine (callsRound (HOV.out _)).mono ?_; rintro e w1 ⟨rfl, hb1⟩; obtain ⟨x1, rfl⟩ := hb1.get; clear hb1)
          go_roundw
          case rel => exact ⟨k + 1, v2, zs, by go_num, by omega, by rw [HOU.out]; exact HZS.out, boxed_ext hv2 (by repeat (first | exact Ext.refl' _ | assumption | apply Ext.ex' | apply Ext.al | apply Ext.drN | apply Ext.dr)), ownsRow_ext hrow2 (by repeat (first | exact Ext.refl' _ | assumption | apply Ext.ex' | apply Ext.al | apply Ext.drN | apply Ext.dr)), hko.trans (keepsOthers_ext (by repeat (first | exact Ext.refl' _ | assumption | apply Ext.ex' | apply Ext.al | apply Ext.drN | apply Ext.dr))), hk2.trans (KpT.ofExt (by repeat (first | exact Ext.refl' _ | assumption | apply Ext.ex' | apply Ext.al | apply Ext.drN | apply Ext.dr)) (by omega))⟩
          case measure => simp [intOf]; omega
        · rw [hov] at HOV
          have HOU : Hid (((bs.take (k + 1)).filter fun b => ovlB b.1 q).map (·.2) = ((bs.take k).filter fun b => ovlB b.1 q).map (·.2) ++ [bi]) := Lib.hid (by rw [HOT.out]; simp [hov])
          clear hov HOT
          gi_wp2_with (first | (refine ⟨trivial, ?_⟩; gi_at_call 48; refine (callsRound (HOV.out _)).mono ?_; rintro e w1 ⟨rfl, hb1⟩; obtain ⟨x1, rfl⟩ := hb1.get; clear hb1) | (gi_at_builtin; refine wpListIn_append_own _ rfl _ _ 53 rfl W0.heap.size 3 i0 (.int .i64 0) 1 8 Try.underlying53 hi hz0 hz1 hz2 rfl (by decide) _ _ _ rfl (World.ownsRow.alloc (ownsRow_ext hrow2 (by repeat (first | exact Ext.refl' _ | assumption | apply Ext.ex' | apply Ext.al | apply Ext.drN | apply Ext.dr))) _) ⟨wr.heap.size + 1 + x1.n, 0, none⟩ 1 1 [.int .i64 bi] rfl rfl (cell_one_at _ _ _ (by simp [size_ext])) (by simp [Value.oneCell']) (by unfold maxLen; omega) (by omega) (by simp; omega) ?_; intro v' w1 hown' hgrow _; obtain ⟨g', cap', rfl⟩ := ownsRow_succ hown'; obtain ⟨hv1, hv3, hr3, hk3, hb3, hno3⟩ := boxed_app (boxed_ext hv2 (by repeat (first | exact Ext.refl' _ | assumption | apply Ext.ex' | apply Ext.al | apply Ext.drN | apply Ext.dr))) (by decide) (ownsRow_ext hrow2 (by repeat (first | exact Ext.refl' _ | assumption | apply Ext.ex' | apply Ext.al | apply Ext.drN | apply Ext.dr))) (by simp; omega) hown' hgrow; have hc1 := hv1.cell; have hf1 := hv1.frozen))
          go_roundw
          case rel => exact ⟨k + 1, _, zs ++ [bi], by go_num, by omega, by rw [HOU.out, ← List.append_assoc, ← HZS.out], hv3, by simpa [ic] using hr3, (hko.trans (keepsOthers_ext (show Ext wr (ext (wr.alloc (.cells #[.int .i64 br.1.1, .int .i64 br.1.2, .int .i64 br.2.1, .int .i64 br.2.2, .int .i64 bi] 52)) x1) from (by repeat (first | exact Ext.refl' _ | assumption | apply Ext.ex' | apply Ext.al | apply Ext.drN | apply Ext.dr))))).trans hk3, hk2.trans ((KpT.ofExt (show Ext wr (ext (wr.alloc (.cells #[.int .i64 br.1.1, .int .i64 br.1.2, .int .i64 br.2.1, .int .i64 br.2.2, .int .i64 bi] 52)) x1) from (by repeat (first | exact Ext.refl' _ | assumption | apply Ext.ex' | apply Ext.al | apply Ext.drN | apply Ext.dr))) (by omega)).trans ⟨hb3, hno3⟩)⟩
          case measure => simp [intOf]; omega
      · have HK := Lib.hid (show k = bs.length by omega)
        gi_wp2
        refine ⟨hko.from _, hk2, v2, zs, ?_, hv2, hrow2, hk.trans hk2⟩
        rw [← HZ.out, HOW.out, hzs, HK.out, List.take_length]
  case done =>
    rintro D xs W hD hS ⟨v, zs, hz, hv, hrow, hk⟩ hK
    have HZ : Hid (zs = (exQ q root).flatMap (own q)) := Lib.hid (by rw [hz, hS])
    clear hz hS
    have hc := hv.cell
    have hEw : Ext w W := hE0.trans (hk.but.below (by omega) (by omega))
    obtain ⟨A, c, rfl, hcap⟩ := row_form hrow
    have hzl : zs.length ≤ 1048576 := by rw [HZ.out]; exact hN
    gi_wp2_with (refine ⟨trivial, ?_⟩; gi_at_call 45; refine (callsIn_to (sortI2 W W0.heap.size A c zs hrow (by omega))).mono ?_; rintro e w2 ⟨rfl, hr2, hg2⟩; have hv2 := hv.kept hg2 (hv.not_row (by decide) hrow); have hc2 := hv2.cell)
    have hK2 : w2.heap[D]? = some (.deferred (some [])) := by
      refine (hg2.block D (Array.getElem?_eq_some_iff.1 hK).1 (fun er => ?_)).trans hK
      obtain ⟨_, _, c', f', hc'⟩ := row_block hrow er.symm
      rw [hK] at hc'; cases hc'
    refine ⟨by simp, .inl ⟨_, _, rfl, run_takeDeferred hK2, ?_⟩⟩
    refine ⟨_, results_tmp rfl _ _ _, A, c, by rw [← HZ.out]; rfl, ?_, ?_⟩
    · have h1 : Ext w w2 := hEw.trans (Below.grown (Below.refl _ _) hg2 hEw.size (fun r er => Nat.le_trans (by omega) (row_block hrow er).1))
      exact h1.trans ((But.kb (B := W0.heap.size) (Nat.le_refl W0.heap.size) w2 D _ _ (by omega) hK2 rfl rfl).below (by omega) (by omega))
    · rw [← HZ.out]
      exact Rd.of_own (ownsRow_putObj hr2 (.deferred none) hK2 rfl)
  case stop =>
    rintro D c pre W _ _ h _
    exact h.elim

end Go.Proofs.Ytahmkinppighkaa
