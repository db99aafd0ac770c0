/- Lemmas for the rows: TrH TrI TrJ TrK TrQ TrS TrT TrKn TrYp. -/
import Derived.Test.YtdiaecgpjgdkdaaGreatThS37
import Derived.Test.YtdiaecgpjgdkdaaGreatThS35
import Derived.Maps.Own
import Derived.Maps.Views
import Derived.Test.YtdiaecgpjgdkdaaGreatThS33
import Derived.Deep.QuietTactic
import Derived.Test.YtdiaecgpjgdkdaaGreatThS34
import Derived.IntWalk
set_option linter.unusedSimpArgs false
set_option linter.unusedVariables false
namespace Go.Proofs.YtdiaecgpjgdkdaaGreat
open Go.RowKit Go.Shelf Go.Sort

attribute [local go_sem] Oper.semAt_some

theorem own_sorted2 {w : World} {base e size g cap n : Nat} {xs : List Value} (h : w.ownsRow base e size (.slice (some ⟨g, 0, none⟩) n cap) n xs) (F : Array Value) (hF : F.size = n * size) (m : Nat) (os : Array Obj) :
  (grow (putRow id (Go.Sort.ahead w m) g 0 F) os).ownsRow base e size (.slice (some ⟨g, 0, none⟩) n cap) n F.toList ∧ w.grownBy (grow (putRow id (Go.Sort.ahead w m) g 0 F) os) (some g) := by
 have hlt := h.lt g rfl
 have h2 : (putRow id (Go.Sort.ahead w m) g 0 F).ownsRow base e size (.slice (some ⟨g, 0, none⟩) n cap) n F.toList := own_putRow (w := Go.Sort.ahead w m) h F hF
 refine ⟨⟨h2.1, ?_⟩, rfl, rfl, rfl, ?_, fun k hk hne => ?_⟩
 ·
  rcases h2.2 with h3 | ⟨g', cap', cur, hv, hb, hg, r⟩
  ·
   exact .inl h3
  ·
   refine .inr ⟨g', cap', cur, hv, hb, ?_, r⟩
   show ((putRow id (Go.Sort.ahead w m) g 0 F).heap ++ os)[g']? = _
   rw [Array.getElem?_append_left (Array.getElem?_eq_some_iff.1 hg).1]
   exact hg
 ·
  simp [putRow, mapBlock, Go.Sort.ahead]
 ·
  have h1 : (grow (putRow id (Go.Sort.ahead w m) g 0 F) os).heap[k]? = (putRow id (Go.Sort.ahead w m) g 0 F).heap[k]? := by
   show ((putRow id (Go.Sort.ahead w m) g 0 F).heap ++ os)[k]? = _
   rw [Array.getElem?_append_left]
   simp [putRow, mapBlock, Go.Sort.ahead]; omega
  rw [h1]
  simp only [putRow, mapBlock, Go.Sort.ahead, Array.getElem?_modify]
  rw [if_neg (fun e => hne (by rw [e]))]
theorem sortI2 (W : World) (base : Nat) (A : Option Addr) (cap : Nat) (zs : List Int) (ho : W.ownsRow base 3 1 (.slice A zs.length cap) zs.length (ic zs)) (hl : zs.length < 4611686018427387904) :
  Calls Tryz.prog 14 #[.slice A zs.length cap] W fun e w' => e = .returned (.tuple #[]) ∧ w'.ownsRow base 3 1 (.slice A zs.length cap) zs.length (ic (zs.mergeSort fun x y => decide (x ≤ y))) ∧ W.grownBy w' (Value.slice A zs.length cap).ownBlock := by
 rcases Nat.eq_zero_or_pos zs.length with h0 | h0
 ·
  obtain rfl : zs = [] := List.eq_nil_of_length_eq_zero h0
  have h := Any.slices_Sort_int_none Tryz.lays189 A cap W
  change Calls Tryz.prog 14 _ _ _ at h
  refine h.mono ?_
  rintro e w' ⟨rfl, rfl⟩
  exact ⟨rfl, by simpa using ho, World.grownBy.refl _ _⟩
 ·
  obtain ⟨A', c', hv, _⟩ := row_form ho
  rcases ho.2 with ⟨hv, hn⟩ | ⟨g, cap', cur, hv, hb, hg, _⟩
  ·
   omega
  ·
   simp only [Value.slice.injEq, true_and] at hv
   obtain ⟨rfl, rfl⟩ := hv
   have h := Any.slices_Sort_int Tryz.lays189 g 0 cap zs W (holds_ints (holds_own ho _ (by simp))) (ho.lt g rfl).2 hl
   change Calls Tryz.prog 14 _ _ _ at h
   refine h.mono ?_
   rintro e w' ⟨rfl, m, os, rfl⟩
   refine ⟨rfl, ?_⟩
   rw [putRow_id]
   have hlen : (zs.mergeSort fun x y => decide (x ≤ y)).length = zs.length := List.length_mergeSort _
   have := own_sorted2 ho ((zs.mergeSort fun x y => decide (x ≤ y)).toArray.map (Value.int .i64)) (by simp [hlen]) m os
   exact ⟨by simpa [ic] using this.1, this.2⟩
instance : Inhabited Bxs := ⟨((0, 0), (0, 0)), 0⟩
theorem sortX (W : World) (x : Add) (A : Option Addr) (cap : Nat) (L0 : List Bxs) (ho : Own W x 84 5 (.slice A L0.length cap) L0.length (bxl L0)) (hl : L0.length < 4611686018427387904) :
  Calls Tryz.prog 56 #[.slice A L0.length cap, .func (.func 57) #[] #[]] (ext W x) fun e w' => e = .returned (.tuple #[]) ∧ ∃ x' L, w' = ext W x' ∧ L.Perm L0 ∧ L.Pairwise (fun a b => ltB b a = false) ∧ Own W x' 84 5 (.slice A L0.length cap) L0.length (bxl L) := by
 rcases Nat.eq_zero_or_pos L0.length with h0 | h0
 ·
  obtain rfl : L0 = [] := List.eq_nil_of_length_eq_zero h0
  have h := AnyF.slices_SortFunc_none Tryz.laysSE A cap (.func (.func 57) #[] #[]) (ext W x)
  change Calls Tryz.prog 56 _ _ _ at h
  refine h.mono ?_
  rintro e w' ⟨rfl, rfl⟩
  exact ⟨rfl, x, [], rfl, List.Perm.refl _, List.Pairwise.nil, ho⟩
 ·
  obtain ⟨g, rfl, _⟩ := Own.at ho h0
  have hF := flatK_toList encX 5 (fun _ => rfl) L0.toArray
  have hH : HoldsK encX 5 (ext W x) g 0 L0.toArray := holds_own ho _ (by rw [hF]; rfl)
  have eg : ∀ args w, (callFunc 57 args).run Tryz.prog w = .ok (.enter 57 args) w := enters_of Tryz.func57 (by kernel_rfl) rfl
  have h := AnyQ.slices_SortFunc Tryz.laysSE 5 Tryz.isAgg84 Tryz.sizeOf84 encX (fun _ => rfl) (fun e v hv => by simp [encX] at hv; rcases hv with rfl | rfl | rfl | rfl | rfl <;> rfl) cfX swoX 57 #[] g 0 cap L0.toArray (ext W x) eg (cmpX_lays g 0 L0.toArray.size (ext W x)) hH (ho.lt g rfl).2 (by simpa using hl)
  change Calls Tryz.prog 56 _ _ _ at h
  refine h.mono ?_
  rintro e w' ⟨rfl, d', m, os, hp, hs, rfl⟩
  refine ⟨rfl, ?_⟩
  have hsz : d'.size = L0.toArray.size := hp.1
  obtain ⟨x', hx', ho'⟩ := own_sorted ho (flatK encX 5 d') (by rw [size_flatK, hsz]; simp) m os
  refine ⟨x', d'.toList, hx', ?_, ?_, ?_⟩
  ·
   have h1 := hp.2.2
   rw [Array.extract_eq_self_of_le (by omega), Array.extract_eq_self_of_le (Nat.le_refl _)] at h1
   simpa using h1
  ·
   rw [List.pairwise_iff_getElem]
   intro i j hi hj hij
   have := hs i j (Nat.zero_le _) hij (by rw [← hsz]; simpa using hj)
   have hi' : i < d'.size := by simpa using hi
   have hj' : j < d'.size := by simpa using hj
   rw [getElem!_pos d' i hi', getElem!_pos d' j hj', ltOf, cfX_neg] at this
   simpa using this
  ·
   rw [flatK_toList encX 5 (fun _ => rfl) d'] at ho'
   exact ho'
theorem cloneX (b o n c : Nat) (L : List Bxs) (w : World) (hL : n = L.length) (hR : Rd w 5 (some ⟨b, o, none⟩) n (bxl L)) (hn : n ≤ 1048576) (h0 : 0 < n) :
  Calls Tryz.prog 55 #[.slice (some ⟨b, o, none⟩) n c] w fun e w' => ∃ v x, e = .returned v ∧ w' = ext w x ∧ Own w x 84 5 v n (bxl L) := by
 obtain ⟨i0, hi, hz0, hz1, hz2⟩ := (elBox : El Tryz.prog 79 84 (.agg #[.int .i64 0, .int .i64 0, .int .i64 0, .int .i64 0, .int .i64 0]) 5 40).hi
 have h := AnyE.slices_Clone Tryz.laysClone i0 (.agg #[.int .i64 0, .int .i64 0, .int .i64 0, .int .i64 0, .int .i64 0]) 5 40 hi hz0 hz1 hz2 rfl (by decide) Tryz.sizeOf84 b o n c (bxl L) w hR.1 (by unfold maxLen; omega) (by omega) (fun j u hu => by
  obtain ⟨b', o', hA, _, hc⟩ := hR.2 (by omega)
  simp only [Option.some.injEq, Addr.mk.injEq, and_true] at hA
  obtain ⟨rfl, rfl⟩ := hA
  exact hc j u hu) (oneCell_bxl L)
 change Calls Tryz.prog 55 _ _ _ at h
 refine h.mono ?_
 rintro e w' ⟨v, rfl, ho, _, hb⟩
 obtain ⟨x, rfl⟩ := Ext.get hb
 exact ⟨v, x, rfl, rfl, ho⟩

end Go.Proofs.YtdiaecgpjgdkdaaGreat

namespace Go.Proofs.YtdiaecgpjgdkdaaGreat
open Go.RowKit Go.Shelf

attribute [local go_sem] Oper.semAt_some

theorem TM.boxes {w : World} {t : Tr} {p : Nat} (h : TM w t p) : ∃ A c, p < w.heap.size ∧ w.cell? ⟨p, 4, none⟩ = some (.slice A t.bs.length c) ∧ t.bs.length ≤ 1048576 ∧ Rd w 5 A t.bs.length (bxl t.bs) := by
 cases t with
 | lf r bs =>
  rw [TM] at h
  obtain ⟨A, c, h0, h1, h2, h3, h4, h5, h6, h7, h8⟩ := h
  exact ⟨A, c, h0, h5, h7, h8⟩
 | nd r ks =>
  rw [TM] at h
  obtain ⟨A, c, ps, h0, h1, h2, h3, h4, h5, h6, h7, h8, h9⟩ := h
  exact ⟨none, 0, h0, h5, by simp [Tr.bs], Rd.nil⟩
theorem KpT.own {β : Type} {h B : Nat} {t1 t2 : TypeId} {w₀ : World} (hh : h ≤ w₀.heap.size) : OwnFrom h (fun (_ : β) W => KpT h B t1 t2 w₀ W) :=
 fun _ X Y row hs hg hr => hs.trans ⟨But.grown hg (fun r e => (hr r e).1) (Nat.le_trans hh hs.but.size), fun k c t f hk _ _ => nodes_kept hg (fun r e => (hr r e).2) hk⟩
theorem cell_one_at (W : World) (v : Value) (t : TypeId) {b : Nat} (hb : b = W.heap.size) : ∀ (j : Nat) (u : Value), [v][j]? = some u → (W.alloc (.cells #[v] t)).cell? ((⟨b, 0, none⟩ : Addr).add j) = some u := by
 subst hb; exact cell_one_new _ _ _
theorem own_len (q : Rct) {w : World} : ∀ pre : List (Nd w), ((pre.map (·.1.2)).flatMap (own q)).length ≤ pre.length * 1048576
 | [] => by simp
 | x :: l => by
  have h1 := own_len q l
  obtain ⟨A, c, _, _, hbl, _⟩ := x.2.boxes
  have h2 : (own q x.1.2).length ≤ x.1.2.bs.length := by unfold own; rw [List.length_map]; exact List.length_filter_le _ _
  simp only [List.map_cons, List.flatMap_cons, List.length_append, List.length_cons]
  omega
theorem own_take (q : Rct) (l : List Bxs) {k : Nat} (h : k < l.length) : ((l.take (k + 1)).filter fun b => ovlB b.1 q).map (·.2) = ((l.take k).filter fun b => ovlB b.1 q).map (·.2) ++ if ovlB l[k].1 q then [l[k].2] else [] := by
 rw [List.take_succ_eq_append_getElem h, List.filter_append, List.map_append]
 congr 1
 cases hv : ovlB l[k].1 q <;> simp [hv]

set_option maxRecDepth 100000 in
set_option maxHeartbeats 8000000 in
theorem search_any (q : Rct) (root : Option Tr) (a : Option Addr) (n d : Int) (w : World) (hT : TreeH w a root n d) (hN : ((exQ q root).flatMap (own q)).length ≤ 1048576) (hNN : (exQ q root).length ≤ 1048576) :
  Calls Tryz.prog 207 #[.pointer a, rx q] w (RdP 1 ((exQ q root).flatMap (own q)).length (ic (((exQ q root).flatMap (own q)).mergeSort fun x y => decide (x ≤ y))) w) := by
 obtain ⟨i0, hi, hz0, hz1, hz2⟩ := (elInt : El Tryz.prog 23 3 (.int .i64 0) 1 8).hi
 refine (callsIn_wide (n := 9)).1 ?_
 refine callsIn_of_wp_marks Tryz.func207 rfl trivial ?_ rfl
 simp only [Tryz.ntmps207, List.size_toArray, List.length_cons, List.length_nil, Nat.reduceAdd, Nat.reduceSub, Array.replicate_succ, Array.replicate_zero, List.push_toArray, List.append_toArray, List.nil_append, List.cons_append]
 gi_wp2_with (refine ⟨trivial, ?_⟩; gi_at_call 208; refine (callsIn_to (examined_any a q _)).mono ?_; rintro e w' ⟨rfl, rfl⟩)
 obtain ⟨W0, hW0⟩ : ∃ W0, (((w.alloc (.cells #[.int .i64 q.1.1, .int .i64 q.1.2, .int .i64 q.2.1, .int .i64 q.2.2] 37)).alloc (.cells #[.slice none 0 0] 23)).alloc (.cells #[.pointer a] 88)).alloc (.cells #[.int .i64 q.1.1, .int .i64 q.1.2, .int .i64 q.2.1, .int .i64 q.2.2] 37) = W0 := ⟨_, rfl⟩
 have hsz : W0.heap.size = w.heap.size + 4 := by rw [← hW0]; simp
 have hE0 : Ext w W0 := by rw [← hW0]; exact (ex_)
 have b0 : W0.heap[w.heap.size]? = some (.cells #[.int .i64 q.1.1, .int .i64 q.1.2, .int .i64 q.2.1, .int .i64 q.2.2] 37) := by rw [← hW0]; exact ((show Ext (w.alloc (.cells #[.int .i64 q.1.1, .int .i64 q.1.2, .int .i64 q.2.1, .int .i64 q.2.2] 37)) _ from (ex_)).block _ (by simp)).trans (World.alloc_heap_new w _)
 have bB : Boxed W0 (w.heap.size + 1) 23 (.slice none 0 0) := by
  rw [← hW0]
  have := Boxed.new (w.alloc (.cells #[.int .i64 q.1.1, .int .i64 q.1.2, .int .i64 q.2.1, .int .i64 q.2.2] 37)) 23 (.slice none 0 0)
  rw [World.size_alloc] at this
  exact (this.alloc _).alloc _
 have b2 : W0.heap[w.heap.size + 1 + 1]? = some (.cells #[.pointer a] 88) := by
  rw [← hW0]
  have := World.alloc_heap_new ((w.alloc (.cells #[.int .i64 q.1.1, .int .i64 q.1.2, .int .i64 q.2.1, .int .i64 q.2.2] 37)).alloc (.cells #[.slice none 0 0] 23)) (.cells #[.pointer a] 88)
  rw [World.size_alloc, World.size_alloc] at this
  exact ((Ext.al1 _ _).block _ (by simp)).trans this
 have b3 : W0.heap[w.heap.size + 1 + 1 + 1]? = some (.cells #[.int .i64 q.1.1, .int .i64 q.1.2, .int .i64 q.2.1, .int .i64 q.2.2] 37) := by
  rw [← hW0]
  have := World.alloc_heap_new (((w.alloc (.cells #[.int .i64 q.1.1, .int .i64 q.1.2, .int .i64 q.2.1, .int .i64 q.2.2] 37)).alloc (.cells #[.slice none 0 0] 23)).alloc (.cells #[.pointer a] 88)) (.cells #[.int .i64 q.1.1, .int .i64 q.1.2, .int .i64 q.2.1, .int .i64 q.2.2] 37)
  rw [World.size_alloc, World.size_alloc, World.size_alloc] at this
  exact this
 try rw [hW0]
 try simp only [World.size_alloc]
 clear hW0
 refine wpIn_rangeFunc_ownG (encs := fun x : Nd w => #[ptT x.1.1]) (F := Fence.wide) (n := 9) (ps := #[12]) (w := W0) (Kp := KpT W0.heap.size (w.heap.size + 1) 3 23) rfl (by decide) (gf := 210) (lb := #[.pointer (some ⟨w.heap.size + 1 + 1, 0, none⟩), .pointer (some ⟨w.heap.size + 1 + 1 + 1, 0, none⟩)]) rfl trivial (enters_of Tryz.func210 (by kernel_rfl) rfl)
  (examined_stops q root a n d W0.heap.size (w.heap.size + 1) (w.heap.size + 1 + 1) (w.heap.size + 1 + 1 + 1) w W0 hT hE0 b2 b3 (by omega) (by omega)) KpT.trans (KpT.kb (Nat.le_refl _)) (Below.refl _ _) (fun _ => rfl)
  (fun (pre : List (Nd w)) W => ∃ v zs, zs = (pre.map (·.1.2)).flatMap (own q) ∧ Boxed W (w.heap.size + 1) 23 v ∧ W.ownsRow W0.heap.size 3 1 v zs.length (ic zs) ∧ KpT W0.heap.size (w.heap.size + 1) 3 23 W0 W)
  (fun _ _ _ => False)
  (fun pre W W' row ⟨v, zs, h0, h1, h2, h3⟩ hg hr => ⟨v, zs, h0, boxed_kept hg (fun r e => (hr r e).2) h1, row_kept hg (fun r e => (hr r e).2) h2, KpT.own (β := Unit) (Nat.le_refl _) () W W' row h3 hg hr⟩)
  (fun _ _ _ _ _ hs _ _ => hs)
  ⟨_, [], rfl, bB, World.ownsRow_nil _ _ _ _, KpT.refl _ _ _ _ _⟩
  (fun x => { tmps := #[.pointer a, rx q, undef, .pointer (some ⟨w.heap.size, 0, none⟩), .slice none 0 0, .pointer (some ⟨w.heap.size + 1, 0, none⟩), ptT x.1.1, undef, undef, .pointer a, rx q, .func (.func 210) #[] #[.pointer (some ⟨w.heap.size + 1 + 1, 0, none⟩), .pointer (some ⟨w.heap.size + 1 + 1 + 1, 0, none⟩)], ptT x.1.1, undef, undef, undef, undef, undef, undef, undef, undef, undef, undef, undef, undef, undef, undef, undef, undef, undef, undef, undef, undef, undef, undef], defers := [] }) ?assign ?body ?done ?stop
 case assign =>
  intro l x W K hK
  first | (refine wpIn_skip ?_; simp [Exit.then]; exact hK) | (gi_wp2; exact hK)
 case body =>
  rintro l pre x W ⟨v, zs0, hz, hv, hrow, hk⟩ hlt
  have hEw : Ext w W := hE0.trans (hk.but.below (by omega) (by omega))
  have hWsz := hk.but.size
  obtain ⟨A, c, hp, c4, hbl, hRb⟩ := x.2.boxes
  have c4 := hEw.cell' c4
  have hp : x.1.1 < W.heap.size := Nat.lt_of_lt_of_le hp hEw.size
  have hpre : zs0.length ≤ 1099511627776 := by
   rw [hz]
   have h1 := own_len q pre
   have h2 : pre.length * 1048576 ≤ 1048576 * 1048576 := Nat.mul_le_mul_right _ (by omega)
   omega
  have HZ : Hid ((zs0 ++ own q x.1.2) = ((pre ++ [x]).map (·.1.2)).flatMap (own q)) := Lib.hid (by rw [hz]; simp)
  have HOW : Hid (own q x.1.2 = (x.1.2.bs.filter fun b => ovlB b.1 q).map (·.2)) := Lib.hid rfl
  clear hz
  generalize x.1.2.bs = bs at c4 hbl hRb HOW
  generalize x.1.1 = p at hp c4 ⊢
  gi_wp2
  gi_loopw [18] (fun i wr => ∃ (k : Nat) (v : Value) (zs : List Int), i = .int .i64 k ∧ k ≤ bs.length ∧ zs = zs0 ++ ((bs.take k).filter fun b => ovlB b.1 q).map (·.2) ∧ Boxed wr (w.heap.size + 1) 23 v ∧ wr.ownsRow W0.heap.size 3 1 v zs.length (ic zs) ∧ KeepsOthers W wr ∧ KpT W0.heap.size (w.heap.size + 1) 3 23 W wr) (fun i _ => bs.length - (intOf i).toNat)
  case atStart => exact ⟨0, v, zs0, rfl, Nat.zero_le _, by simp, hv, hrow, KeepsOthers.refl _, KpT.refl _ _ _ _ _⟩
  case round =>
   obtain ⟨k, v2, zs, rfl, hkl, hzs, hv2, hrow2, hko, hk2⟩ := hrel
   have hEr : Ext w wr := hEw.trans (hk2.but.below (by omega) (by omega))
   have hrs := hk2.but.size
   by_cases hlt2 : k < bs.length
   ·
    obtain ⟨b, o, rfl, hbw, e0, e1, e2, e3, e4⟩ := (hRb.ext hEr).box rfl hlt2
    obtain ⟨hrb, r0, r1, r2, r3⟩ := rect_cells (q := q) (hk2.blk _ _ _ _ (hk.blk _ _ _ _ b0 (by decide) (by decide)) (by decide) (by decide))
    have HOT := Lib.hid (own_take q bs hlt2)
    have hlz : zs.length ≤ 1099511627776 + 1048576 := by
     rw [hzs, List.length_append, List.length_map]
     have h1 := List.length_filter_le (fun b : Bxs => ovlB b.1 q) (bs.take k)
     have h2 := List.length_take_le k bs
     omega
    have HZS := Lib.hid hzs
    clear hzs
    generalize bs[k] = bb at e0 e1 e2 e3 e4 HOT
    obtain ⟨br, bi⟩ := bb
    simp only at e0 e1 e2 e3 e4
    have HOV := Lib.hid (fun w => overlapsX_any br q w)
    have hc2 := hv2.cell
    have hf2 := hv2.frozen
    have hB2 := hv2.lt
    rcases hov : ovlB br q with _ | _
    ·
     rw [hov] at HOV
     have HOU : Hid (((bs.take (k + 1)).filter fun b => ovlB b.1 q).map (·.2) = ((bs.take k).filter fun b => ovlB b.1 q).map (·.2)) := Lib.hid (by rw [HOT.out]; simp [hov])
     clear hov HOT
     gi_wp2_with (refine ⟨trivial, ?_⟩; gi_at_call 209; refine (callsRound (HOV.out _)).mono ?_; rintro e w1 ⟨rfl, hb1⟩; obtain ⟨x1, rfl⟩ := hb1.get; clear hb1)
     go_roundw
     case rel => exact ⟨k + 1, v2, zs, by go_num, by omega, by rw [HOU.out]; exact HZS.out, boxed_ext hv2 (ex_), ownsRow_ext hrow2 (ex_), hko.trans (keepsOthers_ext (ex_)), hk2.trans (KpT.ofExt (ex_) (by omega))⟩
     case measure => simp [intOf]; omega
    ·
     rw [hov] at HOV
     have HOU : Hid (((bs.take (k + 1)).filter fun b => ovlB b.1 q).map (·.2) = ((bs.take k).filter fun b => ovlB b.1 q).map (·.2) ++ [bi]) := Lib.hid (by rw [HOT.out]; simp [hov])
     clear hov HOT
     gi_wp2_with (first | (refine ⟨trivial, ?_⟩; gi_at_call 209; refine (callsRound (HOV.out _)).mono ?_; rintro e w1 ⟨rfl, hb1⟩; obtain ⟨x1, rfl⟩ := hb1.get; clear hb1) | (gi_at_builtin; refine wpListIn_append_own _ rfl _ _ 23 rfl W0.heap.size 3 i0 (.int .i64 0) 1 8 Tryz.underlying23 hi hz0 hz1 hz2 rfl (by decide) _ _ _ rfl (World.ownsRow.alloc (ownsRow_ext hrow2 (ex_)) _) ⟨wr.heap.size + 1 + x1.n, 0, none⟩ 1 1 [.int .i64 bi] rfl rfl (cell_one_at _ _ _ (by simp [size_ext])) (by simp [Value.oneCell']) (by unfold maxLen; omega) (by omega) (by simp; omega) ?_; intro v' w1 hown' hgrow _; obtain ⟨g', cap', rfl⟩ := ownsRow_succ hown'; obtain ⟨hv1, hv3, hr3, hk3, hb3, hno3⟩ := boxed_app (boxed_ext hv2 (ex_)) (by decide) (ownsRow_ext hrow2 (ex_)) (by simp; omega) hown' hgrow; have hc1 := hv1.cell; have hf1 := hv1.frozen))
     go_roundw
     case rel => exact ⟨k + 1, _, zs ++ [bi], by go_num, by omega, by rw [HOU.out, ← List.append_assoc, ← HZS.out], hv3, by simpa [ic] using hr3, (hko.trans (keepsOthers_ext (show Ext wr (ext (wr.alloc (.cells #[.int .i64 br.1.1, .int .i64 br.1.2, .int .i64 br.2.1, .int .i64 br.2.2, .int .i64 bi] 84)) x1) from (ex_)))).trans hk3, hk2.trans ((KpT.ofExt (show Ext wr (ext (wr.alloc (.cells #[.int .i64 br.1.1, .int .i64 br.1.2, .int .i64 br.2.1, .int .i64 br.2.2, .int .i64 bi] 84)) x1) from (ex_)) (by omega)).trans ⟨hb3, hno3⟩)⟩
     case measure => simp [intOf]; omega
   ·
    have HK := Lib.hid (show k = bs.length by omega)
    gi_wp2
    refine ⟨hko.from _, hk2, v2, zs, ?_, hv2, hrow2, hk.trans hk2⟩
    rw [← HZ.out, HOW.out, hzs, HK.out, List.take_length]
 case done =>
  rintro D xs W hD hS ⟨v, zs, hz, hv, hrow, hk⟩ hK
  have HZ : Hid (zs = (exQ q root).flatMap (own q)) := Lib.hid (by rw [hz, hS])
  clear hz hS
  have hc := hv.cell
  have hEw : Ext w W := hE0.trans (hk.but.below (by omega) (by omega))
  obtain ⟨A, c, rfl, hcap⟩ := row_form hrow
  have hzl : zs.length ≤ 1048576 := by rw [HZ.out]; exact hN
  gi_wp2_with (refine ⟨trivial, ?_⟩; gi_at_call 14; refine (callsIn_to (sortI2 W W0.heap.size A c zs hrow (by omega))).mono ?_; rintro e w2 ⟨rfl, hr2, hg2⟩; have hv2 := hv.kept hg2 (hv.not_row (by decide) hrow); have hc2 := hv2.cell)
  have hK2 : w2.heap[D]? = some (.deferred (some [])) := by
   refine (hg2.block D (Array.getElem?_eq_some_iff.1 hK).1 (fun er => ?_)).trans hK
   obtain ⟨_, _, c', f', hc'⟩ := row_block hrow er.symm
   rw [hK] at hc'; cases hc'
  refine ⟨by simp, .inl ⟨_, _, rfl, run_takeDeferred hK2, ?_⟩⟩
  refine ⟨_, results_tmp rfl _ _ _, A, c, by rw [← HZ.out]; rfl, ?_, ?_⟩
  ·
   have h1 : Ext w w2 := hEw.trans (Below.grown (Below.refl _ _) hg2 hEw.size (fun r er => Nat.le_trans (by omega) (row_block hrow er).1))
   exact h1.trans ((But.kb (B := W0.heap.size) (Nat.le_refl W0.heap.size) w2 D _ _ (by omega) hK2 rfl rfl).below (by omega) (by omega))
  ·
   rw [← HZ.out]
   exact Rd.of_own (ownsRow_putObj hr2 (.deferred none) hK2 rfl)
 case stop =>
  rintro D c pre W _ _ h _
  exact h.elim

end Go.Proofs.YtdiaecgpjgdkdaaGreat

namespace Go.Proofs.YtdiaecgpjgdkdaaGreat
open Go.RowKit Go.Maps

theorem elBool_inv {e : TypeId} (he : Tryz.prog.underlying e = some .bool) {v : Value} {x : Bool} {ps : List MemPlace} (h : plainElem (H := Unit) Tryz.prog e v = some (.lit (.bool x), ps)) : v = .bool x := by
 unfold plainElem at h
 cases v <;> simp_all
theorem keyI : Keyed Tryz.prog 3 := int_keyed Tryz.underlying3

set_option maxRecDepth 100000 in
set_option maxHeartbeats 4000000 in
theorem check_anyT (A : Option Addr) (n c : Nat) (L : List Bxs) (w : World) (hL : n = L.length) (hR : Rd w 5 A n (bxl L)) (hn : n ≤ 1048576) (hwf : ∀ b ∈ L, (Lit.int .i64 b.2).wf = true) :
  Calls Tryz.prog 54 #[.slice A n c] w fun e w' => e = .returned (.int .i64 (chkF [] L)) ∧ Ext w w' := by
 subst hL
 have hmm := @run_makeMap Tryz.prog
 go_enter Tryz.func54, Tryz.ntmps54
 go_wp2
 go_loopw [9] (fun i wr => ∃ (k : Nat) (D : DataW Unit), i = .int .i64 k ∧ k ≤ L.length ∧ (wr.ownsMap Tryz.prog 3 (plainElem (H := Unit) Tryz.prog 4) w.heap.size k D ∧ IsMap D ∧ (∀ id : Int, (Lit.int .i64 id).wf = true → D.atKey (.int .i64 id) (.lit (.bool false)) = .lit (.bool (decide (id ∈ (L.take k).map (·.2)))))) ∧ Ext w wr ∧ Hid (chkF [] L = chkF ((L.take k).map (·.2)) (L.drop k))) (fun i _ => L.length - (intOf i).toNat)
 case atStart => exact ⟨0, .map [], rfl, Nat.zero_le _, ⟨World.ownsMap_made w _ _ _, isMap_empty, fun id _ => by simp; rfl⟩, Ext.al1 _ _, Lib.hid rfl⟩
 case round =>
  obtain ⟨k, D, rfl, hk, ⟨hown, hD, hat⟩, hE, HC⟩ := hrel
  have HAT := Lib.hid hat
  clear hat
  have hws := hown.lt
  by_cases hlt : k < L.length
  ·
   obtain ⟨b, o, rfl, hb, e0, e1, e2, e3, e4⟩ := (hR.ext hE).box rfl hlt
   have HD := Lib.hid (List.drop_eq_getElem_cons hlt)
   have HT := Lib.hid (List.take_succ_eq_append_getElem hlt)
   have hid := hwf L[k] (List.getElem_mem hlt)
   generalize L[k] = bb at e0 e1 e2 e3 e4 HD HT hid
   obtain ⟨r, id⟩ := bb
   simp only at e0 e1 e2 e3 e4 hid
   have HV := Lib.hid (fun w => tvalid_any r w)
   have hkey := keyOf_int_mk (P := Tryz.prog) Tryz.underlying3 hid
   have HID := Lib.hid hid
   clear hid
   rcases hv : rvB r with _ | _
   ·
    rw [hv] at HV
    have HF : Hid (chkF [] L = 8) := Lib.hid (by rw [HC.out, HD.out, chkF, hv]; rfl)
    clear hkey hv
    go_wp2_with (go_at_call 94; refine (HV.out _).mono ?_; rintro e w1 ⟨rfl, hb1⟩; obtain ⟨x1, rfl⟩ := hb1.get; clear hb1)
    go_ret
    exact ⟨by rw [HF.out]; rfl, ex_⟩
   ·
    rw [hv] at HV
    have HAK := Lib.hid (HAT.out id HID.out)
    rcases hm : decide (id ∈ (L.take k).map (·.2)) with _ | _
    ·
     have HF : Hid (chkF [] L = chkF ((L.take (k + 1)).map (·.2)) (L.drop (k + 1))) := Lib.hid (by
      rw [HC.out, HD.out, chkF, hv, HT.out]
      simp only [decide_eq_false_iff_not] at hm
      rw [if_pos rfl, if_neg hm]; simp)
     rw [hm] at HAK
     clear hv hm
     go_wp2_with (first | (go_at_call 94; refine (HV.out _).mono ?_; rintro e w1 ⟨rfl, hb1⟩; obtain ⟨x1, rfl⟩ := hb1.get; clear hb1; have hown2 := (hown.alloc (.cells #[.int .i64 r.1.1, .int .i64 r.1.2, .int .i64 r.2.1, .int .i64 r.2.2, .int .i64 id] 84)).kept (ext_grown (Ext.ex _ x1)) (by simp); obtain ⟨v, ps, hrun, hv⟩ := hown2.lookup keyI Tryz.underlying182 (Tryz.zeroValue4 _) (plainElem_bool Tryz.underlying4 false) hkey; rw [HAK.out] at hv; have hv' := elBool_inv Tryz.underlying4 hv; clear hv; subst hv') | (at_mapUpdate; refine wpList_mapUpdate_own _ rfl _ _ _ 182 rfl 3 4 keyI Tryz.underlying182 _ w.heap.size k D rfl hown2 (by unfold maxLen; omega) _ _ (.int .i64 id) rfl rfl hkey (.lit (.bool true)) [] (plainElem_bool Tryz.underlying4 true) ?_; intro w2 hown3 hg3))
     go_roundw
     case rel => exact ⟨k + 1, _, by go_num, by omega, ⟨hown3, IsMap.put hD _ _, fun z hz => by
      rw [HT.out, List.map_append]
      by_cases hzi : z = id
      ·
       subst hzi
       rw [atKey_put_same hD (by trivial)]
       simp
      ·
       rw [atKey_put_other (by simp; exact hzi), HAT.out z hz]
       simp [hzi]⟩, Below.grown (hE.tr (ex_)) hg3 (by simp; omega) (fun j hj => by cases hj; exact Nat.le_refl _), HF⟩
     case measure => simp [intOf]; omega
    ·
     have HF : Hid (chkF [] L = 10) := Lib.hid (by
      rw [HC.out, HD.out, chkF, hv]
      simp only [decide_eq_true_eq] at hm
      rw [if_pos rfl, if_pos hm])
     rw [hm] at HAK
     clear hv hm
     go_wp2_with ((go_at_call 94; refine (HV.out _).mono ?_; rintro e w1 ⟨rfl, hb1⟩; obtain ⟨x1, rfl⟩ := hb1.get; clear hb1; have hown2 := (hown.alloc (.cells #[.int .i64 r.1.1, .int .i64 r.1.2, .int .i64 r.2.1, .int .i64 r.2.2, .int .i64 id] 84)).kept (ext_grown (Ext.ex _ x1)) (by simp); obtain ⟨v, ps, hrun, hv⟩ := hown2.lookup keyI Tryz.underlying182 (Tryz.zeroValue4 _) (plainElem_bool Tryz.underlying4 false) hkey; rw [HAK.out] at hv; have hv' := elBool_inv Tryz.underlying4 hv; clear hv; subst hv'))
     go_ret
     exact ⟨by rw [HF.out]; rfl, ex_⟩
  ·
   have HF : Hid (chkF [] L = 0) := Lib.hid (by rw [HC.out, List.drop_eq_nil_of_le (Nat.le_of_not_lt hlt)]; rfl)
   go_wp2
   go_ret
   exact ⟨by rw [HF.out]; rfl, hE⟩

end Go.Proofs.YtdiaecgpjgdkdaaGreat

namespace Go.Proofs.YtdiaecgpjgdkdaaGreat
open Go.RowKit

def errF (wd : Int) (L : List Bxs) : Int := if wd < 2 ∨ 64 < wd then 6 else if 4096 < L.length then 5 else chkF [] L
def rootF (wd : Nat) (L : List Bxs) : Option Tr × Nat := if L = [] then (none, 0) else match buildF wd (ordF L) with | ([t], d) => (some t, d) | _ => (none, 0)
theorem sortedX {S L : List Bxs} (hp : S.Perm L) (hs : S.Pairwise (fun a b => ltB b a = false)) (hn : L.Nodup) : S = ordF L := by
 refine sorted_unique ?_ (ordF_sorted hn) (hp.trans (ordF_perm L).symm)
 have hn' := (hp.nodup_iff).2 hn
 refine (List.pairwise_and_iff.2 ⟨hs, hn'⟩).imp fun {a b} h => ?_
 obtain ⟨h1, h2⟩ := h
 simp only [ltB, decide_eq_false_iff_not] at h1
 rcases ltX_tri a b with h | h | h
 ·
  exact h
 ·
  exact absurd h h2
 ·
  exact absurd h h1
def slLen : Value → Nat | .slice _ n _ => n | _ => 0
theorem ext_agree {A B : World} {x : Add} {k : Nat} (hs : A.heap.size = B.heap.size) (h : A.heap[k]? = B.heap[k]?) : (ext A x).heap[k]? = (ext B x).heap[k]? := by
 show (A.heap ++ x.objs)[k]? = (B.heap ++ x.objs)[k]?
 rw [Array.getElem?_append, Array.getElem?_append, hs, h]
theorem alloc_agree {V : World} {o1 o2 : Obj} {k : Nat} (h : k ≠ V.heap.size) : (V.alloc o1).heap[k]? = (V.alloc o2).heap[k]? := by
 show (V.heap.push o1)[k]? = (V.heap.push o2)[k]?
 rw [Array.getElem?_push, Array.getElem?_push, if_neg h, if_neg h]
end Go.Proofs.YtdiaecgpjgdkdaaGreat

namespace Go.Proofs.YtdiaecgpjgdkdaaGreat
open Go.RowKit

def oneR : List Tr × Nat → Option Tr × Nat | ([t], d) => (some t, d) | _ => (none, 0)
theorem rootF_eq (k : Nat) (L : List Bxs) : rootF k L = if L = [] then (none, 0) else oneR (buildF k (ordF L)) := by
 unfold rootF
 split
 ·
  rfl
 ·
  generalize buildF k (ordF L) = p
  obtain ⟨T, d⟩ := p
  match T with
  | [] => rfl
  | [t] => rfl
  | _ :: _ :: _ => rfl
end Go.Proofs.YtdiaecgpjgdkdaaGreat

namespace Go.Proofs.YtdiaecgpjgdkdaaGreat
open Go.RowKit

def rsF (Lo : List Bxs) (q : Rct) : List Int := putsF ((Lo.filter fun b => ovlB b.1 q).map (·.2))
theorem putF_length (l : List Int) (n : Int) : (putF l n).length ≤ l.length + 1 := by
 unfold putF
 rw [List.length_append, List.length_cons]
 have h1 : (l.filter fun x => decide (x < n)).length + (l.filter fun x => decide (n < x)).length ≤ l.length := by
  induction l with
  | nil => simp
  | cons x l ih => simp only [List.filter_cons]; split <;> split <;> simp_all <;> omega
 omega
end Go.Proofs.YtdiaecgpjgdkdaaGreat

namespace Go.Proofs.YtdiaecgpjgdkdaaGreat
open Go.RowKit

theorem topF_depth (w : Nat) (hw : 2 ≤ w) : ∀ (f : Nat) (l : List Tr) (d : Nat), (topF w f l d).2 ≤ d + l.length
 | 0, l, d => by rw [topF]; simp
 | f + 1, l, d => by
  rw [topF]
  split
  ·
   rename_i h
   have := topF_depth w hw f (aboveF w l) (d + 1)
   have := nch_lt hw (n := l.length) h
   rw [aboveF_length] at *
   omega
  ·
   simp
theorem err_zero {wd : Int} {L : List Bxs} (h : errF wd L = 0) : 2 ≤ wd.toNat ∧ (∀ x ∈ L, rvB x.1 = true) ∧ (L.map (·.2)).Nodup ∧ L.length ≤ 4096 := by
 unfold errF at h
 split at h
 ·
  cases h
 ·
  split at h
  ·
   cases h
  ·
   obtain ⟨a, _, b⟩ := chk_ok h
   exact ⟨by omega, a, b, by omega⟩
theorem root_good {wd : Int} {L : List Bxs} (h : errF wd L = 0) (hL : L ≠ []) : ∃ t d, rootF wd.toNat L = (some t, d) ∧ Good d t ∧ t.all = ordF L ∧ d ≤ 1 + L.length := by
 obtain ⟨hw, hv, hn, _⟩ := err_zero h
 have hp := ordF_perm L
 obtain ⟨t, d, h1, h2, h3⟩ := buildF_good hw (l := ordF L) (by intro h0; rw [h0] at hp; exact hL (List.perm_nil.1 hp.symm)) (fun x hx => hv x (hp.mem_iff.1 hx))
 refine ⟨t, d, by rw [rootF_eq, if_neg hL, h1]; rfl, h2, h3, ?_⟩
 have hd := topF_depth wd.toNat hw (ordF L).length (leavesF wd.toNat (ordF L)) 1
 have : (buildF wd.toNat (ordF L)).2 = d := by rw [h1]
 unfold buildF at this
 rw [this, leavesF_length, hp.length_eq] at hd
 have h4 : nch wd.toNat L.length ≤ L.length := by
  rcases Nat.lt_or_ge L.length (nch wd.toNat L.length) with h' | h'
  ·
   have := (lt_nch (w := wd.toNat) (n := L.length) (j := L.length) (by omega)).1 h'
   have h2 : L.length * 1 ≤ L.length * wd.toNat := Nat.mul_le_mul_left _ (by omega)
   omega
  ·
   exact h'
 omega
theorem Good.ne {d : Nat} {t : Tr} (h : Good d t) : 1 ≤ t.all.length := by
 obtain ⟨_, ⟨b, ⟨x, hx, _⟩, _⟩, _⟩ := h.hull
 exact List.length_pos_of_mem hx
theorem Good.count {d : Nat} {t : Tr} (h : Good d t) (q : Rct) : (exam q t).length ≤ d * t.all.length := by
 induction h with
 | lf r bs h hv =>
  have := (Good.lf r bs h hv).ne
  simp [exam] at this ⊢; exact this
 | nd d r ks h hk ih =>
  have hne := (Good.nd d r ks h hk).ne
  rw [exam, List.length_cons, Tr.all] at *
  have : ∀ l : List Tr, (∀ k ∈ l, (exam q k).length ≤ d * k.all.length) → (examS q l).length ≤ d * (allS l).length := by
   intro l
   induction l with
   | nil => intro _; simp [examS]
   | cons k l ihl =>
    intro hl
    have h1 := hl k (by simp)
    have h2 := ihl fun k hk => hl k (by simp [hk])
    rw [examS, allS, List.length_append, List.length_append, Nat.mul_add]
    split <;> simp <;> omega
  have := this ks ih
  rw [Nat.add_mul]; omega

def rtE (wd : Int) (L : List Bxs) : Option Tr := if errF wd L = 0 then (rootF wd.toNat L).1 else none
def rdE (wd : Int) (L : List Bxs) : Nat := if errF wd L = 0 then (rootF wd.toNat L).2 else 0
def loE (wd : Int) (L : List Bxs) : List Bxs := if errF wd L = 0 then ordF L else []
theorem rt_cases (wd : Int) (L : List Bxs) : (rtE wd L = none ∧ loE wd L = [] ∧ rdE wd L = 0) ∨ ∃ t d, rtE wd L = some t ∧ rdE wd L = d ∧ Good d t ∧ t.all = loE wd L ∧ d ≤ 1 + L.length ∧ (loE wd L).length = L.length ∧ ((loE wd L).map (·.2)).Nodup := by
 unfold rtE rdE loE
 by_cases he : errF wd L = 0
 ·
  simp only [if_pos he]
  by_cases hL : L = []
  ·
   subst hL
   exact .inl ⟨by rw [rootF_eq, if_pos rfl], by rfl, by rw [rootF_eq, if_pos rfl]⟩
  ·
   obtain ⟨t, d, h1, h2, h3, h4⟩ := root_good he hL
   have hp := ordF_perm L
   exact .inr ⟨t, d, by rw [h1], by rw [h1], h2, h3, h4, hp.length_eq, ((hp.map _).nodup_iff).2 (err_zero he).2.2.1⟩
 ·
  simp only [if_neg he]
  exact .inl ⟨by first | rfl | trivial, by first | rfl | trivial, by first | rfl | trivial⟩
theorem ex_bound (wd : Int) (L : List Bxs) (hL : L.length ≤ 200) (q : Rct) : (exQ q (rtE wd L)).length ≤ 1048576 ∧ ((exQ q (rtE wd L)).flatMap (own q)).length ≤ 1048576 := by
 rcases rt_cases wd L with ⟨h, _⟩ | ⟨t, d, h, _, hg, ha, hd, hl, _⟩
 ·
  rw [h]; simp [exQ]
 ·
  rw [h]
  simp only [exQ]
  split
  ·
   have h1 := hg.count q
   have h2 : d * t.all.length ≤ 201 * 200 := Nat.mul_le_mul (by omega) (by rw [ha]; omega)
   have h3 := congrArg List.length (hg.find q)
   rw [List.length_map] at h3
   have h4 := List.length_filter_le (fun b : Bxs => ovlB b.1 q) t.all
   unfold findT at h3
   rw [ha] at h4 h3
   omega
  ·
   simp
theorem sorted_ms (l : List Int) : (l.mergeSort fun x y => decide (x ≤ y)).Pairwise (· ≤ ·) := by
 have := List.pairwise_mergeSort (le := fun x y : Int => decide (x ≤ y)) (fun a b c h1 h2 => by simp at *; omega) (fun a b => by simp; omega) l
 exact this.imp fun h => by simpa using h
theorem se_eq (wd : Int) (L : List Bxs) (q : Rct) : ((exQ q (rtE wd L)).flatMap (own q)).mergeSort (fun x y => decide (x ≤ y)) = rsF (loE wd L) q := by
 rcases rt_cases wd L with ⟨h, h2, _⟩ | ⟨t, d, h, _, hg, ha, hd, hl, hn⟩
 ·
  rw [h, h2]; simp [exQ, rsF, putsF]
 ·
  rw [h]
  simp only [exQ]
  split
  ·
   have h3 := hg.find q
   unfold findT at h3
   rw [h3, ha]
   refine sort_puts (List.mergeSort_perm _ _) (sorted_ms _) ?_
   exact (List.filter_sublist.map _).nodup hn
  ·
   rename_i hq
   unfold rsF
   rw [find_none (by simpa using hq)]
   simp [putsF]
theorem lo_len (wd : Int) (L : List Bxs) : (loE wd L).length = if errF wd L = 0 then L.length else 0 := by
 unfold loE; split
 ·
  exact (ordF_perm L).length_eq
 ·
  rfl

theorem searchU (wd : Int) (L : List Bxs) (hL : L.length ≤ 200) (q : Rct) (a : Option Addr) (n d : Int) (w : World) (hT : TreeH w a (rtE wd L) n d) :
  Calls Tryz.prog 207 #[.pointer a, rx q] w (RdP 1 (rsF (loE wd L) q).length (ic (rsF (loE wd L) q)) w) := by
 have h := search_any q (rtE wd L) a n d w hT (ex_bound wd L hL q).2 (ex_bound wd L hL q).1
 have hl : ((exQ q (rtE wd L)).flatMap (own q)).length = (rsF (loE wd L) q).length := by rw [← se_eq, List.length_mergeSort]
 rw [hl, se_eq] at h
 exact h
theorem putsF_length (l : List Int) : (putsF l).length ≤ l.length := by
 have : ∀ (l acc : List Int), (l.foldl putF acc).length ≤ acc.length + l.length := by
  intro l
  induction l with
  | nil => intro acc; simp
  | cons x l ih => intro acc; have := ih (putF acc x); have := putF_length acc x; simp; omega
 have := this l []
 simpa [putsF] using this
theorem lo_le (wd : Int) (L : List Bxs) : (loE wd L).length ≤ L.length := by rw [lo_len]; split <;> omega
theorem rsF_length (Lo : List Bxs) (q : Rct) : (rsF Lo q).length ≤ Lo.length := by
 refine Nat.le_trans (putsF_length _) ?_
 rw [List.length_map]; exact List.length_filter_le _ _
end Go.Proofs.YtdiaecgpjgdkdaaGreat

namespace Go.Proofs.YtdiaecgpjgdkdaaGreat
open Go.RowKit

def BuildN (wd : Int) (L : List Bxs) (w : World) (e : Ending) (w' : World) : Prop :=
 Ext w w' ∧ ((errF wd L ≠ 0 ∧ e = .returned (.tuple #[.pointer none, .int .i64 (errF wd L)])) ∨ (errF wd L = 0 ∧ ∃ b, e = .returned (.tuple #[.pointer (some ⟨b, 0, none⟩), .int .i64 0]) ∧
  ∀ X : World, w'.heap.size ≤ X.heap.size → (∀ k, w.heap.size ≤ k → k < w'.heap.size → X.heap[k]? = w'.heap[k]?) → TreeH X (some ⟨b, 0, none⟩) (rootF wd.toNat L).1 (L.length : Nat) ((rootF wd.toNat L).2 : Nat)))

def LvlN (lo b7 : Nat) (W : World) (T : List Tr) (A : Option Addr) (ps : List Nat) : Prop :=
 ∀ X : World, W.heap.size ≤ X.heap.size → (∀ k, lo ≤ k → k < W.heap.size → k ≠ b7 → X.heap[k]? = W.heap[k]?) → Rd X 1 A T.length (ptc ps) ∧ TMs X T ps

set_option maxRecDepth 100000 in
set_option maxHeartbeats 8000000 in
theorem buildN_any (A : Option Addr) (n c : Nat) (wd : Int) (L : List Bxs) (w : World) (hL : n = L.length) (hR : Rd w 5 A n (bxl L)) (hn : n ≤ 1048576) (hc : n ≤ c) (hwf : ∀ b ∈ L, (Lit.int .i64 b.2).wf = true) :
  Calls Tryz.prog 29 #[.slice A n c, .int .i64 wd] w (BuildN wd L w) := by
 by_cases h1 : wd < 2 ∨ 64 < wd
 ·
  have HE : Hid (errF wd L = 6) := Lib.hid (by simp [errF, h1])
  rcases (show wd < 2 ∨ (2 ≤ wd ∧ 64 < wd) from by omega) with h2 | ⟨h2, h3⟩
  all_goals
   clear h1
   go_enter Tryz.func29, Tryz.ntmps29
   go_wp2
   go_ret2
   exact ⟨ex_, .inl ⟨by rw [HE.out]; decide, by rw [HE.out]; rfl⟩⟩
 ·
  have hw1 : 2 ≤ wd := by omega
  have hw2 : wd ≤ 64 := by omega
  obtain ⟨k, rfl⟩ := Int.eq_ofNat_of_zero_le (show 0 ≤ wd by omega)
  have hk1 : 2 ≤ k := by omega
  have hk2 : k ≤ 64 := by omega
  clear hw1 hw2
  have HL := Lib.hid hL
  clear hL
  by_cases hbig : 4096 < n
  ·
   have HE : Hid (errF (k : Nat) L = 5) := Lib.hid (by unfold errF; rw [if_neg h1, if_pos (by have := HL.out; omega)])
   clear h1
   go_enter Tryz.func29, Tryz.ntmps29
   go_wp2
   go_ret2
   exact ⟨ex_, .inl ⟨by rw [HE.out]; decide, by rw [HE.out]; rfl⟩⟩
  ·
   have HE0 : Hid (errF (k : Nat) L = chkF [] L) := Lib.hid (by unfold errF; rw [if_neg h1, if_neg (by have := HL.out; omega)])
   clear h1
   have HC := Lib.hid (fun w h => check_anyT A n c L w HL.out h hn hwf)
   have HCK := Lib.hid (fun h => @chk_ok L [] h)
   by_cases hch : chkF [] L = 0
   case neg =>
    have hcb : (chkF [] L != 0) = true := by simp [hch]
    have HN := Lib.hid hch
    clear hch HCK
    generalize chkF [] L = e0 at HC HE0 hcb HN
    go_enter Tryz.func29, Tryz.ntmps29
    go_wp2_with (go_at_call 54; refine (HC.out _ hR).mono ?_; rintro e w1 ⟨rfl, hb1⟩)
    go_ret2
    exact ⟨hb1, .inl ⟨by rw [HE0.out]; exact HN.out, by rw [HE0.out]; rfl⟩⟩
   case pos =>
    obtain ⟨hval, _, hnd⟩ := HCK.out hch
    rw [hch] at HC HE0
    have HVL := Lib.hid hval
    have HND := Lib.hid (nodup_of_ids hnd)
    clear hval hnd HCK hch
    rcases Nat.eq_zero_or_pos n with h0 | h0
    ·
     subst h0
     have HRF : Hid (rootF k L = (none, 0)) := Lib.hid (by unfold rootF; rw [if_pos (List.eq_nil_of_length_eq_zero HL.out.symm)])
     go_enter Tryz.func29, Tryz.ntmps29
     go_wp2_with (go_at_call 54; refine (HC.out _ hR).mono ?_; rintro e w1 ⟨rfl, hb1⟩; obtain ⟨y, rfl⟩ := hb1.get; clear hb1)
     go_ret2
     refine ⟨ex_, .inr ⟨HE0.out, _, rfl, fun X hX hag => ?_⟩⟩
     have hbk := hag (w.heap.size + y.n) (by omega) (by simp [size_ext])
     refine .inr ⟨w.heap.size + y.n, (by first | rfl | simp [size_ext]), (by simp [size_ext] at hX; omega), ?_, ?_, .inl ⟨by rw [show ((k : Nat) : Int).toNat = k from by omega, HRF.out], ?_⟩⟩
     ·
      rw [World.cell?_of_block hbk, ← HL.out]; simp [go_sem, ↓IntWalk.iteOmega]
     ·
      rw [World.cell?_of_block hbk, show ((k : Nat) : Int).toNat = k from by omega, HRF.out]; simp [go_sem, ↓IntWalk.iteOmega]
     ·
      rw [World.cell?_of_block hbk]; simp [go_sem, ↓IntWalk.iteOmega]
    ·
     obtain ⟨b0, o0, rfl, hb0, _⟩ := hR.2 (by omega)
     have hn1 : n ≤ 1048576 := hn
     have hne : n ≠ 0 := by omega
     go_enter Tryz.func29, Tryz.ntmps29
     go_wp2_with (go_at_call 54; refine (HC.out _ hR).mono ?_; rintro e w1 ⟨rfl, hb1⟩; obtain ⟨y, rfl⟩ := hb1.get; clear hb1)
     refine Calls.mono (cloneX b0 o0 n c L _ HL.out (hR.ext (ex_)) hn (by omega)) ?_
     rintro e w2 ⟨v2, x2, rfl, rfl, ho2⟩
     obtain ⟨A2, c2, rfl, hnc2, _⟩ := Own.form ho2
     go_wp2_with fail
     have hs := sortX _ x2 A2 c2 L (by rw [← HL.out]; exact ho2) (by have := HL.out; omega)
     rw [← HL.out] at hs
     refine Calls.mono hs ?_
     clear hs ho2
     rintro e w3 ⟨rfl, x3, S, rfl, hperm, hsort, ho3⟩
     have HS := Lib.hid (sortedX hperm hsort HND.out)
     have hSl : S.length = n := by rw [hperm.length_eq, ← HL.out]
     have HSV : Hid (∀ x ∈ S, rvB x.1 = true) := Lib.hid (fun x hx => HVL.out x (hperm.mem_iff.1 hx))
     clear hperm hsort
     go_wp2_with fail
     have hRS := Rd.of_own ho3
     obtain ⟨g, o', rfl, hg, _⟩ := hRS.2 (by omega)
     have hgb := (ho3.lt g rfl).1
     refine Calls.mono (leaves_any g o' n c2 k (by omega) hk2 (by omega) hn hnc2 _ S hRS hSl.symm) ?_
     rintro e w4 ⟨A4, c4, ps4, rfl, hb4, hc4, hX4⟩
     obtain ⟨x4, rfl⟩ := hb4.get
     clear hb4
     have hT1 : 1 ≤ (leavesF k S).length := by rw [leavesF_length]; exact nch_pos (by omega) (by omega)
     have hT2 : (leavesF k S).length ≤ n := by
      rw [leavesF_length, hSl]
      rcases Nat.lt_or_ge n (nch k n) with h | h
      ·
       have := (lt_nch (w := k) (n := n) (j := n) (by omega)).1 h
       have h2 : n * 1 ≤ n * k := Nat.mul_le_mul_left _ (by omega)
       omega
      ·
       exact h
     have HBF : Hid (buildF k S = topF k S.length (leavesF k S) 1) := Lib.hid rfl
     have HTE : Hid (topF k S.length (leavesF k S) 1 = topF k (leavesF k S).length (leavesF k S) 1) := Lib.hid (topF_eq k hk1 _ _ _ _ (by omega) (Nat.le_refl _))
     generalize leavesF k S = T0 at hX4 hc4 hT1 hT2 HBF HTE
     go_wp2_with fail
     go_loopw [9] (fun lv wr => ∃ (T : List Tr) (d : Nat) (di : Int) (A : Option Addr) (cc : Nat) (ps : List Nat), lv = .slice A T.length cc ∧ 1 ≤ T.length ∧ T.length ≤ cc ∧ d + T.length ≤ 1 + T0.length ∧ LvlN w.heap.size (w.heap.size + y.n) wr T A ps ∧ Ext ((ext w y).alloc (.cells #[.pointer none, .int .i64 n, .int .i64 di] 139)) wr ∧ Hid (di = (d : Nat)) ∧ Hid (topF k T0.length T0 1 = topF k T.length T d)) (fun lv _ => slLen lv)
     case atStart =>
      refine ⟨T0, 1, 1, A4, c4, ps4, rfl, hT1, hc4, by omega, ?_, (ex_), Lib.hid rfl, Lib.hid rfl⟩
      intro X hX hag
      have hne : ∀ kk, w.heap.size ≤ kk → kk ≠ w.heap.size + y.n → kk < (ext (ext ((ext w y).alloc (.cells #[.pointer none, .int .i64 n, .int .i64 0] 139)) x3) x4).heap.size → X.heap[kk]? = (ext (ext ((ext w y).alloc (.cells #[.pointer none, .int .i64 n, .int .i64 0] 139)) x3) x4).heap[kk]? := fun kk h0 h1 h2 =>
       (hag kk h0 (by simpa using h2) h1).trans (ext_agree (by simp) (ext_agree (by simp) (alloc_agree (by simpa using h1))))
      have hgw : g < (ext ((ext w y).alloc (.cells #[.pointer none, .int .i64 n, .int .i64 0] 139)) x3).heap.size := hg
      have hgb' : w.heap.size + y.n + 1 ≤ g := by simpa using hgb
      refine hX4 X (by simpa using hX) (fun kk h1 h2 => hne kk (by simp at h1; omega) (by simp at h1; omega) h2) ?_
      refine hRS.agree fun b o hA hb => ?_
      simp only [Option.some.injEq, Addr.mk.injEq, and_true] at hA
      obtain ⟨rfl, rfl⟩ := hA
      refine ⟨by simp at hX hgw; omega, (hne g (by omega) (by omega) (by rw [size_ext]; omega)).trans (block_ext _ _ _ hgw)⟩
     case round =>
      obtain ⟨T, d, di, A5, c5, ps5, rfl, hl1, hc5, hd, hlv, hE5, HDI, HC5⟩ := hrel
      obtain ⟨x5, rfl⟩ := hE5.get
      clear hE5 hX4 hRS ho3
      obtain ⟨hR5, hT5⟩ := hlv _ (Nat.le_refl _) (fun _ _ _ _ => rfl)
      obtain ⟨b5, o5, rfl, hb5, _⟩ := hR5.2 (by omega)
      have hdi : 0 ≤ di ∧ di ≤ 1048578 := by have := HDI.out; omega
      by_cases hlt : 1 < T.length
      ·
       have HAB := Lib.hid (above_any b5 o5 T.length c5 k (by omega) hk2 hl1 (by omega) hc5 _ T ps5 hR5 rfl hT5)
       have hlen := aboveF_length k T
       have hnl := nch_lt hk1 (n := T.length) hlt
       have hnp := nch_pos (w := k) (n := T.length) (by omega) hl1
       have HST := Lib.hid (topF_step hk1 (l := T) (d := d) hlt)
       have HLEN := Lib.hid hlen
       clear hlen
       generalize aboveF k T = T6 at HAB HST HLEN
       go_wp2_with fail
       refine Calls.mono HAB.out ?_
       rintro e w6 ⟨A6, c6, ps6, rfl, hb6, hc6, hX6⟩
       obtain ⟨x6, rfl⟩ := hb6.get
       clear hb6
       go_wp2_with fail
       go_roundw
       case rel =>
        have hl6 := HLEN.out
        refine ⟨T6, d + 1, di + 1, A6, c6, ps6, rfl, by omega, hc6, by omega, ?_, (ex_), Lib.hid (by rw [HDI.out]; omega), Lib.hid (by rw [HC5.out, HST.out])⟩
        intro X hX hag
        have hne : ∀ kk, w.heap.size ≤ kk → kk ≠ w.heap.size + y.n → kk < (ext (ext ((ext w y).alloc (.cells #[.pointer none, .int .i64 n, .int .i64 di] 139)) x5) x6).heap.size → X.heap[kk]? = (ext (ext ((ext w y).alloc (.cells #[.pointer none, .int .i64 n, .int .i64 di] 139)) x5) x6).heap[kk]? := fun kk h0 h1 h2 =>
         (hag kk h0 (by simpa using h2) h1).trans (ext_agree (by simp) (ext_agree (by simp) (alloc_agree (by simpa using h1))))
        refine hX6 X (by simpa using hX) (fun kk h1 h2 => hne kk (by simp at h1; omega) (by simp at h1; omega) h2) ?_
        exact hlv X (by simp at hX ⊢; omega) fun kk h0 h1 h2 => (hne kk h0 h2 (by rw [size_ext]; omega)).trans (block_ext _ _ _ h1)
       case measure => (have hl6 := HLEN.out; simp [slLen]; omega)
      ·
       have hpl := (TMs.get hT5).1
       have hp0 : 0 < ps5.length := by omega
       obtain ⟨b', o', he, _, hcp⟩ := hR5.ptr (k := 0) hp0
       simp only [Option.some.injEq, Addr.mk.injEq, and_true] at he
       obtain ⟨rfl, rfl⟩ := he
       simp only [Nat.add_zero] at hcp
       have hT1' : T.length = 1 := by omega
       have HTL := Lib.hid hT1'
       have HTF := Lib.hid (topF_end (w := k) (d := d) hlt)
       have HPL := Lib.hid hpl
       clear hT1' hpl
       generalize hpp : ps5[0] = p at hcp
       have HPP := Lib.hid hpp
       clear hpp
       go_wp2_with fail
       go_ret2
       refine ⟨(ex_), .inr ⟨HE0.out, _, rfl, fun X hX hag => ?_⟩⟩
       have hbk := hag (w.heap.size + y.n) (by omega) (by simp [size_ext]; omega)
       refine .inr ⟨w.heap.size + y.n, rfl, (by simp [size_ext] at hX; omega), ?_, ?_, .inr ?_⟩
       ·
        rw [World.cell?_of_block hbk, ← HL.out]; simp [go_sem, ↓IntWalk.iteOmega]
       ·
        have hroot : rootF k L = (some T[0], d) := by
         unfold rootF
         rw [if_neg (by intro h; have := HL.out; rw [h] at this; simp at this; omega), ← HS.out, HBF.out, HTE.out, HC5.out, HTF.out]
         match T, HTL.out with
         | [t], _ => rfl
        rw [show ((k : Nat) : Int).toNat = k from by omega, hroot, ← HDI.out, World.cell?_of_block hbk]; simp [go_sem, ↓IntWalk.iteOmega]
       ·
        have hroot : rootF k L = (some T[0], d) := by
         unfold rootF
         rw [if_neg (by intro h; have := HL.out; rw [h] at this; simp at this; omega), ← HS.out, HBF.out, HTE.out, HC5.out, HTF.out]
         match T, HTL.out with
         | [t], _ => rfl
        refine ⟨T[0], p, by rw [show ((k : Nat) : Int).toNat = k from by omega, hroot], by rw [World.cell?_of_block hbk]; simp [go_sem, ↓IntWalk.iteOmega], ?_⟩
        have hfin := hlv X (by simp [size_ext] at hX ⊢; omega) (fun kk h0 h1 h2 => (hag kk h0 (by simp [size_ext] at h1 ⊢; omega)).trans (ext_agree (by simp) (alloc_agree (by simpa using h2))))
        rw [← HPP.out]
        have := (TMs.get hfin.2).2 0 (by omega) hp0
        rw [← HPP.out] at this
        exact this

end Go.Proofs.YtdiaecgpjgdkdaaGreat

namespace Go.Proofs.YtdiaecgpjgdkdaaGreat
open Go.RowKit

theorem err_zero_iff {wd : Int} {L : List Bxs} (hw : 2 ≤ wd ∧ wd ≤ 64) (hL : L.length ≤ 200) : errF wd L = 0 ↔ (∀ x ∈ L, rvB x.1 = true) ∧ (L.map (·.2)).Nodup := by
 unfold errF
 rw [if_neg (by omega), if_neg (by omega)]
 constructor
 ·
  intro h; have h1 := chk_ok h; exact ⟨h1.1, h1.2.2⟩
 ·
  rintro ⟨h, k⟩; exact chk_all h (by simp) k
end Go.Proofs.YtdiaecgpjgdkdaaGreat
