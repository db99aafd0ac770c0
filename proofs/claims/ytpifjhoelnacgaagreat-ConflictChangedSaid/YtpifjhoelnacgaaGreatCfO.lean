/- Overlap: the first region that two lists have in common. -/
import Derived.Test.YtpifjhoelnacgaaGreatCfN
import Derived.Sort.MapsRangeIn
import Derived.Maps.OwnIn
import Derived.Deep.RegionHeld3
set_option linter.unusedSimpArgs false
set_option linter.unusedVariables false
namespace Go.Proofs.YtpifjhoelnacgaaGreat
open Go.RowKit Go.Maps Go.Shelf

attribute [local go_sem] Oper.semAt_some


/-- the common instants of each table -/
def comF (a b : List Acc) (t : List UInt8) : List (Int × Int) := combF interK (ofF (perV a t)) (ofF (perV b t))
/-- first of a list, and whether there is one -/
def headF : List Acc → Acc × Bool
  | [] => ((⟨#[]⟩, (0, 0)), false)
  | a :: _ => (a, true)
/-- the regions that both lists cover -/
def Common (a b r : List Acc) : Prop := CanT r ∧ ∀ t x, inT r t x = (inT a t x && inT b t x)
theorem Common.eq {a b r s : List Acc} (h : Common a b r) (k : Common a b s) : r = s := canT_unique h.1 k.1 fun t x => by rw [h.2, k.2]
theorem comF_in (a b : List Acc) (t : List UInt8) (x : Int) : inL (comF a b t) x = (inT a t x && inT b t x) := by
  unfold comF
  rw [combF_in, ofF_in, ofF_in, inL_perV, inL_perV]
  rcases h : inT a t x with _ | _
  · simp [interK]
  · have : 0 ≤ x ∧ x < 1099511627776 := inL_rng (by rw [inT_per] at h; exact h)
    simp [interK, this]
theorem common_regL {a b : List Acc} {ks : List (List UInt8)} (hk : ks.Pairwise (· < ·)) (hm : ∀ t, t ∈ ks ↔ comF a b t ≠ []) : Common a b (regL (comF a b) ks) :=
  ⟨regL_can (fun t _ => combF_can _ _ _) hk, fun t x => by rw [regL_in hm, comF_in]⟩
theorem MapD.start (w : World) {F : List UInt8 → List (Int × Int)} (hF : ∀ t, F t = []) : MapD w (.map []) F :=
  ⟨isMap_empty, fun t => ⟨none, 0, 0, rfl, by rw [hF t]; rfl, by rw [hF t]; exact Rd.nil⟩⟩
theorem set_at {W : World} {b : Nat} {c : Array Value} {t : TypeId} {f : Nat × Nat} (h : W.heap[b]? = some (.cells c t f)) (o : Nat) (u : Value) : (W.setCell ⟨b, o, none⟩ u).heap[b]? = some (.cells (c.setIfInBounds o u) t f) := by
  obtain ⟨hlt, hk⟩ := Array.getElem?_eq_some_iff.1 h
  show (W.heap.modify b _)[b]? = _
  rw [Array.getElem?_eq_getElem (by rw [Array.size_modify]; exact hlt), Array.getElem_modify_self, hk]
  rfl
/-- both results stored -/
theorem ov_res {W X : World} {b : Nat} {c0 c1 c2 c3 : Value} {s : ByteArray} {p q : Int} {v : Bool} (h4 : W.heap[b]? = some (.cells #[c0, c1, c2] 32)) (h5 : W.heap[b + 1]? = some (.cells #[c3] 4))
    (hX : X.heap = ((((W.setCell ⟨b, 0, none⟩ (.string s)).setCell ⟨b, 1, none⟩ (.int .i64 p)).setCell ⟨b, 2, none⟩ (.int .i64 q)).setCell ⟨b + 1, 0, none⟩ (.bool v)).heap ∨ X.heap = ((((W.setCell ⟨b + 1, 0, none⟩ (.bool v)).setCell ⟨b, 0, none⟩ (.string s)).setCell ⟨b, 1, none⟩ (.int .i64 p)).setCell ⟨b, 2, none⟩ (.int .i64 q)).heap)
    (h1 : X.os = W.os) (h2 : X.tape = W.tape) (h3 : X.output = W.output) :
    X.heap[b]? = some (.cells #[.string s, .int .i64 p, .int .i64 q] 32) ∧ X.heap[b + 1]? = some (.cells #[.bool v] 4) ∧ KeepsOthers W X ∧ Below b W X := by
  obtain ⟨l4, e4⟩ := Array.getElem?_eq_some_iff.1 h4
  obtain ⟨l5, e5⟩ := Array.getElem?_eq_some_iff.1 h5
  have key : ∀ Y : World, X.heap = Y.heap → KeepsOthers W Y → (∀ k, k < b → Y.heap[k]? = W.heap[k]?) → KeepsOthers W X ∧ Below b W X := fun Y e k hb =>
    ⟨⟨by rw [e]; exact k.size, fun i o hi ho => by rw [e]; exact k.same i o hi ho⟩, ⟨h1, h2, h3, by rw [e]; exact k.size, fun i hi => by rw [e]; exact hb i hi⟩⟩
  have hsc : ∀ (Z : World) (c o : Nat) (u : Value) (k : Nat), k ≠ c → (Z.setCell ⟨c, o, none⟩ u).heap[k]? = Z.heap[k]? := fun Z c o u k hk => Below.heap_setCell _ _ _ k (by simpa using hk)
  rcases hX with hX | hX
  · refine ⟨?_, ?_, key _ hX ((((KeepsOthers.setCell _ _ _).trans (KeepsOthers.setCell _ _ _)).trans (KeepsOthers.setCell _ _ _)).trans (KeepsOthers.setCell _ _ _)) fun k hk => by rw [hsc _ _ _ _ _ (by omega), hsc _ _ _ _ _ (by omega), hsc _ _ _ _ _ (by omega), hsc _ _ _ _ _ (by omega)]⟩
    · rw [hX, hsc _ _ _ _ _ (by omega)]
      exact set_at (set_at (set_at h4 0 _) 1 _) 2 _
    · rw [hX]
      exact set_at ((hsc _ _ _ _ _ (by omega)).trans ((hsc _ _ _ _ _ (by omega)).trans ((hsc _ _ _ _ _ (by omega)).trans h5))) 0 _
  · refine ⟨?_, ?_, key _ hX ((((KeepsOthers.setCell _ _ _).trans (KeepsOthers.setCell _ _ _)).trans (KeepsOthers.setCell _ _ _)).trans (KeepsOthers.setCell _ _ _)) fun k hk => by rw [hsc _ _ _ _ _ (by omega), hsc _ _ _ _ _ (by omega), hsc _ _ _ _ _ (by omega), hsc _ _ _ _ _ (by omega)]⟩
    · rw [hX]
      exact set_at (set_at (set_at ((hsc _ _ _ _ _ (by omega)).trans h4) 0 _) 1 _) 2 _
    · rw [hX, hsc _ _ _ _ _ (by omega), hsc _ _ _ _ _ (by omega), hsc _ _ _ _ _ (by omega)]
      exact set_at h5 0 _
def nz (x : Acc) : Bool := !decide (x.1 = ⟨#[]⟩) || (!decide (x.2.1 = 0) || !decide (x.2.2 = 0))
theorem nz_valid {x : Acc} (h : pvB x.2 = true) : nz x = true := by
  rw [pvB_iff] at h
  have : x.2.2 ≠ 0 := by omega
  simp [nz, this]
def OvI (W0 : World) (pre : List Acc) (W : World) : Prop := pre = [] ∧ KpT W0.heap.size W0.heap.size 32 26 W0 W
def OvX (w : World) (c : Code) (pre : List Acc) (W : World) : Prop := c = .ret ∧ ∃ x : Acc, pre = [x] ∧ W.heap[w.heap.size]? = some (.cells #[.string x.1, .int .i64 x.2.1, .int .i64 x.2.2] 32) ∧ W.heap[w.heap.size + 1]? = some (.cells #[.bool (nz x)] 4) ∧ Below w.heap.size w W
theorem ov_cells {W : World} {b D : Nat} {x : Acc} {v : Bool} {o : Obj} (h4 : W.heap[b]? = some (.cells #[.string x.1, .int .i64 x.2.1, .int .i64 x.2.2] 32)) (h5 : W.heap[b + 1]? = some (.cells #[.bool v] 4)) (hK : W.heap[D]? = some o) (ho : o.isCells = false) :
    (W.putObj D (.deferred none)).cell? ⟨b, 0, none⟩ = some (.string x.1) ∧ (W.putObj D (.deferred none)).cell? ⟨b, 1, none⟩ = some (.int .i64 x.2.1) ∧ (W.putObj D (.deferred none)).cell? ⟨b, 2, none⟩ = some (.int .i64 x.2.2) ∧ (W.putObj D (.deferred none)).cell? ⟨b + 1, 0, none⟩ = some (.bool v) := by
  have h1 : b ≠ D := fun e => by subst e; rw [h4] at hK; cases hK; cases ho
  have h2 : b + 1 ≠ D := fun e => by subst e; rw [h5] at hK; cases hK; cases ho
  have e4 := (World.putObj_heap_other (w := W) (r := D) (o := .deferred none) h1).trans h4
  have e5 := (World.putObj_heap_other (w := W) (r := D) (o := .deferred none) h2).trans h5
  refine ⟨?_, ?_, ?_, ?_⟩ <;> simp [World.cell?, e4, e5]
theorem ov_below {W : World} {n D : Nat} {o : Obj} (hK : W.heap[D]? = some o) (hn : n ≤ D) : Below n W (W.putObj D (.deferred none)) :=
  Below.grown (Below.refl _ _) (grownBy_putObj' W D (.deferred none)) (by have := (Array.getElem?_eq_some_iff.1 hK).1; omega) (fun r e => by cases e; exact hn)
theorem comF_nil {a b : List Acc} {t : List UInt8} (h : ofF (perV a t) = []) : comF a b t = [] := by
  refine can_unique (combF_can _ _ _) can_nil fun x => ?_
  show inL (comF a b t) x = _
  rw [comF_in, ← inL_perV, ← ofF_in, h]; rfl
@[go_sem high] theorem neq_access_lit (s s' : ByteArray) (p q p' q' : Int) (w : World) : (binOp .neq 32 (.agg #[.string s, .int .i64 p, .int .i64 q]) (.agg #[.string s', .int .i64 p', .int .i64 q'])).run Tryz.prog w = .ok (.bool (!decide (((s, (p, q)) : Acc) = (s', (p', q'))))) w := neq_access (s, (p, q)) (s', (p', q')) w


set_option maxRecDepth 100000 in
set_option maxHeartbeats 8000000 in
theorem overlap_any (A B : Option Addr) (na nb ca cb : Nat) (la lb : List Acc) (w : World) (hna : na = la.length) (hnb : nb = lb.length) (hA : Rd w 3 A na (acl la)) (hB : Rd w 3 B nb (acl lb)) (hla : la.length ≤ 1048576) (hlb : lb.length ≤ 1048576) (hwa : ∀ a ∈ la, a.1.size ≤ maxLen) (hwb : ∀ a ∈ lb, a.1.size ≤ maxLen) :
    Calls Tryz.prog 11 #[.slice A na ca, .slice B nb cb] w fun e w' => ∃ r, Common la lb r ∧ e = .returned (.tuple #[acg (headF r).1, .bool (headF r).2]) ∧ Ext w w' := by
  subst hna hnb
  have hmm := @run_makeMap Tryz.prog
  have HSA := Lib.hid (fun w h => spans_any A la.length ca la w rfl h hla hwa)
  have HSB := Lib.hid (fun w h => spans_any B lb.length cb lb w rfl h hlb hwb)
  have HCR : Hid (∀ ks, ks.Pairwise (· < ·) → (∀ t, t ∈ ks ↔ comF la lb t ≠ []) → Common la lb (regL (comF la lb) ks)) := Lib.hid (fun ks hk hm => common_regL hk hm)
  have HNI : Hid (∀ t, ofF (perV la t) = [] → comF la lb t = []) := Lib.hid (fun t h => comF_nil h)
  have HCL : Hid (∀ t, (comF la lb t).length ≤ 549755813888) := Lib.hid (fun t => can_short (combF_can _ _ _))
  have HIN := Lib.hid (fun t A2 c2 B2 d2 w h1 h2 => sintersect_any A2 B2 c2 d2 (ofF (perV la t)) (ofF (perV lb t)) w h1 h2 (can_short (ofF_can _)) (can_short (ofF_can _)))
  clear hwa hwb
  refine (callsIn_wide (n := 9)).1 ?_
  refine callsIn_of_wp_marks Tryz.func11 rfl trivial ?_ rfl
  simp only [Tryz.ntmps11, List.size_toArray, List.length_cons, List.length_nil, Nat.reduceAdd, Nat.reduceSub, Array.replicate_succ, Array.replicate_zero, List.push_toArray, List.append_toArray, List.nil_append, List.cons_append]
  gi_wp2_with (refine ⟨trivial, ?_⟩; gi_at_call 29; (with_reducible refine CallsIn.mono (callsIn_to (HSA.out _ (hA.ext (by repeat (first | exact Ext.refl' _ | assumption | apply Ext.ex' | apply Ext.al | apply Ext.drN | apply Ext.dr))))) ?_); rintro e w1 ⟨b1, rfl, hb1, hX⟩)
  have hE1 : Ext ((w.alloc (.cells #[.string ⟨#[]⟩, .int .i64 0, .int .i64 0] 32)).alloc (.cells #[.bool false] 4)) w1 := hb1
  clear hb1
  gi_wp2_with (first | (refine ⟨trivial, ?_⟩; gi_at_call 29; (with_reducible refine CallsIn.mono (callsIn_to (HSB.out _ ((hB.ext (by repeat (first | exact Ext.refl' _ | assumption | apply Ext.ex' | apply Ext.al | apply Ext.drN | apply Ext.dr))).ext hE1))) ?_); rintro e w2 ⟨b2, rfl, hb2, hY⟩; have hX2 := hX.ext hb2; obtain ⟨D1, ho1, hm1, hh1⟩ := hX2; obtain ⟨D2, ho2, hm2, hh2⟩ := hY) | (gi_at_range; refine wpListIn_range_own _ rfl _ 53 rfl 9 44 keyT Tryz.underlying53 heldR b1 la.length D1 rfl (ho1.alloc _) ?_; intro w0 hrg0 hg0 hs0))
  go_frame
  simp only [World.size_alloc] at hrg0 hs0 ⊢
  have hbl1 := ho1.lt
  have hsz1 := ho1.size_le
  have hE20 : Ext w2 w0 := Below.grown (show Ext w2 (w2.alloc (.map #[] 0)) from (by repeat (first | exact Ext.refl' _ | assumption | apply Ext.ex' | apply Ext.al | apply Ext.drN | apply Ext.dr))) hg0 (by simp) (fun j hj => by cases hj)
  have hc0 : w0.ownsMap Tryz.prog 9 heldR w2.heap.size 0 (.map []) := (World.ownsMap_made w2 _ _ _).kept hg0 (by simp)
  have hF0 : ∀ t, (if Maps.has D1 (.string t) then [] else comF la lb t) = [] := fun t => by
    rw [hh1 t]
    by_cases h : ofF (perV la t) = []
    · simp [h, HNI.out t h]
    · simp [h]
  have hM0 := MapD.start w0 hF0
  have hH0 : ∀ t, Maps.has (.map [] : DataW Value) (.string t) = decide ((if Maps.has D1 (.string t) then [] else comF la lb t) ≠ []) := fun t => by rw [hF0 t]; rfl
  clear hg0 hF0 hX
  gi_loopw [9] (fun _ wr => ∃ (Dc : DataW Value) (left : Lit → Bool) (cnt nc : Nat), wr.ranges Tryz.prog 9 heldR b1 (w2.heap.size + 1) la.length D1 left cnt ∧ wr.ownsMap Tryz.prog 9 heldR w2.heap.size nc Dc ∧ nc + cnt ≤ la.length ∧ MapD wr Dc (fun t => if left (.string t) then [] else comF la lb t) ∧ (∀ t, Maps.has Dc (.string t) = decide ((if left (.string t) then [] else comF la lb t) ≠ [])) ∧ Ext w2 wr) (fun _ wr => wr.rangeLeft b1 (w2.heap.size + 1))
  case atStart => exact ⟨_, _, _, 0, hrg0, hc0, by omega, hM0, hH0, hE20⟩
  case round =>
    clear hrg0 hc0 hM0 hH0 hE20 hs0
    obtain ⟨Dc, left, cnt, nc, hrg, hown, hnc, hM, hH, hE⟩ := hrel
    gi_wp2_with (gi_at_next; refine wpListIn_next_ranges _ rfl _ rfl 9 keyT heldR (fun s : ByteArray => .string s) (fun v : Value => v) (fun key kl h => by obtain ⟨x, hx, _⟩ := Maps.keyOf_str Tryz.underlying9 h; exact ⟨_, hx⟩) (fun v y _ => ⟨v, rfl⟩) b1 (w2.heap.size + 1) la.length D1 left cnt rfl hrg ?_ ?_)
    · intro hc0 hl0
      have hF1 : (fun t => if left (.string t) then [] else comF la lb t) = comF la lb := by funext t; rw [hl0]; rfl
      have hMR : MapR wr w2.heap.size la.length (comF la lb) := ⟨Dc, hown.mono (by omega), by rw [← hF1]; exact hM, fun t => by rw [hH t, hl0]; rfl⟩
      clear hrg hown hM hH hF1 hl0
      obtain ⟨ks, hk, hm, hkl⟩ := hMR.keys
      have hCR := HCR.out ks hk hm
      have hEb := hE1.tr (hb2.tr hE)
      have hb4 : wr.heap[w.heap.size]? = some (.cells #[.string ⟨#[]⟩, .int .i64 0, .int .i64 0] 32) :=
        (hEb.block _ (by simp; omega)).trans ((Below.heap_alloc _ _ _ (by simp)).trans (World.alloc_heap_new w _))
      have hb5 : wr.heap[w.heap.size + 1]? = some (.cells #[.bool false] 4) := by
        have := World.alloc_heap_new (w.alloc (.cells #[.string ⟨#[]⟩, .int .i64 0, .int .i64 0] 32)) (.cells #[.bool false] 4)
        rw [World.size_alloc] at this
        exact (hEb.block _ (by simp)).trans this
      have hEw : Ext w wr := (show Ext w ((w.alloc (.cells #[.string ⟨#[]⟩, .int .i64 0, .int .i64 0] 32)).alloc (.cells #[.bool false] 4)) from (by repeat (first | exact Ext.refl' _ | assumption | apply Ext.ex' | apply Ext.al | apply Ext.drN | apply Ext.dr))).tr hEb
      have hws := hEb.size
      simp only [World.size_alloc] at hws
      clear hm1 hm2 hh1 hh2 ho1 ho2 hE1 hb2 hE hEb hc0 HSA HSB HIN HNI hbl1 hsz1 hmm hA hB
      gi_wp2_with (refine ⟨trivial, ?_⟩; gi_at_call 31; refine CallsIn.mono (callsIn_to (regions_any w2.heap.size _)) ?_; rintro e w' ⟨rfl, rfl⟩)
      obtain ⟨W0, hW0⟩ : ∃ W0, wr.alloc (.cells #[.map (some w2.heap.size)] 53) = W0 := ⟨_, rfl⟩
      have hsz0 : W0.heap.size = wr.heap.size + 1 := by rw [← hW0]; simp
      have hE0 : Ext wr W0 := by rw [← hW0]; exact (by repeat (first | exact Ext.refl' _ | assumption | apply Ext.ex' | apply Ext.al | apply Ext.drN | apply Ext.dr))
      have hbm0 : W0.cell? ⟨wr.heap.size, 0, none⟩ = some (.map (some w2.heap.size)) := by rw [← hW0]; simp [go_sem]
      have hM0 := hMR.ext hE0
      have hb4 := (hE0.block _ (by omega)).trans hb4
      have hb5 := (hE0.block _ (by omega)).trans hb5
      have hE00 := hEw.tr hE0
      rw [hW0]
      clear hW0 hMR hEw
      refine wpIn_rangeFunc_ownH (encs := fun x : Acc => #[acg x]) (F := Fence.wide) (n := 9) (ps := #[38]) (w := W0) (Kp := (KpT W0.heap.size W0.heap.size 32 26)) rfl (by decide) (gf := 46) (lb := #[.pointer (some ⟨wr.heap.size, 0, none⟩)]) rfl trivial (enters_of Tryz.func46 (by kernel_rfl) rfl)
        (regions_stops 7 W0.heap.size W0.heap.size wr.heap.size w2.heap.size la.length (comF la lb) ks W0 hM0 hbm0 hla hk hm HCL.out (Nat.le_refl _) (Nat.le_refl _)) KpT.trans (KpT.kb (Nat.le_refl _)) (Below.refl _ _) (fun _ => rfl)
        (OvI W0) (OvX w)
        (fun pre W W' row ⟨h1, h2⟩ hg hr => ⟨h1, kpt_own (β := Unit) (Nat.le_refl _) () W W' row h2 hg hr⟩)
        (fun c pre Y Y' row ⟨h0, x, h1, h2, h3, h4⟩ hg hr => ⟨h0, x, h1, nodes_kept hg (fun r e => (hr r e).2) h2, nodes_kept hg (fun r e => (hr r e).2) h3, Below.grown h4 hg h4.size (fun r e => by have := (hr r e).1; omega)⟩)
        ⟨rfl, KpT.refl _ _ _ _ _⟩
        (fun x a' W => ∃ bx, W0.heap.size ≤ bx ∧ a' = { tmps := #[.slice A la.length ca, .slice B lb.length cb, undef, undef, .pointer (some ⟨w.heap.size, 0, none⟩), .pointer (some ⟨(w.heap.size + 1), 0, none⟩), .map (some b1), .map (some b2), .map (some w2.heap.size), u9, u10, .pointer (some ⟨bx, 0, none⟩), .slice A la.length ca, .map (some b1), .slice B lb.length cb, .map (some b2), .map (some w2.heap.size), .map (some b1), .pointer (some ⟨(w2.heap.size + 1), 0, none⟩), .tuple #[.bool false], .bool false, u21, u22, u23, u24, u25, u26, u27, u28, u29, u30, u31, u32, u33, u34, u35, .map (some w2.heap.size), .func (.func 46) #[] #[.pointer (some ⟨wr.heap.size, 0, none⟩)], acg x, undef, undef, undef, undef, undef], defers := [] } ∧ W.heap[bx]? = some (.cells #[.string x.1, .int .i64 x.2.1, .int .i64 x.2.2] 32))
        (fun x a' _ Y Y' row ⟨bx, h0, h1, h2⟩ hg hr => ⟨bx, h0, h1, nodes_kept hg (fun r e => (hr r e).2) h2⟩) ?assign ?body ?done ?stop
      case assign =>
        rintro l pre x W K ⟨h1, h2⟩ hK
        gi_wp2
        have hEW : Ext W (W.alloc (.cells #[.string x.1, .int .i64 x.2.1, .int .i64 x.2.2] 32)) := (by repeat (first | exact Ext.refl' _ | assumption | apply Ext.ex' | apply Ext.al | apply Ext.drN | apply Ext.dr))
        have hWs := h2.but.size
        exact hK _ _ ((keepsOthers_ext hEW).from _) (KpT.ofExt hEW hWs) ⟨h1, h2.trans (KpT.ofExt hEW hWs)⟩ ⟨_, hWs, rfl, World.alloc_heap_new _ _⟩
      case body =>
        rintro l pre x a' W hl _ ⟨rfl, hk1⟩ ⟨bx, hbw, rfl, hbx⟩ hlt
        obtain ⟨hbs, c0, c1, c2⟩ := acc_cells hbx
        have h4 := (hk1.but.block w.heap.size (by omega) (by omega)).trans hb4
        have h5 := (hk1.but.block (w.heap.size + 1) (by omega) (by omega)).trans hb5
        have hl4 := (Array.getElem?_eq_some_iff.1 h4).1
        have hl5 := (Array.getElem?_eq_some_iff.1 h5).1
        have d0 : W.cell? ⟨w.heap.size, 0, none⟩ = some (.string ⟨#[]⟩) := by simp [World.cell?, h4]
        have d1 : W.cell? ⟨w.heap.size, 1, none⟩ = some (.int .i64 0) := by simp [World.cell?, h4]
        have d2 : W.cell? ⟨w.heap.size, 2, none⟩ = some (.int .i64 0) := by simp [World.cell?, h4]
        have d3 : W.cell? ⟨w.heap.size + 1, 0, none⟩ = some (.bool false) := by simp [World.cell?, h5]
        have f0 : ∀ o, W.frozen? ⟨w.heap.size, o, none⟩ = false := fun o => by simp [World.frozen?, h4]
        have f3 : ∀ o, W.frozen? ⟨w.heap.size + 1, o, none⟩ = false := fun o => by simp [World.frozen?, h5]
        have hn1 : bx ≠ w.heap.size := by omega
        have hn2 : bx ≠ w.heap.size + 1 := by omega
        have hbw1 := Below.trans hE00 (hk1.but.below (n := w.heap.size) (by omega) (by omega))
        have HFIN := Lib.hid (fun (X : World) hX a b c => (by
          obtain ⟨r1, r2, r3, r4⟩ := ov_res (X := X) (s := x.1) (p := x.2.1) (q := x.2.2) (v := nz x) h4 h5 hX a b c
          exact ⟨r3.from _, rfl, x, rfl, r1, r2, hbw1.trans r4⟩ : KeepsFrom W0.heap.size W X ∧ OvX w .ret [x] X))
        clear h4 h5 hk1 hbx hb4 hb5 hM0 hbm0
        gi_wp2
        refine wpIn_region_round_held (S := (fun w' => w'.cell? ⟨bx, 0, none⟩ = some (.string x.1) ∧ w'.cell? ⟨bx, 1, none⟩ = some (.int .i64 x.2.1) ∧ w'.cell? ⟨bx, 2, none⟩ = some (.int .i64 x.2.2))) (by kernel_rfl) (by kernel_rfl) (by rintro ⟨a, w, h⟩; exact h) (by simp [go_sem, ↓IntWalk.iteOmega, *]) (fun hHeld => ?_)
        refine wpAnyH_take (i := 0) (oi := ?oi1) (v := ?v1) ?hi1 (by kernel_rfl) (by kernel_rfl) (by kernel_rfl) ?hQ1 ?hy1 (by assumption) ?_
        case hi1 => (simp only [List.getElem?_toArray, List.getElem?_cons_succ, List.getElem?_cons_zero]; rfl)
        case hQ1 => exact fun _ _ _ h => h
        case hy1 => (refine Or.inl ⟨by rfl, ?_⟩; intro wq hSw; (try dsimp only at hSw); go_simp; (try with_reducible rfl))
        (try simp only [Act.put, List.setIfInBounds_toArray, List.set_cons_zero, List.set_cons_succ])
        refine wpAnyH_take (i := 1) (oi := ?oi2) (v := ?v2) ?hi2 (by kernel_rfl) (by kernel_rfl) (by kernel_rfl) ?hQ2 ?hy2 (by assumption) ?_
        case hi2 => (simp only [List.getElem?_toArray, List.getElem?_cons_succ, List.getElem?_cons_zero]; rfl)
        case hQ2 => exact fun _ _ _ h => h
        case hy2 => (refine Or.inl ⟨by rfl, ?_⟩; intro wq hSw; (try dsimp only at hSw); go_simp; (try with_reducible rfl))
        (try simp only [Act.put, List.setIfInBounds_toArray, List.set_cons_zero, List.set_cons_succ])
        refine wpAnyH_take (i := 2) (oi := ?oi3) (v := ?v3) ?hi3 (by kernel_rfl) (by kernel_rfl) (by kernel_rfl) ?hQ3 ?hy3 (by assumption) ?_
        case hi3 => (simp only [List.getElem?_toArray, List.getElem?_cons_succ, List.getElem?_cons_zero]; rfl)
        case hQ3 => exact fun _ _ _ h => h
        case hy3 => (refine Or.inl ⟨by rfl, ?_⟩; intro wq hSw; (try dsimp only at hSw); go_simp; (try with_reducible rfl))
        (try simp only [Act.put, List.setIfInBounds_toArray, List.set_cons_zero, List.set_cons_succ])
        refine wpAnyH_take (i := 3) (oi := ?oi4) (v := ?v4) ?hi4 (by kernel_rfl) (by kernel_rfl) (by kernel_rfl) ?hQ4 ?hy4 (by assumption) ?_
        case hi4 => (simp only [List.getElem?_toArray, List.getElem?_cons_succ, List.getElem?_cons_zero]; rfl)
        case hQ4 => exact fun _ _ _ h => h
        case hy4 => (refine Or.inl ⟨by rfl, ?_⟩; intro wq hSw; (try dsimp only at hSw); go_simp; (try with_reducible rfl))
        (try simp only [Act.put, List.setIfInBounds_toArray, List.set_cons_zero, List.set_cons_succ])
        refine wpAnyH_ready (rs := [4]) (by kernel_rfl) (by simp) ?_
        refine AllReadyH.cons (o := ?oi5) ?hi5 ?ti5 AllReadyH.nil
        case hi5 => (simp only [List.getElem?_toArray, List.getElem?_cons_succ, List.getElem?_cons_zero]; rfl)
        case ti5 =>
          intro KQ hKQ
          go_simp
          refine hKQ.out _ _ (by simp [go_sem, ↓IntWalk.iteOmega, *]) (fun hHeld2 => ?_)
          clear hHeld hKQ KQ; have hHeld := hHeld2; clear hHeld2
          (try simp only [Act.put, List.setIfInBounds_toArray, List.set_cons_zero, List.set_cons_succ])
          refine wpAnyH_ready (rs := [5]) (by kernel_rfl) (by simp) ?_
          refine AllReadyH.cons (o := ?oi6) ?hi6 ?ti6 AllReadyH.nil
          case hi6 => (simp only [List.getElem?_toArray, List.getElem?_cons_succ, List.getElem?_cons_zero]; rfl)
          case ti6 =>
            intro KQ hKQ
            go_simp
            refine hKQ.out _ _ (by simp [go_sem, ↓IntWalk.iteOmega, *]) (fun hHeld2 => ?_)
            clear hHeld hKQ KQ; have hHeld := hHeld2; clear hHeld2
            (try simp only [Act.put, List.setIfInBounds_toArray, List.set_cons_zero, List.set_cons_succ])
            refine wpAnyH_done (by kernel_rfl) ?_ _
            gi_wp2
            show KeepsFrom _ _ _ ∧ OvX w .ret [x] _
            refine HFIN.out _ ?_ ?_ ?_ ?_
            · first | exact .inl rfl | exact .inr rfl
            · rfl
            · rfl
            · rfl
      case done =>
        rintro D xs W hD hS ⟨hx0, hk1⟩ hK
        have h4 := (hk1.but.block w.heap.size (by omega) (by omega)).trans hb4
        have h5 := (hk1.but.block (w.heap.size + 1) (by omega) (by omega)).trans hb5
        have hl4 := (Array.getElem?_eq_some_iff.1 h4).1
        have hl5 := (Array.getElem?_eq_some_iff.1 h5).1
        have d0 : W.cell? ⟨w.heap.size, 0, none⟩ = some (.string ⟨#[]⟩) := by simp [World.cell?, h4]
        have d1 : W.cell? ⟨w.heap.size, 1, none⟩ = some (.int .i64 0) := by simp [World.cell?, h4]
        have d2 : W.cell? ⟨w.heap.size, 2, none⟩ = some (.int .i64 0) := by simp [World.cell?, h4]
        have d3 : W.cell? ⟨w.heap.size + 1, 0, none⟩ = some (.bool false) := by simp [World.cell?, h5]
        have f0 : ∀ o, W.frozen? ⟨w.heap.size, o, none⟩ = false := fun o => by simp [World.frozen?, h4]
        have f3 : ∀ o, W.frozen? ⟨w.heap.size + 1, o, none⟩ = false := fun o => by simp [World.frozen?, h5]
        have hbw1 := Below.trans hE00 (hk1.but.below (n := w.heap.size) (by omega) (by omega))
        have HRES := Lib.hid (fun (X : World) hX a b c => ov_res (X := X) (s := ⟨#[]⟩) (p := 0) (q := 0) (v := false) h4 h5 hX a b c)
        have HS : Hid (Common la lb []) := Lib.hid (by rw [hx0] at hS; rw [← hS] at hCR; exact hCR)
        have HK := Lib.hid hK
        clear h4 h5 hk1 hb4 hb5 hM0 hbm0 hS hx0 hCR hK
        gi_wp2
        obtain ⟨r1, r2, r3, r4⟩ := HRES.out _ (.inl rfl) rfl rfl rfl
        have hK := r3.same _ _ HK.out rfl
        refine ⟨by simp, .inl ⟨_, _, rfl, run_takeDeferred hK, ?_⟩⟩
        obtain ⟨q0, q1, q2, q3⟩ := ov_cells (x := (⟨#[]⟩, (0, 0))) (v := false) r1 r2 hK rfl
        refine ⟨.tuple #[acg (⟨#[]⟩, (0, 0)), .bool false], ?_, [], HS.out, rfl, ?_⟩
        · simp [results, Tryz.results11, go_sem, ↓IntWalk.iteOmega, q0, q1, q2, q3]
        · exact (hbw1.trans r4).trans (ov_below hK (by omega))
      case stop =>
        rintro D c pre W hD hSp ⟨rfl, x, rfl, h4, h5, hB⟩ hK
        have hvx : pvB x.2 = true := by
          have h1 := hCR.1.1 x (hSp.subset (by simp))
          exact h1
        have hhd : headF (regL (comF la lb) ks) = (x, true) := by
          obtain ⟨tl, htl⟩ := hSp
          rw [← htl]; rfl
        rw [nz_valid hvx] at h5
        clear hSp
        gi_wp2
        refine ⟨by simp, .inl ⟨_, _, rfl, run_takeDeferred hK, ?_⟩⟩
        obtain ⟨q0, q1, q2, q3⟩ := ov_cells h4 h5 hK rfl
        refine ⟨.tuple #[acg x, .bool true], ?_, _, hCR, by rw [hhd], ?_⟩
        · simp [results, Tryz.results11, go_sem, ↓IntWalk.iteOmega, q0, q1, q2, q3]
        · exact hB.trans (ov_below hK (by omega))
    · intro x v kl yd yp wn cnt1 hkx hlx hv hat hrg1 hlt hg1 hs1 hen
      obtain ⟨x', hx', rfl, hlen⟩ := Maps.keyOf_str Tryz.underlying9 hkx
      have hxd : x.data.toList = x' := by
        have hx' : Value.string x = Value.string ⟨x'.toArray⟩ := hx'
        injection hx' with hx'
        rw [hx']
      subst hxd
      have hws := hE.size
      have hEn : Ext w2 wn := Below.grown hE hg1 hE.size (fun j hj => by cases hj; omega)
      obtain ⟨A1, n1, c1, a1, a2, a3⟩ := hm1.2 x.data.toList
      obtain ⟨A2, n2, c2, e1, e2, e3⟩ := hm2.2 x.data.toList
      subst a2 e2
      have hlk1 : (Instr.lookup 53 (.map (some b1)) (.string x) false).run Tryz.prog wn = .ok (.slice A1 (ofF (perV la x.data.toList)).length c1) wn := look_held (ho1.kept (ext_grown hEn) (by simp)) keyT Tryz.underlying53 (Tryz.zeroValue44 _) hkx a1
      have hlk2 : (Instr.lookup 53 (.map (some b2)) (.string x) false).run Tryz.prog wn = .ok (.slice A2 (ofF (perV lb x.data.toList)).length c2) wn := look_held (ho2.kept (ext_grown hEn) (by simp)) keyT Tryz.underlying53 (Tryz.zeroValue44 _) hkx e1
      have HI := Lib.hid (HIN.out x.data.toList A1 c1 A2 c2 wn (a3.ext hEn) (e3.ext hEn))
      have hGt : combF interK (ofF (perV la x.data.toList)) (ofF (perV lb x.data.toList)) = comF la lb x.data.toList := rfl
      rw [hGt] at HI
      have hcn := hown.kept hg1 (by simp)
      have hMn := hM.kept hg1 (World.ranges.iter hrg)
      have hFe : ∀ s, s ≠ x.data.toList → (if left (.string s) && !(Lit.string s).sameKey (.string x.data.toList) then [] else comF la lb s) = if left (.string s) then [] else comF la lb s := fun s hs => by rw [sameKey_ne (by simpa using hs)]; simp
      have hFx : (if left (.string x.data.toList) && !(Lit.string x.data.toList).sameKey (.string x.data.toList) then [] else comF la lb x.data.toList) = comF la lb x.data.toList := by rw [sameKey_self']; simp
      have hHx : Maps.has Dc (.string x.data.toList) = false := by rw [hH, hlx]; rfl
      obtain ⟨G0, hG0⟩ : ∃ G0, comF la lb x.data.toList = G0 := ⟨_, rfl⟩
      rw [hG0] at HI
      have HFX := Lib.hid (hFx.trans hG0)
      have HG0 := Lib.hid hG0
      have HLX := Lib.hid hlx
      clear hFx hG0
      clear hat hv hs1 hGt
      by_cases hz : G0.length = 0
      · have hg0 : G0 = [] := List.eq_nil_of_length_eq_zero hz
        clear hlx
        gi_wp2_with (refine ⟨trivial, ?_⟩; gi_at_call 30; refine CallsIn.mono (callsIn_to HI.out) ?_; rintro e w5 ⟨A5, c5, rfl, hb5, hP5⟩)
        go_roundw
        case rel =>
          refine ⟨Dc, _, cnt1, nc, hrg1.kept (ext_grown hb5) (by simp) (by simp), hcn.kept (ext_grown hb5) (by simp), by omega, ?_, fun t => ?_, hEn.tr hb5⟩
          · have hMe := hMn.ext hb5
            have : (fun t => if left (.string t) && !(Lit.string t).sameKey (.string x.data.toList) then [] else comF la lb t) = fun t => if left (.string t) then [] else comF la lb t := by
              funext t
              by_cases ht : t = x.data.toList
              · subst ht
                rw [HFX.out, HLX.out, hg0]; rfl
              · exact hFe t ht
            rw [this]; exact hMe
          · by_cases ht : t = x.data.toList
            · subst ht; rw [HFX.out, hHx, hg0]; rfl
            · rw [hFe t ht, hH]
        case measure => rw [(hrg1.kept (ext_grown hb5) (by simp) (by simp)).left_eq, hrg.left_eq]; exact hlt
      · gi_wp2_with (first | (refine ⟨trivial, ?_⟩; gi_at_call 30; refine CallsIn.mono (callsIn_to HI.out) ?_; rintro e w5 ⟨A5, c5, rfl, hb5, hP5⟩) | (gi_at_mapUpdate; refine wpListIn_mapUpdate_own _ rfl _ _ _ 53 rfl 9 44 keyT Tryz.underlying53 heldR w2.heap.size nc Dc rfl (hcn.kept (ext_grown hb5) (by simp)) (by unfold maxLen; omega) (.string x) _ (.string x.data.toList) rfl rfl hkx (.held (.slice A5 G0.length c5)) [] rfl ?_; intro w6 hown6 hg6; go_frame))
        go_roundw
        case rel =>
          have hrg6 := (hrg1.kept (ext_grown hb5) (by simp) (by simp)).kept hg6 (fun e => by have := Option.some.inj e; omega) (fun e => by have := Option.some.inj e; omega)
          have hmc := map_cells (hcn.kept (ext_grown hb5) (by simp))
          refine ⟨_, _, cnt1, nc + 1, hrg6, hown6, by omega, ?_, fun t => ?_, Below.grown (hEn.tr hb5) hg6 (hEn.tr hb5).size (fun j hj => by cases hj; exact Nat.le_refl _)⟩
          · refine MapD.put ((hMn.ext hb5).kept hg6 hmc) ?_ ?_ hFe
            · rw [HFX.out]
            · rw [HFX.out]; exact hP5.kept hg6 hmc
          · by_cases ht : t = x.data.toList
            · subst ht
              rw [has_put_same hM.1 (by trivial), HFX.out]
              have : G0 ≠ [] := fun e => hz (by rw [e]; rfl)
              simp [this]
            · rw [has_put_other (by simpa using ht), hFe t ht, hH]
        case measure =>
          have hrg6 := (hrg1.kept (ext_grown hb5) (by simp) (by simp)).kept hg6 (fun e => by have := Option.some.inj e; omega) (fun e => by have := Option.some.inj e; omega)
          rw [hrg6.left_eq, hrg.left_eq]; exact hlt

end Go.Proofs.YtpifjhoelnacgaaGreat
