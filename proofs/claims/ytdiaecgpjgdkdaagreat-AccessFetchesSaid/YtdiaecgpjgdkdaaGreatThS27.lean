/- Lemmas for the rows: Fen. -/
import Derived.Test.YtdiaecgpjgdkdaaGreatThS04
import Derived.RangeFuncNested
import Derived.RangeFuncBox
import Derived.RangeFuncBound
import Derived.RangeFuncCalls
import Derived.RangeFuncLeaves
import Derived.Shelf.Abstract
import Derived.OwnWalkIn
import Derived.TacticsInMore
import Derived.LoopNIn
import Derived.LoopIn
import Derived.Maps.AppendAt
import Derived.Deep.RegionHeld3
import Derived.StillTailTactics
set_option linter.unusedSimpArgs false
set_option linter.unusedVariables false
namespace Go.Proofs.YtdiaecgpjgdkdaaGreat
open Go.RowKit Go.Shelf

section
variable {P : Program} {l n : Nat} {Q : Exit → Act → World → Prop}

theorem rowsIn_of_rows {row : String} {args : Array Value} {w : World} {R : Value → World → Prop} (h : Rows P row args w R) : RowsIn (Fence.wide.inRound l) n P row args w R :=
 fun c cs _ => let ⟨v, w', r, s⟩ := h c cs; ⟨v, w', r, stepsIn_wide.2 s⟩
theorem callsRound {f : FuncId} {args : Array Value} {w : World} {R : Ending → World → Prop} (h : Calls P f args w R) : CallsIn (Fence.wide.inRound l) n P f args w R :=
 CallsIn.inRound l (callsIn_wide.2 h)

def noDefer (o : Oper) : Bool := match o.op with | .defer _ => false | _ => true
theorem noDefer_op {o : Oper} (h : noDefer o = true) : ∀ c, o.op ≠ .defer c := by
 intro c hc; unfold noDefer at h; rw [hc] at h; cases h

theorem oper_round (hno : ¬ LetsOut Q) {o : Oper} (hd : noDefer o = true) {a : Act} {w : World} {K K' : Act → World → Prop} (hK : ∀ a w, K a w → K' a w)
  (h : o.wp P a w K Q ∨ (o.asks P a w ∧ LetsOut Q)) : o.wpIn (Fence.wide.inRound l) n P a w K' Q := by
 have h := h.resolve_right fun h => hno h.2
 unfold Oper.wp at h
 unfold Oper.wpIn
 refine ⟨fun _ _ => trivial, ?_⟩
 rw [Fence.inRound_round, Oper.semAt_some l _ _ (noDefer_op hd)]
 have hdep : ∀ {p : Prop}, ((Fence.wide.inRound l).depth.isSome = true → p) := fun h => by cases h
 generalize (execOp a.eval o).run P w = r at h ⊢
 cases r with
 | ok x w' =>
  cases x <;> simp only [Oper.upon, Oper.uponIn] at h ⊢
  case value v => exact hK _ _ h
  case skip => exact hK _ _ h
  case defer d => exact hK _ _ h
  case enter f args =>
   refine ⟨hdep, callsRound (Calls.mono h fun e w'' he => ?_)⟩
   cases e with
   | returned v => exact hK _ _ he
   | panicked c => exact he
   | outgrown => exact he
  case row row args => exact ⟨hdep, RowsIn.mono (rowsIn_of_rows h) fun v w'' he => hK _ _ he⟩
 | halt x w' =>
  cases x <;> simp only [Oper.upon, Oper.uponIn] at h ⊢
  case panic v => exact h

theorem wpOp_round (hno : ¬ LetsOut Q) {ops : Array Oper} (hd : ops.all noDefer = true) {i : Nat} {a : Act} {w : World} {K K' : Act → World → Prop} (hK : ∀ a w, K a w → K' a w)
  (h : wpOp P ops Q i K a w) : wpOpIn (Fence.wide.inRound l) n P ops Q i K' a w := by
 unfold wpOp at h
 unfold wpOpIn
 cases ho : ops[i]? with
 | none => rw [ho] at h; exact hK _ _ h
 | some o =>
  rw [ho] at h
  simp only at h ⊢
  have hdo : noDefer o = true := by
   obtain ⟨hi, rfl⟩ := Array.getElem?_eq_some_iff.1 ho
   exact Array.all_eq_true.1 hd i hi
  split
  ·
   rename_i hw
   rw [if_pos hw] at h
   exact oper_round hno hdo hK h
  ·
   rename_i hw
   rw [if_neg hw] at h
   exact ⟨fun _ _ => trivial, hK _ _ h⟩

theorem wpAny_round (hno : ¬ LetsOut Q) {md : Region.Mode} {ops : Array Oper} (hd : ops.all noDefer = true) : ∀ (fuel : Nat) (listed : Array Bool) (a : Act) (w : World),
  wpAny P md ops Q fuel listed a w → wpAnyIn (Fence.wide.inRound l) n P md ops Q fuel listed a w
 | 0, _, _, _, h => h
 | fuel + 1, listed, a, w, h => ⟨h.1, fun i hi => wpOp_round hno hd (fun a' w' h' => wpAny_round hno hd fuel _ a' w' h') (h.2 i hi)⟩

theorem wpIn_region_round {id : Nat} {ops : Array Oper} {a : Act} {w : World} (hm : P.follows .mixedOrders = true) (hd : ops.all noDefer = true) (hno : ¬ LetsOut Q)
  (h : wpAny P .any ops Q ops.size (Array.replicate ops.size false) a { w with drawn := w.drawn + 1 }) : (Code.region id ops true).wpIn (Fence.wide.inRound l) n P Q a w :=
 wpIn_region_any hm (wpAny_round hno hd _ _ _ _ h)
theorem wpIn_region_round_held {id : Nat} {ops : Array Oper} {S : World → Prop} {a : Act} {w : World} (hm : P.follows .mixedOrders = true) (hd : ops.all noDefer = true) (hno : ¬ LetsOut Q) (hS : S w.drew)
  (h : S w.drew → wpAnyH P .any ops Q S ops.size (Array.replicate ops.size false) a w.drew) : (Code.region id ops true).wpIn (Fence.wide.inRound l) n P Q a w :=
 wpIn_region_round hm hd hno (wpAny_of_held _ _ _ _ (h hS))
end

structure But (h B : Nat) (W W' : World) : Prop where
 os : W'.os = W.os
 tape : W'.tape = W.tape
 output : W'.output = W.output
 size : W.heap.size ≤ W'.heap.size
 block : ∀ k, k < h → k ≠ B → W'.heap[k]? = W.heap[k]?
theorem But.refl (h B : Nat) (W : World) : But h B W W := ⟨rfl, rfl, rfl, Nat.le_refl _, fun _ _ _ => rfl⟩
theorem But.trans {h B : Nat} {X Y Z : World} (a : But h B X Y) (b : But h B Y Z) : But h B X Z :=
 ⟨b.os.trans a.os, b.tape.trans a.tape, b.output.trans a.output, Nat.le_trans a.size b.size, fun k hk hB => (b.block k hk hB).trans (a.block k hk hB)⟩
theorem But.ofExt {h B : Nat} {W W' : World} (e : Ext W W') (hh : h ≤ W.heap.size) : But h B W W' := ⟨e.os, e.tape, e.output, e.size, fun k hk _ => e.block k (by omega)⟩
theorem But.set (h B : Nat) (W : World) (v : Value) : But h B W (W.setCell ⟨B, 0, none⟩ v) :=
 ⟨rfl, rfl, rfl, (KeepsWalks.setCell W _ v).size, fun k _ hB => Below.heap_setCell _ _ _ k (fun e => hB (by rw [e]))⟩
theorem But.grown {h B : Nat} {W W' : World} {row : Option Nat} (hg : W.grownBy W' row) (hr : ∀ r, row = some r → h ≤ r) (hh : h ≤ W.heap.size) : But h B W W' :=
 ⟨hg.os, hg.tape, hg.output, hg.size, fun k hk _ => hg.block k (by omega) (fun e => by have := hr k e.symm; omega)⟩
theorem But.below {h B n : Nat} {W W' : World} (b : But h B W W') (h1 : n ≤ h) (h2 : n ≤ B) : Below n W W' :=
 ⟨b.os, b.tape, b.output, b.size, fun k hk => b.block k (by omega) (by omega)⟩
theorem But.kb {h B : Nat} {w : World} (hh : h ≤ w.heap.size) (W : World) (l : Nat) (o o' : Obj) (hl : w.heap.size ≤ l) (hW : W.heap[l]? = some o) (_ : o.isCells = false) (_ : o.isWalk = false) : But h B W (W.putObj l o') :=
 But.grown (grownBy_putObj' W l o') (fun r e => by cases e; omega) (by have := (Array.getElem?_eq_some_iff.1 hW).1; omega)
theorem But.own {β : Type} {h B : Nat} {w₀ : World} (hh : h ≤ w₀.heap.size) : OwnFrom h (fun (_ : β) W => But h B w₀ W) :=
 fun _ X Y row hs hg hr => hs.trans (But.grown hg (fun r e => (hr r e).1) (Nat.le_trans hh hs.size))
theorem But.cell {h B : Nat} {W W' : World} (b : But h B W W') {k o : Nat} (hk : k < h) (hB : k ≠ B) : W'.cell? ⟨k, o, none⟩ = W.cell? ⟨k, o, none⟩ :=
 World.cell?_of_block (b.block k hk hB)
theorem keepsOthers_ext {W W' : World} (e : Ext W W') : KeepsOthers W W' := ⟨e.size, fun k o hk _ => (e.block k (Array.getElem?_eq_some_iff.1 hk).1).trans hk⟩
theorem keepsOthers_set (W : World) (p : Addr) (v : Value) : KeepsOthers W (W.setCell p v) := KeepsOthers.setCell _ _ _
theorem boxed_ext {W W' : World} {B : Nat} {t : TypeId} {v : Value} (h : Boxed W B t v) (e : Ext W W') : Boxed W' B t v := (e.block B h.lt).trans h
theorem ownsRow_ext {W W' : World} {base e size n : Nat} {v : Value} {xs : List Value} (h : W.ownsRow base e size v n xs) (E : Ext W W') : W'.ownsRow base e size v n xs := by
 obtain ⟨x, rfl⟩ := E.get
 exact own_ext h x
theorem row_block {W : World} {base e size k : Nat} {v : Value} {xs : List Value} (hr : W.ownsRow base e size v k xs) {r : Nat} (h : v.ownBlock = some r) : base ≤ r ∧ r < W.heap.size ∧ ∃ c f, W.heap[r]? = some (.cells c e f) := by
 rcases hr.2 with ⟨rfl, _⟩ | ⟨g, cap, cur, rfl, hb, hgb, _⟩
 ·
  simp [Value.ownBlock] at h
 ·
  obtain rfl : g = r := by simpa [Value.ownBlock] using h
  exact ⟨hb, (Array.getElem?_eq_some_iff.1 hgb).1, _, _, hgb⟩

theorem boxed_app {W w1 : World} {h B : Nat} {t e : TypeId} {size : Nat} {v v' : Value} {k m : Nat} {xs ys : List Value} {tmp : Obj}
  (hv : Boxed W B t v) (hte : t ≠ e) (hrow : W.ownsRow h e size v k xs) (hn : h ≤ W.heap.size)
  (hown' : w1.ownsRow h e size v' m ys) (hgrow : (W.alloc tmp).grownBy w1 v.ownBlock) :
  Boxed w1 B t v ∧ Boxed (w1.setCell ⟨B, 0, none⟩ v') B t v' ∧ (w1.setCell ⟨B, 0, none⟩ v').ownsRow h e size v' m ys ∧ KeepsOthers W (w1.setCell ⟨B, 0, none⟩ v') ∧ But h B W (w1.setCell ⟨B, 0, none⟩ v') ∧
   ∀ (p : Nat) (c : Array Value) (ty : TypeId) (f : Nat × Nat), W.heap[p]? = some (.cells c ty f) → ty ≠ e → ty ≠ t → (w1.setCell ⟨B, 0, none⟩ v').heap[p]? = some (.cells c ty f) := by
 have hv1 : Boxed w1 B t v := (hv.alloc tmp).kept hgrow (hv.not_row hte hrow)
 have hsz : (W.alloc tmp).heap.size ≤ w1.heap.size := hgrow.size
 refine ⟨hv1, hv1.set v', hown'.kept (grownBy_setCell' w1 B v') (.inr (hv1.not_row hte hown').symm), ?_, ?_, ?_⟩
 ·
  refine ((KeepsOthers.alloc W tmp).trans (KeepsOthers.of_grownBy hgrow fun j o ej hj => ?_)).trans (KeepsOthers.setCell _ _ _)
  obtain ⟨_, _, c, f, hc⟩ := row_block (hrow.alloc tmp) ej
  rw [hc] at hj; cases hj; rfl
 ·
  exact ((But.ofExt (Ext.al1 W tmp) hn).trans (But.grown hgrow (fun r er => (row_block hrow er).1) (by simp; omega))).trans (But.set h B w1 v')
 ·
  intro p c ty f hp hty htt
  have hlt := (Array.getElem?_eq_some_iff.1 hp).1
  have hp1 : (W.alloc tmp).heap[p]? = some (.cells c ty f) := ((Ext.al1 W tmp).block p hlt).trans hp
  have hp2 : w1.heap[p]? = some (.cells c ty f) := by
   refine (hgrow.block p (by simp; omega) (fun er => ?_)).trans hp1
   obtain ⟨_, _, c', f', hc'⟩ := row_block (hrow.alloc tmp) er.symm
   rw [hp1] at hc'; cases hc'; exact hty rfl
  refine (Below.heap_setCell _ _ _ p (fun er => ?_)).trans hp2
  have er : p = B := by simpa using er
  subst er
  have := (show w1.heap[p]? = _ from hv1).symm.trans hp2
  simp at this
  exact htt this.2.1.symm
theorem nodes_kept {W W' : World} {row : Option Nat} (hg : W.grownBy W' row) (hr : ∀ r, row = some r → ∃ o : Obj, W.heap[r]? = some o ∧ o.isCells = false) {p : Nat} {c : Array Value} {ty : TypeId} {f : Nat × Nat} (hp : W.heap[p]? = some (.cells c ty f)) : W'.heap[p]? = some (.cells c ty f) := by
 refine (hg.block p (Array.getElem?_eq_some_iff.1 hp).1 (fun e => ?_)).trans hp
 obtain ⟨o, ho, hc⟩ := hr p e.symm
 rw [hp] at ho; cases ho; cases hc
theorem row_kept {W W' : World} {row : Option Nat} (hg : W.grownBy W' row) (hr : ∀ r, row = some r → ∃ o : Obj, W.heap[r]? = some o ∧ o.isCells = false) {base e size k : Nat} {v : Value} {xs : List Value} (h : W.ownsRow base e size v k xs) : W'.ownsRow base e size v k xs := by
 refine h.kept hg ?_
 rcases h.2 with ⟨rfl, _⟩ | ⟨g, cap, cur, rfl, _, hgb, _⟩
 ·
  exact .inl rfl
 ·
  refine .inr fun e' => ?_
  obtain ⟨o, ho, hc⟩ := hr g (by simpa [Value.ownBlock] using e'.symm)
  rw [hgb] at ho; cases ho; cases hc
theorem boxed_kept {W W' : World} {row : Option Nat} (hg : W.grownBy W' row) (hr : ∀ r, row = some r → ∃ o : Obj, W.heap[r]? = some o ∧ o.isCells = false) {B : Nat} {t : TypeId} {v : Value} (h : Boxed W B t v) : Boxed W' B t v :=
 nodes_kept hg hr h
theorem roundAnyDepth {m m' : Nat} {P : Program} {l : Nat} {f : FuncId} {tmps : Array Value} {assign body : Code} {w : World} {R : Ending → World → Prop} (h : RoundIn Fence.wide m P l f tmps assign body w R) : RoundIn Fence.wide m' P l f tmps assign body w R :=
 ⟨h.1, fun c cs _ => h.2 c cs (room_wide _)⟩
theorem yieldAnyDepth {m : Nat} (m' : Nat) {P : Program} {l : Nat} {args : Array Value} {W : World} {R : Ending → World → Prop} (h : YieldAt Fence.wide m P l args W R) : YieldAt Fence.wide m' P l args W R := by
 obtain ⟨fn, tmps, assign, body, hy, hR⟩ := h
 exact ⟨fn, tmps, assign, body, hy, roundAnyDepth hR⟩
structure KpT (h B : Nat) (t1 t2 : TypeId) (W W' : World) : Prop where
 but : But h B W W'
 blk : ∀ (k : Nat) (c : Array Value) (t : TypeId) (f : Nat × Nat), W.heap[k]? = some (.cells c t f) → t ≠ t1 → t ≠ t2 → W'.heap[k]? = some (.cells c t f)
theorem KpT.refl (h B : Nat) (t1 t2 : TypeId) (W : World) : KpT h B t1 t2 W W := ⟨But.refl _ _ _, fun _ _ _ _ h _ _ => h⟩
theorem KpT.trans {h B : Nat} {t1 t2 : TypeId} {X Y Z : World} (a : KpT h B t1 t2 X Y) (b : KpT h B t1 t2 Y Z) : KpT h B t1 t2 X Z :=
 ⟨a.but.trans b.but, fun k c t f hk h1 h2 => b.blk k c t f (a.blk k c t f hk h1 h2) h1 h2⟩
theorem KpT.ofExt {h B : Nat} {t1 t2 : TypeId} {W W' : World} (e : Ext W W') (hh : h ≤ W.heap.size) : KpT h B t1 t2 W W' :=
 ⟨But.ofExt e hh, fun k _ _ _ hk _ _ => (e.block k (Array.getElem?_eq_some_iff.1 hk).1).trans hk⟩
theorem KpT.kb {h B : Nat} {t1 t2 : TypeId} {w : World} (hh : h ≤ w.heap.size) (W : World) (l : Nat) (o o' : Obj) (hl : w.heap.size ≤ l) (hW : W.heap[l]? = some o) (h1 : o.isCells = false) (h2 : o.isWalk = false) : KpT h B t1 t2 W (W.putObj l o') :=
 ⟨But.kb hh W l o o' hl hW h1 h2, fun k c t f hk _ _ => nodes_kept (grownBy_putObj' W l o') (fun r e => by cases e; exact ⟨_, hW, h1⟩) hk⟩
theorem drewN_grown (w : World) (n : Nat) : w.grownBy (w.drewN n) none := by
 induction n generalizing w with
 | zero => exact World.grownBy.refl w _
 | succ n ih => exact (ih w).trans (show (w.drewN n).grownBy (w.drewN n).drew none from ⟨rfl, rfl, rfl, Nat.le_refl _, fun _ _ _ => rfl⟩)
theorem ext_grown {W W' : World} (e : Ext W W') : W.grownBy W' none := ⟨e.os, e.tape, e.output, e.size, fun k hk _ => e.block k hk⟩
theorem callsIn_to {n : Nat} {P : Program} {f : FuncId} {args : Array Value} {w : World} {R : Ending → World → Prop} (h : Calls P f args w R) : CallsIn Fence.wide n P f args w R := callsIn_wide.2 h
end Go.Proofs.YtdiaecgpjgdkdaaGreat
