/- slices.Clone, Insert, Delete on owned rows: of pairs, of pointers to nodes. -/
import Derived.Test.YtdmbgimehepfaaaBtR
import Derived.Lib.Overlaps
import Derived.Lib.SliceRun
import Derived.Laws.Externs
import Derived.Deep.RegionHeld3
set_option linter.unusedSimpArgs false
set_option linter.unusedVariables false
namespace Go.Proofs.Ytdmbgimehepfaaa
open Go.RowKit


/-- the cells of a pair -/
def mp2 (p : MP) : List Value := [.slice p.A p.n p.c, .int .i64 p.id]
def mpl (l : List MP) : List Value := l.flatMap mp2
theorem mpl_length : ∀ (l : List MP), (mpl l).length = l.length * 2
  | [] => rfl
  | a :: l => by have := mpl_length l; simp [mpl, mp2, Nat.add_mul] at *; omega
theorem mpl_append (a b : List MP) : mpl (a ++ b) = mpl a ++ mpl b := by simp [mpl]
theorem mpl_one (a : MP) : mpl [a] = mp2 a := by simp [mpl]
theorem oneCell_mpl (l : List MP) : ∀ u ∈ mpl l, u.oneCell' = true := by
  intro u hu; obtain ⟨v, _, hv⟩ := List.mem_flatMap.1 hu; simp [mp2] at hv; rcases hv with rfl | rfl <;> rfl
abbrev pt (p : Nat) : Value := .pointer (some ⟨p, 0, none⟩)
def ptl (l : List Nat) : List Value := l.map pt
theorem ptl_length (l : List Nat) : (ptl l).length = l.length := by simp [ptl]
theorem ptl_append (a b : List Nat) : ptl (a ++ b) = ptl a ++ ptl b := by simp [ptl]
theorem oneCell_ptl (l : List Nat) : ∀ u ∈ ptl l, u.oneCell' = true := by
  intro u hu; simp [ptl] at hu; obtain ⟨a, _, rfl⟩ := hu; rfl
theorem elPair : El Try.prog 61 59 (.agg #[.slice none 0 0, .int .i64 0]) 2 32 := ⟨Try.underlying61, info_parts (by kernel_rfl), rfl, by decide⟩
theorem elPtr : El Try.prog 62 52 (.pointer none) 1 8 := ⟨Try.underlying62, info_parts (by kernel_rfl), rfl, by decide⟩
section
variable {P : Program} (w : World)
/-- append to an owned row, in any world -/
theorem run_app3 {t e ty : TypeId} {z : Value} {size bytes : Nat} (E : El P t e z size bytes) (base : Nat) (hbase : base ≤ w.heap.size) (v : Value) (n : Nat) (xs : List Value) (hown : w.ownsRow base e size v n xs)
    (A : Option Addr) (m c : Nat) (news : List Value) (hr : Rd w size A m news) (h1 : ∀ u ∈ news, u.oneCell' = true) (h63 : n + m ≤ maxLen) (hbytes : (n + m) * bytes ≤ 140737488355328) :
    ∃ v' w', (Builtin.append_ #[t, t] ty #[v, .slice A m c]).run P w = .ok v' w' ∧ w'.ownsRow base e size v' (n + m) (xs ++ news) ∧ w.grownBy w' v.ownBlock ∧ ∀ g, v'.ownBlock = some g → v.ownBlock = some g ∨ w.heap.size ≤ g := by
  have key : ∃ v' w', (Builtin.append_ #[t, t] ty #[v, .slice A m c]).run P w = .ok v' w' ∧ w'.ownsRow base e size v' (n + m) (xs ++ news) ∧ w.grownBy w' v.ownBlock := by
    obtain ⟨i, hi, hz, hs, hb⟩ := E.hi
    rcases A with _ | ad
    · have hm : m = 0 := by
        rcases Nat.eq_zero_or_pos m with h0 | h0
        · exact h0
        · obtain ⟨b, o, h, _⟩ := hr.2 (Nat.mul_pos h0 E.hsz)
          cases h
      subst hm
      have hn : news = [] := List.eq_nil_of_length_eq_zero (by simpa using hr.1)
      subst hn
      exact ⟨v, w, run_append_nil w base t ty e i size E.ht hi v n xs hown c, by simpa using hown, World.grownBy.refl w _⟩
    · have hcells : ∀ j u, news[j]? = some u → w.cell? (ad.add j) = some u := by
        intro j u hu
        rcases Nat.eq_zero_or_pos m with h0 | h0
        · subst h0
          have hn : news = [] := List.eq_nil_of_length_eq_zero (by simpa using hr.1)
          subst hn
          simp at hu
        · obtain ⟨b, o, h, _, hc⟩ := hr.2 (Nat.mul_pos h0 E.hsz)
          injection h with h
          subst h
          rw [add_none]
          exact hc j u hu
      obtain ⟨v', w', hrun, h2, h3, _⟩ := run_append_own (P := P) w base t ty e i z size bytes E.ht hi hz hs hb E.hzs E.hsz v n xs hown ad m c news hr.1 hcells h1 h63 hbytes hbase
      exact ⟨v', w', hrun, h2, h3⟩
  obtain ⟨v', w', hrun, h2, h3⟩ := key
  exact ⟨v', w', hrun, h2, h3, app_block (P := P) w E base hbase v n xs hown A m c news hr h1 h63 hbytes v' w' hrun⟩
theorem wp_runA {o : Oper} {a : Act} {K : Act → World → Prop} {Q : Exit → Act → World → Prop} (s x : Operand) (t t' : TypeId)
    (ho : o.op = .call { callee := .builtin .append, args := #[s, x], argTypes := #[t, t'] }) (vs vx : Value) (hs : a.eval s = vs) (hx : a.eval x = vx)
    {v' : Value} {w' : World} (hr : (Builtin.append_ #[t, t'] o.type #[vs, vx]).run P w = .ok v' w') (h : K (a.put o.dst v') w') : o.wp P a w K Q := by
  unfold Oper.wp execOp
  simp only [ho, resolve, invoke, builtin, Sem.run_bind, Sem.run_pure, Result.andThen_ok, List.map_toArray, List.map_cons, List.map_nil, hs, hx, hr]
  exact h
theorem wp_runC {o : Oper} {a : Act} {K : Act → World → Prop} {Q : Exit → Act → World → Prop} (s x : Operand) (t t' : TypeId)
    (ho : o.op = .call { callee := .builtin .copy, args := #[s, x], argTypes := #[t, t'] }) (vs vx : Value) (hs : a.eval s = vs) (hx : a.eval x = vx)
    {v' : Value} {w' : World} (hr : (Builtin.copy_ #[t, t'] o.type #[vs, vx]).run P w = .ok v' w') (h : K (a.put o.dst v') w') : o.wp P a w K Q := by
  unfold Oper.wp execOp
  simp only [ho, resolve, invoke, builtin, Sem.run_bind, Sem.run_pure, Result.andThen_ok, List.map_toArray, List.map_cons, List.map_nil, hs, hx, hr]
  exact h
theorem wpList_app3 {ops : Array Oper} {rest : List Oper} {o : Oper} {a : Act} {Q : Exit → Act → World → Prop} (hgd : o.guard = none) (s x : Operand) {t e : TypeId} {z : Value} {size bytes : Nat}
    (ho : o.op = .call { callee := .builtin .append, args := #[s, x], argTypes := #[t, t] }) (E : El P t e z size bytes) (base : Nat) (hbase : base ≤ w.heap.size) (v : Value) (n : Nat) (xs : List Value) (hs : a.eval s = v) (hown : w.ownsRow base e size v n xs)
    (A : Option Addr) (m c : Nat) (news : List Value) (hx : a.eval x = .slice A m c) (hr : Rd w size A m news) (h1 : ∀ u ∈ news, u.oneCell' = true) (h63 : n + m ≤ maxLen) (hbytes : (n + m) * bytes ≤ 140737488355328)
    (h : ∀ v' w', w'.ownsRow base e size v' (n + m) (xs ++ news) → w.grownBy w' v.ownBlock → (∀ g, v'.ownBlock = some g → v.ownBlock = some g ∨ w.heap.size ≤ g) → wpList P ops Q rest (a.put o.dst v') w') : wpList P ops Q (o :: rest) a w :=
  wpList_plain hgd fun K hK => by
    obtain ⟨v', w', hrun, h2, h3, h4⟩ := run_app3 (P := P) (ty := o.type) w E base hbase v n xs hown A m c news hr h1 h63 hbytes
    exact wp_runA w s x t t ho _ _ hs hx hrun (hK _ _ (h v' w' h2 h3 h4))
theorem wpList_copyR {ops : Array Oper} {rest : List Oper} {o : Oper} {a : Act} {Q : Exit → Act → World → Prop} (hgd : o.guard = none) (s x : Operand) (t t' : TypeId)
    (ho : o.op = .call { callee := .builtin .copy, args := #[s, x], argTypes := #[t, t'] }) (vs vx : Value) (hs : a.eval s = vs) (hx : a.eval x = vx) {v' : Value} {w' : World} (hr : (Builtin.copy_ #[t, t'] o.type #[vs, vx]).run P w = .ok v' w') (h : wpList P ops Q rest (a.put o.dst v') w') : wpList P ops Q (o :: rest) a w :=
  wpList_plain hgd fun _ hK => wp_runC w s x t t' ho vs vx hs hx hr (hK _ _ h)
theorem wpList_appR {ops : Array Oper} {rest : List Oper} {o : Oper} {a : Act} {Q : Exit → Act → World → Prop} (hgd : o.guard = none) (s x : Operand) (t t' : TypeId)
    (ho : o.op = .call { callee := .builtin .append, args := #[s, x], argTypes := #[t, t'] }) (vs vx : Value) (hs : a.eval s = vs) (hx : a.eval x = vx) {v' : Value} {w' : World} (hr : (Builtin.append_ #[t, t'] o.type #[vs, vx]).run P w = .ok v' w') (h : wpList P ops Q rest (a.put o.dst v') w') : wpList P ops Q (o :: rest) a w :=
  wpList_plain hgd fun _ hK => wp_runA w s x t t' ho vs vx hs hx hr (hK _ _ h)
theorem step_copyR {ops : Array Oper} {o : Oper} {a : Act} {K : Act → World → Prop} {Q : Exit → Act → World → Prop} {D : Prop} (hgd : o.guard = none) (s x : Operand) (t t' : TypeId)
    (ho : o.op = .call { callee := .builtin .copy, args := #[s, x], argTypes := #[t, t'] }) (vs vx : Value) (hs : a.eval s = vs) (hx : a.eval x = vx) {v' : Value} {w' : World} (hr : (Builtin.copy_ #[t, t'] o.type #[vs, vx]).run P w = .ok v' w') (h : K (a.put o.dst v') w') : if Region.wanted o (yielded ops a.tmps) = true then Oper.wp P o a w K Q else D := by
  have hw : Region.wanted o (yielded ops a.tmps) = true := by simp [Region.wanted, hgd]
  rw [if_pos hw]
  exact wp_runC w s x t t' ho vs vx hs hx hr h
theorem step_appR {ops : Array Oper} {o : Oper} {a : Act} {K : Act → World → Prop} {Q : Exit → Act → World → Prop} {D : Prop} (hgd : o.guard = none) (s x : Operand) (t t' : TypeId)
    (ho : o.op = .call { callee := .builtin .append, args := #[s, x], argTypes := #[t, t'] }) (vs vx : Value) (hs : a.eval s = vs) (hx : a.eval x = vx) {v' : Value} {w' : World} (hr : (Builtin.append_ #[t, t'] o.type #[vs, vx]).run P w = .ok v' w') (h : K (a.put o.dst v') w') : if Region.wanted o (yielded ops a.tmps) = true then Oper.wp P o a w K Q else D := by
  have hw : Region.wanted o (yielded ops a.tmps) = true := by simp [Region.wanted, hgd]
  rw [if_pos hw]
  exact wp_runA w s x t t' ho vs vx hs hx hr h
end
theorem own_lit0c (w : World) (base : Nat) (hb : base ≤ w.heap.size) (e size : Nat) : (w.alloc (.cells #[] e)).ownsRow base e size (.slice (some ⟨w.heap.size, 0, none⟩) 0 0) 0 [] :=
  ⟨by simp, .inr ⟨w.heap.size, 0, #[], rfl, hb, heap_alloc_new _ _, Nat.le_refl _, Nat.zero_le _, by simp, by simp⟩⟩


set_option maxRecDepth 100000 in
set_option maxHeartbeats 2000000 in
theorem cloneP_any (A : Option Addr) (n c : Nat) (xs : List Value) (w : World) (hR : Rd w 2 A n xs) (h1 : ∀ u ∈ xs, u.oneCell' = true) (hn : n ≤ 1048576) (hnil : A = none → n = 0 ∧ c = 0) :
    Calls Try.prog 51 #[.slice A n c] w fun e w' => ∃ v', e = .returned v' ∧ w'.ownsRow w.heap.size 59 2 v' n xs ∧ Ext w w' := by
  rcases A with _ | ad
  · obtain ⟨rfl, rfl⟩ := hnil rfl
    have hx : xs = [] := List.eq_nil_of_length_eq_zero (by simpa using hR.1)
    subst hx
    have heq := Lib.run_eql_slice_nil (P := Try.prog) w 61 59 none 0 0 0 0 Try.underlying61
    go_enter Try.func51, Try.ntmps51
    go_wp2
    go_ret
    exact ⟨_, rfl, World.ownsRow_nil _ _ _ _, by repeat (first | exact Ext.refl' _ | assumption | apply Ext.ex' | apply Ext.al | apply Ext.drN | apply Ext.dr)⟩
  · have heq := Lib.run_eql_slice_nil (P := Try.prog) w 61 59 (some ad) n c 0 0 Try.underlying61
    go_enter Try.func51, Try.ntmps51
    go_wp2_with (at_builtin; refine wpList_app _ rfl (.tmp 5) (.tmp 6) rfl elPair w (by repeat (first | exact Ext.refl' _ | assumption | apply Ext.ex' | apply Ext.al | apply Ext.drN | apply Ext.dr)) _ 0 [] rfl (own_lit0c w _ (Nat.le_refl _) _ _) (some ad) n c xs rfl (hR.ext (by repeat (first | exact Ext.refl' _ | assumption | apply Ext.ex' | apply Ext.al | apply Ext.drN | apply Ext.dr))) h1 (by unfold maxLen; omega) (by omega) ?_; intro v1 x1 ho1 _)
    go_ret
    exact ⟨_, rfl, by simpa using ho1, by repeat (first | exact Ext.refl' _ | assumption | apply Ext.ex' | apply Ext.al | apply Ext.drN | apply Ext.dr)⟩
set_option maxRecDepth 100000 in
set_option maxHeartbeats 8000000 in
theorem insSP_any (base g cap n i vb vc : Nat) (cur news : List Value) (w : World) (hB : Blk w base 59 2 g cap cur) (hi : i < n) (hroom : n + 1 ≤ cap) (hn : n ≤ 1048576) (hvb : vb ≠ g) (hv : w.heap[vb]? = some (.cells news.toArray 59 (0, 0))) (hnl : news.length = 2) (h1n : ∀ u ∈ news, u.oneCell' = true) (h1c : ∀ u ∈ cur.take (n * 2), u.oneCell' = true) :
    Calls Try.prog 49 #[.slice (some ⟨g, 0, none⟩) n cap, .int .i64 i, .slice (some ⟨vb, 0, none⟩) 1 vc] w fun e w' => e = .returned (.slice (some ⟨g, 0, none⟩) (n + 1) cap) ∧ Blk w' base 59 2 g cap (cur.take (i * 2) ++ (news ++ ((cur.take (n * 2)).drop (i * 2) ++ cur.drop ((n + 1) * 2)))) ∧ w.grownBy w' (some g) := by
  have hcl := hB.hl
  have hcm := hB.hm
  obtain ⟨cs, hcs⟩ : ∃ cs, (cur.take (n * 2)).drop (i * 2) = cs := ⟨_, rfl⟩
  have hm1 := Nat.mul_le_mul_right 2 (show n + 1 ≤ cap by omega)
  have hcsl : cs.length = (n - i) * 2 := by rw [← hcs]; simp only [List.length_drop, List.length_take, hcl]; rw [Nat.sub_mul]; omega
  have hmin : Nat.min (n + 1 - i) (n + 1 - (i + 1)) = n - i := by simp only [Nat.min_def]; split <;> omega
  have hmin2 : Nat.min 1 (n + 1 - i) = 1 := by simp only [Nat.min_def]; split <;> omega
  have e1 : (n + 1) * 2 = n * 2 + 2 := by omega
  have e2 : (i + 1) * 2 = i * 2 + 2 := by omega
  have e3 : (n - i) * 2 = n * 2 - i * 2 := Nat.sub_mul _ _ _
  have hile : i * 2 ≤ n * 2 := Nat.mul_le_mul_right _ (by omega)
  have hB0 : Blk w.drew base 59 2 g cap cur := ⟨hB.hb, hB.hp, hB.hm, hB.hl⟩
  obtain ⟨W1, hW1⟩ : ∃ W1, w.drew.setCells g ((i + 1) * 2) cs = W1 := ⟨_, rfl⟩
  have hs1 := hB0.setCells (vs := cs) ((i + 1) * 2) (by rw [hcsl]; omega)
  rw [hW1] at hs1
  have hcp1 : Hid (∀ ty dc sc, (Builtin.copy_ #[61, 61] ty #[.slice (some ⟨g, (i + 1) * 2, none⟩) (n - i) dc, .slice (some ⟨g, (i) * 2, none⟩) (n + 1 - i) sc]).run Try.prog w.drew = .ok (goInt ((n - i : Nat) : Int)) W1) := Lib.hid (fun ty dc sc => by
    have h := run_copyB (P := Try.prog) (t' := 61) (ty := ty) w.drew elPair g ((i + 1) * 2) (n + 1 - (i + 1)) dc ⟨g, i * 2, none⟩ (n + 1 - i) sc cs (by rw [hcsl, hmin]) (fun j v hj => by
        rw [add_none, hB0.cell]
        rw [← hcs, List.getElem?_drop, List.getElem?_take] at hj
        split at hj
        · exact hj
        · cases hj)
      (fun j hj => by rw [hB0.cell, List.getElem?_eq_getElem (by omega)]; rfl) (fun j _ => hB0.frozen _) (fun v hv => h1c v (by rw [← hcs] at hv; exact List.mem_of_mem_drop hv))
    rw [hmin, hW1] at h
    simpa using h)
  obtain ⟨W2, hW2⟩ : ∃ W2, W1.setCells g (i * 2) news = W2 := ⟨_, rfl⟩
  have hs2 := hs1.1.setCells (vs := news) (i * 2) (by rw [hs1.1.hl, hnl]; omega)
  rw [hW2] at hs2
  have hv1 : W1.heap[vb]? = some (.cells news.toArray 59 (0, 0)) := (hs1.2.block vb (Array.getElem?_eq_some_iff.1 hv).1 (by simpa using hvb)).trans hv
  have hcp2 : Hid (∀ ty dc, (Builtin.copy_ #[61, 61] ty #[.slice (some ⟨g, (i) * 2, none⟩) (n + 1 - i) dc, .slice (some ⟨vb, 0, none⟩) 1 vc]).run Try.prog W1 = .ok (goInt 1) W2) := Lib.hid (fun ty dc => by
    have h := run_copyB (P := Try.prog) (t' := 61) (ty := ty) W1 elPair g (i * 2) (n + 1 - i) dc ⟨vb, 0, none⟩ 1 vc news (by rw [hmin2, hnl]) (fun j v hj => by
        rw [add_none, Nat.zero_add]
        simp [World.cell?, hv1, hj])
      (fun j hj => by rw [hs1.1.cell, List.getElem?_eq_getElem (by rw [hs1.1.hl]; omega)]; rfl) (fun j _ => hs1.1.frozen _) h1n
    rw [hmin2, hW2] at h
    simpa using h)
  have hov : ∀ lb cb, (callFunc 62 #[.slice (some ⟨vb, 0, none⟩) 1 vc, .slice (some ⟨g, (i + 1) * 2, none⟩) lb cb]).run Try.prog w = .ok (.value (.bool false)) w := fun lb cb => by
    obtain ⟨ti, hti, _, hts, _⟩ := elPair.hi
    rw [run_callFunc_extern Try.func62 (by kernel_rfl) (by kernel_rfl) (by kernel_rfl) (e := Extern.SlicesOverlaps.overlaps #[61, 61] #[4]) (by kernel_rfl),
      Lib.run_overlaps_apart w 61 4 59 elPair.ht 2 (fun w => by simp [sizeOf, typeInfo, hti, hts]) ⟨vb, 0, none⟩ ⟨g, (i + 1) * 2, none⟩ 1 vc lb cb hvb 59 59 2 (cap * 2) (by simp [World.shape?, hv, hnl]) (by simp [World.shape?, hB.hp, hcl]) (by omega) (by simp [World.frozen?, hv]) (by simp [World.frozen?, hv])]
    rfl
  have hfin : Blk W2 base 59 2 g cap (cur.take (i * 2) ++ (news ++ (cs ++ cur.drop ((n + 1) * 2)))) := by
    have := hs2.1
    rw [hnl, ← e2] at this
    have e4 : (i + 1) * 2 + cs.length = (n + 1) * 2 := by rw [hcsl]; omega
    rw [e4, List.take_append_of_le_length (by simp only [List.length_take]; omega), List.take_take, Nat.min_eq_left (by omega), List.drop_append_of_le_length (by simp only [List.length_take]; omega), List.drop_eq_nil_of_le (by simp only [List.length_take]; omega)] at this
    simpa using this
  have hgr : w.grownBy W2 (some g) := World.grownBy.trans ⟨hs1.2.os, hs1.2.tape, hs1.2.output, hs1.2.size, hs1.2.block⟩ hs2.2
  have hw1 : IntKind.i64.wrap ((i : Int) + 1) = (i : Int) + 1 := IntWalk.i64_in _ (by omega)
  have hb2 : ¬ (cap = i + 1) := by omega
  have hb4 : ¬ (cap = i) := by omega
  have hcd1 : (0 : Int) ≤ (i : Int) + 1 ∧ i ≤ n := by omega
  have hcd2 : (i : Int) ≤ (n : Int) + 1 := by omega
  rw [hcs]
  clear hs1 hs2 hW1 hW2 hv1 hv hB hB0 hcs hcsl e1 e2 e3 hile hm1 hcl h1c h1n
  go_enter Try.func49, Try.ntmps49
  go_wp2_with (simp only [hov])
  refine wp_region_held_drew (S := (fun _ => True)) (by kernel_rfl) (by trivial) (fun hHeld => ?_)
  refine wpAnyH_take (i := 0) (oi := ?oi1) (v := ?v1) ?hi1 (by kernel_rfl) (by kernel_rfl) (by kernel_rfl) ?hQ1 ?hy1 (by assumption) ?_
  case hi1 => (simp only [List.getElem?_toArray, List.getElem?_cons_succ, List.getElem?_cons_zero]; try rfl)
  case hQ1 => exact fun _ _ _ h => h
  case hy1 => (refine Or.inl ⟨by rfl, ?_⟩; intro wq hSw; (try dsimp only at hSw); go_simp; (try rw [if_pos hcd1]); (try rw [if_pos hcd2]); (try with_reducible rfl))
  (try simp only [Act.put, List.setIfInBounds_toArray, List.set_cons_zero, List.set_cons_succ])
  refine wpAnyH_take (i := 1) (oi := ?oi2) (v := ?v2) ?hi2 (by kernel_rfl) (by kernel_rfl) (by kernel_rfl) ?hQ2 ?hy2 (by assumption) ?_
  case hi2 => (simp only [List.getElem?_toArray, List.getElem?_cons_succ, List.getElem?_cons_zero]; try rfl)
  case hQ2 => exact fun _ _ _ h => h
  case hy2 => (refine Or.inl ⟨by rfl, ?_⟩; intro wq hSw; (try dsimp only at hSw); go_simp; (try rw [if_pos hcd1]); (try rw [if_pos hcd2]); (try with_reducible rfl))
  (try simp only [Act.put, List.setIfInBounds_toArray, List.set_cons_zero, List.set_cons_succ])
  refine wpAnyH_take (i := 2) (oi := ?oi3) (v := ?v3) ?hi3 (by kernel_rfl) (by kernel_rfl) (by kernel_rfl) ?hQ3 ?hy3 (by assumption) ?_
  case hi3 => (simp only [List.getElem?_toArray, List.getElem?_cons_succ, List.getElem?_cons_zero]; try rfl)
  case hQ3 => exact fun _ _ _ h => h
  case hy3 => (refine Or.inl ⟨by rfl, ?_⟩; intro wq hSw; (try dsimp only at hSw); go_simp; (try rw [if_pos hcd1]); (try rw [if_pos hcd2]); (try with_reducible rfl))
  (try simp only [Act.put, List.setIfInBounds_toArray, List.set_cons_zero, List.set_cons_succ])
  refine wpAnyH_take (i := 3) (oi := ?oi4) (v := ?v4) ?hi4 (by kernel_rfl) (by kernel_rfl) (by kernel_rfl) ?hQ4 ?hy4 (by assumption) ?_
  case hi4 => (simp only [List.getElem?_toArray, List.getElem?_cons_succ, List.getElem?_cons_zero]; try rfl)
  case hQ4 => exact fun _ _ _ h => h
  case hy4 => (refine Or.inl ⟨by rfl, ?_⟩; intro wq hSw; (try dsimp only at hSw); go_simp; (try rw [if_pos hcd1]); (try rw [if_pos hcd2]); (try with_reducible rfl))
  (try simp only [Act.put, List.setIfInBounds_toArray, List.set_cons_zero, List.set_cons_succ])
  refine wpAnyH_take (i := 4) (oi := ?oi5) (v := ?v5) ?hi5 (by kernel_rfl) (by kernel_rfl) (by kernel_rfl) ?hQ5 ?hy5 (by assumption) ?_
  case hi5 => (simp only [List.getElem?_toArray, List.getElem?_cons_succ, List.getElem?_cons_zero]; try rfl)
  case hQ5 => exact fun _ _ _ h => h
  case hy5 => (refine Or.inl ⟨by rfl, ?_⟩; intro wq hSw; (try dsimp only at hSw); go_simp; (try rw [if_pos hcd1]); (try rw [if_pos hcd2]); (try with_reducible rfl))
  (try simp only [Act.put, List.setIfInBounds_toArray, List.set_cons_zero, List.set_cons_succ])
  refine wpAnyH_take (i := 5) (oi := ?oi6) (v := ?v6) ?hi6 (by kernel_rfl) (by kernel_rfl) (by kernel_rfl) ?hQ6 ?hy6 (by assumption) ?_
  case hi6 => (simp only [List.getElem?_toArray, List.getElem?_cons_succ, List.getElem?_cons_zero]; try rfl)
  case hQ6 => exact fun _ _ _ h => h
  case hy6 => (refine Or.inl ⟨by rfl, ?_⟩; intro wq hSw; (try dsimp only at hSw); go_simp; (try rw [if_pos hcd1]); (try rw [if_pos hcd2]); (try with_reducible rfl))
  (try simp only [Act.put, List.setIfInBounds_toArray, List.set_cons_zero, List.set_cons_succ])
  refine wpAnyH_take (i := 6) (oi := ?oi7) (v := ?v7) ?hi7 (by kernel_rfl) (by kernel_rfl) (by kernel_rfl) ?hQ7 ?hy7 (by assumption) ?_
  case hi7 => (simp only [List.getElem?_toArray, List.getElem?_cons_succ, List.getElem?_cons_zero]; try rfl)
  case hQ7 => exact fun _ _ _ h => h
  case hy7 => (refine Or.inl ⟨by rfl, ?_⟩; intro wq hSw; (try dsimp only at hSw); go_simp; (try rw [if_pos hcd1]); (try rw [if_pos hcd2]); (try with_reducible rfl))
  (try simp only [Act.put, List.setIfInBounds_toArray, List.set_cons_zero, List.set_cons_succ])
  refine wpAnyH_take (i := 7) (oi := ?oi8) (v := ?v8) ?hi8 (by kernel_rfl) (by kernel_rfl) (by kernel_rfl) ?hQ8 ?hy8 (by assumption) ?_
  case hi8 => (simp only [List.getElem?_toArray, List.getElem?_cons_succ, List.getElem?_cons_zero]; try rfl)
  case hQ8 => exact fun _ _ _ h => h
  case hy8 => (refine Or.inl ⟨by rfl, ?_⟩; intro wq hSw; (try dsimp only at hSw); go_simp; (try rw [if_pos hcd1]); (try rw [if_pos hcd2]); (try with_reducible rfl))
  (try simp only [Act.put, List.setIfInBounds_toArray, List.set_cons_zero, List.set_cons_succ])
  refine wpAnyH_ready (rs := [8]) (by kernel_rfl) (by simp) ?_
  refine AllReadyH.cons (o := ?oi9) ?hi9 ?ti9 AllReadyH.nil
  case hi9 => (simp only [List.getElem?_toArray, List.getElem?_cons_succ, List.getElem?_cons_zero]; try rfl)
  case ti9 =>
    intro KQ hKQ
    refine step_copyR _ (by rfl) (.tmp 73) (.tmp 76) 61 61 (by rfl) _ _ (by rfl) (by rfl) (hcp1.out _ _ _) ?_
    refine hKQ.out _ _ (by trivial) (fun hHeld2 => ?_)
    clear hHeld hKQ KQ; have hHeld := hHeld2; clear hHeld2
    (try simp only [Act.put, List.setIfInBounds_toArray, List.set_cons_zero, List.set_cons_succ])
    refine wpAnyH_done (by kernel_rfl) ?_ _
    go_wp2_with (simp only [hcp2.out])
    go_ret
    exact ⟨rfl, hfin, hgr⟩


set_option maxRecDepth 100000 in
set_option maxHeartbeats 2000000 in
theorem cloneQ_any (A : Option Addr) (n c : Nat) (xs : List Value) (w : World) (hR : Rd w 1 A n xs) (h1 : ∀ u ∈ xs, u.oneCell' = true) (hn : n ≤ 1048576) (hnil : A = none → n = 0 ∧ c = 0) :
    Calls Try.prog 52 #[.slice A n c] w fun e w' => ∃ v', e = .returned v' ∧ w'.ownsRow w.heap.size 52 1 v' n xs ∧ Ext w w' := by
  rcases A with _ | ad
  · obtain ⟨rfl, rfl⟩ := hnil rfl
    have hx : xs = [] := List.eq_nil_of_length_eq_zero (by simpa using hR.1)
    subst hx
    have heq := Lib.run_eql_slice_nil (P := Try.prog) w 62 52 none 0 0 0 0 Try.underlying62
    go_enter Try.func52, Try.ntmps52
    go_wp2
    go_ret
    exact ⟨_, rfl, World.ownsRow_nil _ _ _ _, by repeat (first | exact Ext.refl' _ | assumption | apply Ext.ex' | apply Ext.al | apply Ext.drN | apply Ext.dr)⟩
  · have heq := Lib.run_eql_slice_nil (P := Try.prog) w 62 52 (some ad) n c 0 0 Try.underlying62
    go_enter Try.func52, Try.ntmps52
    go_wp2_with (at_builtin; refine wpList_app _ rfl (.tmp 5) (.tmp 6) rfl elPtr w (by repeat (first | exact Ext.refl' _ | assumption | apply Ext.ex' | apply Ext.al | apply Ext.drN | apply Ext.dr)) _ 0 [] rfl (own_lit0c w _ (Nat.le_refl _) _ _) (some ad) n c xs rfl (hR.ext (by repeat (first | exact Ext.refl' _ | assumption | apply Ext.ex' | apply Ext.al | apply Ext.drN | apply Ext.dr))) h1 (by unfold maxLen; omega) (by omega) ?_; intro v1 x1 ho1 _)
    go_ret
    exact ⟨_, rfl, by simpa using ho1, by repeat (first | exact Ext.refl' _ | assumption | apply Ext.ex' | apply Ext.al | apply Ext.drN | apply Ext.dr)⟩
set_option maxRecDepth 100000 in
set_option maxHeartbeats 8000000 in
theorem insSQ_any (base g cap n i vb vc : Nat) (cur news : List Value) (w : World) (hB : Blk w base 52 1 g cap cur) (hi : i < n) (hroom : n + 1 ≤ cap) (hn : n ≤ 1048576) (hvb : vb ≠ g) (hv : w.heap[vb]? = some (.cells news.toArray 52 (0, 0))) (hnl : news.length = 1) (h1n : ∀ u ∈ news, u.oneCell' = true) (h1c : ∀ u ∈ cur.take (n * 1), u.oneCell' = true) :
    Calls Try.prog 50 #[.slice (some ⟨g, 0, none⟩) n cap, .int .i64 i, .slice (some ⟨vb, 0, none⟩) 1 vc] w fun e w' => e = .returned (.slice (some ⟨g, 0, none⟩) (n + 1) cap) ∧ Blk w' base 52 1 g cap (cur.take (i * 1) ++ (news ++ ((cur.take (n * 1)).drop (i * 1) ++ cur.drop ((n + 1) * 1)))) ∧ w.grownBy w' (some g) := by
  have hcl := hB.hl
  have hcm := hB.hm
  obtain ⟨cs, hcs⟩ : ∃ cs, (cur.take (n * 1)).drop (i * 1) = cs := ⟨_, rfl⟩
  have hm1 := Nat.mul_le_mul_right 1 (show n + 1 ≤ cap by omega)
  have hcsl : cs.length = (n - i) * 1 := by rw [← hcs]; simp only [List.length_drop, List.length_take, hcl]; rw [Nat.sub_mul]; omega
  have hmin : Nat.min (n + 1 - i) (n + 1 - (i + 1)) = n - i := by simp only [Nat.min_def]; split <;> omega
  have hmin2 : Nat.min 1 (n + 1 - i) = 1 := by simp only [Nat.min_def]; split <;> omega
  have e1 : (n + 1) * 1 = n * 1 + 1 := by omega
  have e2 : (i + 1) * 1 = i * 1 + 1 := by omega
  have e3 : (n - i) * 1 = n * 1 - i * 1 := Nat.sub_mul _ _ _
  have hile : i * 1 ≤ n * 1 := Nat.mul_le_mul_right _ (by omega)
  have hB0 : Blk w.drew base 52 1 g cap cur := ⟨hB.hb, hB.hp, hB.hm, hB.hl⟩
  obtain ⟨W1, hW1⟩ : ∃ W1, w.drew.setCells g ((i + 1) * 1) cs = W1 := ⟨_, rfl⟩
  have hs1 := hB0.setCells (vs := cs) ((i + 1) * 1) (by rw [hcsl]; omega)
  rw [hW1] at hs1
  have hcp1 : Hid (∀ ty dc sc, (Builtin.copy_ #[62, 62] ty #[.slice (some ⟨g, i + 1, none⟩) (n - i) dc, .slice (some ⟨g, i, none⟩) (n + 1 - i) sc]).run Try.prog w.drew = .ok (goInt ((n - i : Nat) : Int)) W1) := Lib.hid (fun ty dc sc => by
    have h := run_copyB (P := Try.prog) (t' := 62) (ty := ty) w.drew elPtr g ((i + 1) * 1) (n + 1 - (i + 1)) dc ⟨g, i * 1, none⟩ (n + 1 - i) sc cs (by rw [hcsl, hmin]) (fun j v hj => by
        rw [add_none, hB0.cell]
        rw [← hcs, List.getElem?_drop, List.getElem?_take] at hj
        split at hj
        · exact hj
        · cases hj)
      (fun j hj => by rw [hB0.cell, List.getElem?_eq_getElem (by omega)]; rfl) (fun j _ => hB0.frozen _) (fun v hv => h1c v (by rw [← hcs] at hv; exact List.mem_of_mem_drop hv))
    rw [hmin, hW1] at h
    simpa using h)
  obtain ⟨W2, hW2⟩ : ∃ W2, W1.setCells g (i * 1) news = W2 := ⟨_, rfl⟩
  have hs2 := hs1.1.setCells (vs := news) (i * 1) (by rw [hs1.1.hl, hnl]; omega)
  rw [hW2] at hs2
  have hv1 : W1.heap[vb]? = some (.cells news.toArray 52 (0, 0)) := (hs1.2.block vb (Array.getElem?_eq_some_iff.1 hv).1 (by simpa using hvb)).trans hv
  have hcp2 : Hid (∀ ty dc, (Builtin.copy_ #[62, 62] ty #[.slice (some ⟨g, i, none⟩) (n + 1 - i) dc, .slice (some ⟨vb, 0, none⟩) 1 vc]).run Try.prog W1 = .ok (goInt 1) W2) := Lib.hid (fun ty dc => by
    have h := run_copyB (P := Try.prog) (t' := 62) (ty := ty) W1 elPtr g (i * 1) (n + 1 - i) dc ⟨vb, 0, none⟩ 1 vc news (by rw [hmin2, hnl]) (fun j v hj => by
        rw [add_none, Nat.zero_add]
        simp [World.cell?, hv1, hj])
      (fun j hj => by rw [hs1.1.cell, List.getElem?_eq_getElem (by rw [hs1.1.hl]; omega)]; rfl) (fun j _ => hs1.1.frozen _) h1n
    rw [hmin2, hW2] at h
    simpa using h)
  have hov : ∀ lb cb, (callFunc 64 #[.slice (some ⟨vb, 0, none⟩) 1 vc, .slice (some ⟨g, i + 1, none⟩) lb cb]).run Try.prog w = .ok (.value (.bool false)) w := fun lb cb => by
    obtain ⟨ti, hti, _, hts, _⟩ := elPtr.hi
    rw [run_callFunc_extern Try.func64 (by kernel_rfl) (by kernel_rfl) (by kernel_rfl) (e := Extern.SlicesOverlaps.overlaps #[62, 62] #[4]) (by kernel_rfl),
      Lib.run_overlaps_apart w 62 4 52 elPtr.ht 1 (fun w => by simp [sizeOf, typeInfo, hti, hts]) ⟨vb, 0, none⟩ ⟨g, i + 1, none⟩ 1 vc lb cb hvb 52 52 1 (cap * 1) (by simp [World.shape?, hv, hnl]) (by simp [World.shape?, hB.hp, hcl]) (by omega) (by simp [World.frozen?, hv]) (by simp [World.frozen?, hv])]
    rfl
  have hfin : Blk W2 base 52 1 g cap (cur.take (i * 1) ++ (news ++ (cs ++ cur.drop ((n + 1) * 1)))) := by
    have := hs2.1
    rw [hnl, ← e2] at this
    have e4 : (i + 1) * 1 + cs.length = (n + 1) * 1 := by rw [hcsl]; omega
    rw [e4, List.take_append_of_le_length (by simp only [List.length_take]; omega), List.take_take, Nat.min_eq_left (by omega), List.drop_append_of_le_length (by simp only [List.length_take]; omega), List.drop_eq_nil_of_le (by simp only [List.length_take]; omega)] at this
    simpa using this
  have hgr : w.grownBy W2 (some g) := World.grownBy.trans ⟨hs1.2.os, hs1.2.tape, hs1.2.output, hs1.2.size, hs1.2.block⟩ hs2.2
  have hw1 : IntKind.i64.wrap ((i : Int) + 1) = (i : Int) + 1 := IntWalk.i64_in _ (by omega)
  have hb2 : ¬ (cap = i + 1) := by omega
  have hb4 : ¬ (cap = i) := by omega
  have hcd1 : (0 : Int) ≤ (i : Int) + 1 ∧ i ≤ n := by omega
  have hcd2 : (i : Int) ≤ (n : Int) + 1 := by omega
  rw [hcs]
  clear hs1 hs2 hW1 hW2 hv1 hv hB hB0 hcs hcsl e1 e2 e3 hile hm1 hcl h1c h1n
  go_enter Try.func50, Try.ntmps50
  go_wp2_with (simp only [hov])
  refine wp_region_held_drew (S := (fun _ => True)) (by kernel_rfl) (by trivial) (fun hHeld => ?_)
  refine wpAnyH_take (i := 0) (oi := ?oi1) (v := ?v1) ?hi1 (by kernel_rfl) (by kernel_rfl) (by kernel_rfl) ?hQ1 ?hy1 (by assumption) ?_
  case hi1 => (simp only [List.getElem?_toArray, List.getElem?_cons_succ, List.getElem?_cons_zero]; try rfl)
  case hQ1 => exact fun _ _ _ h => h
  case hy1 => (refine Or.inl ⟨by rfl, ?_⟩; intro wq hSw; (try dsimp only at hSw); go_simp; (try rw [if_pos hcd1]); (try rw [if_pos hcd2]); (try with_reducible rfl))
  (try simp only [Act.put, List.setIfInBounds_toArray, List.set_cons_zero, List.set_cons_succ])
  refine wpAnyH_take (i := 1) (oi := ?oi2) (v := ?v2) ?hi2 (by kernel_rfl) (by kernel_rfl) (by kernel_rfl) ?hQ2 ?hy2 (by assumption) ?_
  case hi2 => (simp only [List.getElem?_toArray, List.getElem?_cons_succ, List.getElem?_cons_zero]; try rfl)
  case hQ2 => exact fun _ _ _ h => h
  case hy2 => (refine Or.inl ⟨by rfl, ?_⟩; intro wq hSw; (try dsimp only at hSw); go_simp; (try rw [if_pos hcd1]); (try rw [if_pos hcd2]); (try with_reducible rfl))
  (try simp only [Act.put, List.setIfInBounds_toArray, List.set_cons_zero, List.set_cons_succ])
  refine wpAnyH_take (i := 2) (oi := ?oi3) (v := ?v3) ?hi3 (by kernel_rfl) (by kernel_rfl) (by kernel_rfl) ?hQ3 ?hy3 (by assumption) ?_
  case hi3 => (simp only [List.getElem?_toArray, List.getElem?_cons_succ, List.getElem?_cons_zero]; try rfl)
  case hQ3 => exact fun _ _ _ h => h
  case hy3 => (refine Or.inl ⟨by rfl, ?_⟩; intro wq hSw; (try dsimp only at hSw); go_simp; (try rw [if_pos hcd1]); (try rw [if_pos hcd2]); (try with_reducible rfl))
  (try simp only [Act.put, List.setIfInBounds_toArray, List.set_cons_zero, List.set_cons_succ])
  refine wpAnyH_take (i := 3) (oi := ?oi4) (v := ?v4) ?hi4 (by kernel_rfl) (by kernel_rfl) (by kernel_rfl) ?hQ4 ?hy4 (by assumption) ?_
  case hi4 => (simp only [List.getElem?_toArray, List.getElem?_cons_succ, List.getElem?_cons_zero]; try rfl)
  case hQ4 => exact fun _ _ _ h => h
  case hy4 => (refine Or.inl ⟨by rfl, ?_⟩; intro wq hSw; (try dsimp only at hSw); go_simp; (try rw [if_pos hcd1]); (try rw [if_pos hcd2]); (try with_reducible rfl))
  (try simp only [Act.put, List.setIfInBounds_toArray, List.set_cons_zero, List.set_cons_succ])
  refine wpAnyH_take (i := 4) (oi := ?oi5) (v := ?v5) ?hi5 (by kernel_rfl) (by kernel_rfl) (by kernel_rfl) ?hQ5 ?hy5 (by assumption) ?_
  case hi5 => (simp only [List.getElem?_toArray, List.getElem?_cons_succ, List.getElem?_cons_zero]; try rfl)
  case hQ5 => exact fun _ _ _ h => h
  case hy5 => (refine Or.inl ⟨by rfl, ?_⟩; intro wq hSw; (try dsimp only at hSw); go_simp; (try rw [if_pos hcd1]); (try rw [if_pos hcd2]); (try with_reducible rfl))
  (try simp only [Act.put, List.setIfInBounds_toArray, List.set_cons_zero, List.set_cons_succ])
  refine wpAnyH_take (i := 5) (oi := ?oi6) (v := ?v6) ?hi6 (by kernel_rfl) (by kernel_rfl) (by kernel_rfl) ?hQ6 ?hy6 (by assumption) ?_
  case hi6 => (simp only [List.getElem?_toArray, List.getElem?_cons_succ, List.getElem?_cons_zero]; try rfl)
  case hQ6 => exact fun _ _ _ h => h
  case hy6 => (refine Or.inl ⟨by rfl, ?_⟩; intro wq hSw; (try dsimp only at hSw); go_simp; (try rw [if_pos hcd1]); (try rw [if_pos hcd2]); (try with_reducible rfl))
  (try simp only [Act.put, List.setIfInBounds_toArray, List.set_cons_zero, List.set_cons_succ])
  refine wpAnyH_take (i := 6) (oi := ?oi7) (v := ?v7) ?hi7 (by kernel_rfl) (by kernel_rfl) (by kernel_rfl) ?hQ7 ?hy7 (by assumption) ?_
  case hi7 => (simp only [List.getElem?_toArray, List.getElem?_cons_succ, List.getElem?_cons_zero]; try rfl)
  case hQ7 => exact fun _ _ _ h => h
  case hy7 => (refine Or.inl ⟨by rfl, ?_⟩; intro wq hSw; (try dsimp only at hSw); go_simp; (try rw [if_pos hcd1]); (try rw [if_pos hcd2]); (try with_reducible rfl))
  (try simp only [Act.put, List.setIfInBounds_toArray, List.set_cons_zero, List.set_cons_succ])
  refine wpAnyH_take (i := 7) (oi := ?oi8) (v := ?v8) ?hi8 (by kernel_rfl) (by kernel_rfl) (by kernel_rfl) ?hQ8 ?hy8 (by assumption) ?_
  case hi8 => (simp only [List.getElem?_toArray, List.getElem?_cons_succ, List.getElem?_cons_zero]; try rfl)
  case hQ8 => exact fun _ _ _ h => h
  case hy8 => (refine Or.inl ⟨by rfl, ?_⟩; intro wq hSw; (try dsimp only at hSw); go_simp; (try rw [if_pos hcd1]); (try rw [if_pos hcd2]); (try with_reducible rfl))
  (try simp only [Act.put, List.setIfInBounds_toArray, List.set_cons_zero, List.set_cons_succ])
  refine wpAnyH_ready (rs := [8]) (by kernel_rfl) (by simp) ?_
  refine AllReadyH.cons (o := ?oi9) ?hi9 ?ti9 AllReadyH.nil
  case hi9 => (simp only [List.getElem?_toArray, List.getElem?_cons_succ, List.getElem?_cons_zero]; try rfl)
  case ti9 =>
    intro KQ hKQ
    refine step_copyR _ (by rfl) (.tmp 73) (.tmp 76) 62 62 (by rfl) _ _ (by rfl) (by rfl) (hcp1.out _ _ _) ?_
    refine hKQ.out _ _ (by trivial) (fun hHeld2 => ?_)
    clear hHeld hKQ KQ; have hHeld := hHeld2; clear hHeld2
    (try simp only [Act.put, List.setIfInBounds_toArray, List.set_cons_zero, List.set_cons_succ])
    refine wpAnyH_done (by kernel_rfl) ?_ _
    go_wp2_with (simp only [hcp2.out])
    go_ret
    exact ⟨rfl, hfin, hgr⟩

end Go.Proofs.Ytdmbgimehepfaaa
