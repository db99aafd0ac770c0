/- Lemmas for the rows: BtS BtS2 BtM. -/
import Derived.Test.YtdiaecgpjgdkdaaGreatThS18
import Derived.Lib.Overlaps
import Derived.Lib.SliceRun
import Derived.Laws.Externs
import Derived.Deep.RegionHeld3
import Derived.Test.YtdiaecgpjgdkdaaGreatThS05
set_option linter.unusedSimpArgs false
set_option linter.unusedVariables false
namespace Go.Proofs.YtdiaecgpjgdkdaaGreat
open Go.RowKit

def mp2 (p : MP) : List Value := [.slice p.A p.n p.c, .int .i64 p.id]
def mpl (l : List MP) : List Value := l.flatMap mp2
theorem mpl_append (a b : List MP) : mpl (a ++ b) = mpl a ++ mpl b := by simp [mpl]
theorem mpl_one (a : MP) : mpl [a] = mp2 a := by simp [mpl]
theorem oneCell_mpl (l : List MP) : ∀ u ∈ mpl l, u.oneCell' = true := by
 intro u hu; obtain ⟨v, _, hv⟩ := List.mem_flatMap.1 hu; simp [mp2] at hv; rcases hv with rfl | rfl <;> rfl
abbrev pt (p : Nat) : Value := .pointer (some ⟨p, 0, none⟩)
def ptl (l : List Nat) : List Value := l.map pt
theorem ptl_length (l : List Nat) : (ptl l).length = l.length := by simp [ptl]
theorem oneCell_ptl (l : List Nat) : ∀ u ∈ ptl l, u.oneCell' = true := by
 intro u hu; simp [ptl] at hu; obtain ⟨a, _, rfl⟩ := hu; rfl
theorem elPair : El Tryz.prog 123 121 (.agg #[.slice none 0 0, .int .i64 0]) 2 32 := ⟨Tryz.underlying123, info_parts (by kernel_rfl), rfl, by decide⟩
theorem elPtr : El Tryz.prog 124 115 (.pointer none) 1 8 := ⟨Tryz.underlying124, info_parts (by kernel_rfl), rfl, by decide⟩
section
variable {P : Program} (w : World)
theorem run_app3 {t e ty : TypeId} {z : Value} {size bytes : Nat} (E : El P t e z size bytes) (base : Nat) (hbase : base ≤ w.heap.size) (v : Value) (n : Nat) (xs : List Value) (hown : w.ownsRow base e size v n xs)
  (A : Option Addr) (m c : Nat) (news : List Value) (hr : Rd w size A m news) (h1 : ∀ u ∈ news, u.oneCell' = true) (h63 : n + m ≤ maxLen) (hbytes : (n + m) * bytes ≤ 140737488355328) :
  ∃ v' w', (Builtin.append_ #[t, t] ty #[v, .slice A m c]).run P w = .ok v' w' ∧ w'.ownsRow base e size v' (n + m) (xs ++ news) ∧ w.grownBy w' v.ownBlock ∧ ∀ g, v'.ownBlock = some g → v.ownBlock = some g ∨ w.heap.size ≤ g := by
 have key : ∃ v' w', (Builtin.append_ #[t, t] ty #[v, .slice A m c]).run P w = .ok v' w' ∧ w'.ownsRow base e size v' (n + m) (xs ++ news) ∧ w.grownBy w' v.ownBlock := by
  obtain ⟨i, hi, hz, hs, hb⟩ := E.hi
  rcases A with _ | ad
  ·
   have hm : m = 0 := by
    rcases Nat.eq_zero_or_pos m with h0 | h0
    ·
     exact h0
    ·
     obtain ⟨b, o, h, _⟩ := hr.2 (Nat.mul_pos h0 E.hsz)
     cases h
   subst hm
   have hn : news = [] := List.eq_nil_of_length_eq_zero (by simpa using hr.1)
   subst hn
   exact ⟨v, w, run_append_nil w base t ty e i size E.ht hi v n xs hown c, by simpa using hown, World.grownBy.refl w _⟩
  ·
   have hcells : ∀ j u, news[j]? = some u → w.cell? (ad.add j) = some u := by
    intro j u hu
    rcases Nat.eq_zero_or_pos m with h0 | h0
    ·
     subst h0
     have hn : news = [] := List.eq_nil_of_length_eq_zero (by simpa using hr.1)
     subst hn
     simp at hu
    ·
     obtain ⟨b, o, h, _, hc⟩ := hr.2 (Nat.mul_pos h0 E.hsz)
     injection h with h
     subst h
     rw [add_none]
     exact hc j u hu
   obtain ⟨v', w', hrun, h2, h3, _⟩ := run_append_own (P := P) w base t ty e i z size bytes E.ht hi hz hs hb E.hzs E.hsz v n xs hown ad m c news hr.1 hcells h1 h63 hbytes hbase
   exact ⟨v', w', hrun, h2, h3⟩
 obtain ⟨v', w', hrun, h2, h3⟩ := key
 exact ⟨v', w', hrun, h2, h3, app_block (P := P) w E base hbase v n xs hown A m c news hr h1 h63 hbytes v' w' hrun⟩
theorem wp_runA {o : Oper} {a : Act} {K : Act → World → Prop} {Q : Exit → Act → World → Prop} (s x : Operand) (t t' : TypeId)
  (ho : o.op = .call { callee := .builtin .append, args := #[s, x], argTypes := #[t, t'] }) (vs vx : Value) (hs : a.eval s = vs) (hx : a.eval x = vx)
  {v' : Value} {w' : World} (hr : (Builtin.append_ #[t, t'] o.type #[vs, vx]).run P w = .ok v' w') (h : K (a.put o.dst v') w') : o.wp P a w K Q := by
 unfold Oper.wp execOp
 simp only [ho, resolve, invoke, builtin, Sem.run_bind, Sem.run_pure, Result.andThen_ok, List.map_toArray, List.map_cons, List.map_nil, hs, hx, hr]
 exact h
theorem wp_runC {o : Oper} {a : Act} {K : Act → World → Prop} {Q : Exit → Act → World → Prop} (s x : Operand) (t t' : TypeId)
  (ho : o.op = .call { callee := .builtin .copy, args := #[s, x], argTypes := #[t, t'] }) (vs vx : Value) (hs : a.eval s = vs) (hx : a.eval x = vx)
  {v' : Value} {w' : World} (hr : (Builtin.copy_ #[t, t'] o.type #[vs, vx]).run P w = .ok v' w') (h : K (a.put o.dst v') w') : o.wp P a w K Q := by
 unfold Oper.wp execOp
 simp only [ho, resolve, invoke, builtin, Sem.run_bind, Sem.run_pure, Result.andThen_ok, List.map_toArray, List.map_cons, List.map_nil, hs, hx, hr]
 exact h
theorem wpList_app3 {ops : Array Oper} {rest : List Oper} {o : Oper} {a : Act} {Q : Exit → Act → World → Prop} (hgd : o.guard = none) (s x : Operand) {t e : TypeId} {z : Value} {size bytes : Nat}
  (ho : o.op = .call { callee := .builtin .append, args := #[s, x], argTypes := #[t, t] }) (E : El P t e z size bytes) (base : Nat) (hbase : base ≤ w.heap.size) (v : Value) (n : Nat) (xs : List Value) (hs : a.eval s = v) (hown : w.ownsRow base e size v n xs)
  (A : Option Addr) (m c : Nat) (news : List Value) (hx : a.eval x = .slice A m c) (hr : Rd w size A m news) (h1 : ∀ u ∈ news, u.oneCell' = true) (h63 : n + m ≤ maxLen) (hbytes : (n + m) * bytes ≤ 140737488355328)
  (h : ∀ v' w', w'.ownsRow base e size v' (n + m) (xs ++ news) → w.grownBy w' v.ownBlock → (∀ g, v'.ownBlock = some g → v.ownBlock = some g ∨ w.heap.size ≤ g) → wpList P ops Q rest (a.put o.dst v') w') : wpList P ops Q (o :: rest) a w :=
 wpList_plain hgd fun K hK => by
  obtain ⟨v', w', hrun, h2, h3, h4⟩ := run_app3 (P := P) (ty := o.type) w E base hbase v n xs hown A m c news hr h1 h63 hbytes
  exact wp_runA w s x t t ho _ _ hs hx hrun (hK _ _ (h v' w' h2 h3 h4))
theorem wpList_appR {ops : Array Oper} {rest : List Oper} {o : Oper} {a : Act} {Q : Exit → Act → World → Prop} (hgd : o.guard = none) (s x : Operand) (t t' : TypeId)
  (ho : o.op = .call { callee := .builtin .append, args := #[s, x], argTypes := #[t, t'] }) (vs vx : Value) (hs : a.eval s = vs) (hx : a.eval x = vx) {v' : Value} {w' : World} (hr : (Builtin.append_ #[t, t'] o.type #[vs, vx]).run P w = .ok v' w') (h : wpList P ops Q rest (a.put o.dst v') w') : wpList P ops Q (o :: rest) a w :=
 wpList_plain hgd fun _ hK => wp_runA w s x t t' ho vs vx hs hx hr (hK _ _ h)
theorem step_copyR {ops : Array Oper} {o : Oper} {a : Act} {K : Act → World → Prop} {Q : Exit → Act → World → Prop} {D : Prop} (hgd : o.guard = none) (s x : Operand) (t t' : TypeId)
  (ho : o.op = .call { callee := .builtin .copy, args := #[s, x], argTypes := #[t, t'] }) (vs vx : Value) (hs : a.eval s = vs) (hx : a.eval x = vx) {v' : Value} {w' : World} (hr : (Builtin.copy_ #[t, t'] o.type #[vs, vx]).run P w = .ok v' w') (h : K (a.put o.dst v') w') : if Region.wanted o (yielded ops a.tmps) = true then Oper.wp P o a w K Q else D := by
 have hw : Region.wanted o (yielded ops a.tmps) = true := by simp [Region.wanted, hgd]
 rw [if_pos hw]
 exact wp_runC w s x t t' ho vs vx hs hx hr h
end
theorem own_lit0cB (w : World) (base : Nat) (hb : base ≤ w.heap.size) (e size : Nat) : (w.alloc (.cells #[] e)).ownsRow base e size (.slice (some ⟨w.heap.size, 0, none⟩) 0 0) 0 [] :=
 ⟨by simp, .inr ⟨w.heap.size, 0, #[], rfl, hb, heap_alloc_new _ _, Nat.le_refl _, Nat.zero_le _, by simp, by simp⟩⟩

set_option maxRecDepth 100000 in
set_option maxHeartbeats 2000000 in
theorem cloneP_any (A : Option Addr) (n c : Nat) (xs : List Value) (w : World) (hR : Rd w 2 A n xs) (h1 : ∀ u ∈ xs, u.oneCell' = true) (hn : n ≤ 1048576) (hnil : A = none → n = 0 ∧ c = 0) :
  Calls Tryz.prog 89 #[.slice A n c] w fun e w' => ∃ v', e = .returned v' ∧ w'.ownsRow w.heap.size 121 2 v' n xs ∧ Ext w w' := by
 rcases A with _ | ad
 ·
  obtain ⟨rfl, rfl⟩ := hnil rfl
  have hx : xs = [] := List.eq_nil_of_length_eq_zero (by simpa using hR.1)
  subst hx
  have heq := Lib.run_eql_slice_nil (P := Tryz.prog) w 123 121 none 0 0 0 0 Tryz.underlying123
  go_enter Tryz.func89, Tryz.ntmps89
  go_wp2
  go_ret
  exact ⟨_, rfl, World.ownsRow_nil _ _ _ _, ex_⟩
 ·
  have heq := Lib.run_eql_slice_nil (P := Tryz.prog) w 123 121 (some ad) n c 0 0 Tryz.underlying123
  go_enter Tryz.func89, Tryz.ntmps89
  go_wp2_with (at_builtin; refine wpList_app _ rfl (.tmp 5) (.tmp 6) rfl elPair w (ex_) _ 0 [] rfl (own_lit0cB w _ (Nat.le_refl _) _ _) (some ad) n c xs rfl (hR.ext (ex_)) h1 (by unfold maxLen; omega) (by omega) ?_; intro v1 x1 ho1 _)
  go_ret
  exact ⟨_, rfl, by simpa using ho1, ex_⟩
set_option maxRecDepth 100000 in
set_option maxHeartbeats 8000000 in
theorem insSP_any (base g cap n i vb vc : Nat) (cur news : List Value) (w : World) (hB : Blk w base 121 2 g cap cur) (hi : i < n) (hroom : n + 1 ≤ cap) (hn : n ≤ 1048576) (hvb : vb ≠ g) (hv : w.heap[vb]? = some (.cells news.toArray 121 (0, 0))) (hnl : news.length = 2) (h1n : ∀ u ∈ news, u.oneCell' = true) (h1c : ∀ u ∈ cur.take (n * 2), u.oneCell' = true) :
  Calls Tryz.prog 87 #[.slice (some ⟨g, 0, none⟩) n cap, .int .i64 i, .slice (some ⟨vb, 0, none⟩) 1 vc] w fun e w' => e = .returned (.slice (some ⟨g, 0, none⟩) (n + 1) cap) ∧ Blk w' base 121 2 g cap (cur.take (i * 2) ++ (news ++ ((cur.take (n * 2)).drop (i * 2) ++ cur.drop ((n + 1) * 2)))) ∧ w.grownBy w' (some g) := by
 have hcl := hB.hl
 have hcm := hB.hm
 obtain ⟨cs, hcs⟩ : ∃ cs, (cur.take (n * 2)).drop (i * 2) = cs := ⟨_, rfl⟩
 have hm1 := Nat.mul_le_mul_right 2 (show n + 1 ≤ cap by omega)
 have hcsl : cs.length = (n - i) * 2 := by rw [← hcs]; simp only [List.length_drop, List.length_take, hcl]; rw [Nat.sub_mul]; omega
 have hmin : Nat.min (n + 1 - i) (n + 1 - (i + 1)) = n - i := by simp only [Nat.min_def]; split <;> omega
 have hmin2 : Nat.min 1 (n + 1 - i) = 1 := by simp only [Nat.min_def]; split <;> omega
 have e1 : (n + 1) * 2 = n * 2 + 2 := by omega
 have e2 : (i + 1) * 2 = i * 2 + 2 := by omega
 have e3 : (n - i) * 2 = n * 2 - i * 2 := Nat.sub_mul _ _ _
 have hile : i * 2 ≤ n * 2 := Nat.mul_le_mul_right _ (by omega)
 have hB0 : Blk w.drew base 121 2 g cap cur := ⟨hB.hb, hB.hp, hB.hm, hB.hl⟩
 obtain ⟨W1, hW1⟩ : ∃ W1, w.drew.setCells g ((i + 1) * 2) cs = W1 := ⟨_, rfl⟩
 have hs1 := hB0.setCells (vs := cs) ((i + 1) * 2) (by rw [hcsl]; omega)
 rw [hW1] at hs1
 have hcp1 : Hid (∀ ty dc sc, (Builtin.copy_ #[123, 123] ty #[.slice (some ⟨g, (i + 1) * 2, none⟩) (n - i) dc, .slice (some ⟨g, (i) * 2, none⟩) (n + 1 - i) sc]).run Tryz.prog w.drew = .ok (goInt ((n - i : Nat) : Int)) W1) := Lib.hid (fun ty dc sc => by
  have h := run_copyB (P := Tryz.prog) (t' := 123) (ty := ty) w.drew elPair g ((i + 1) * 2) (n + 1 - (i + 1)) dc ⟨g, i * 2, none⟩ (n + 1 - i) sc cs (by rw [hcsl, hmin]) (fun j v hj => by
    rw [add_none, hB0.cell]
    rw [← hcs, List.getElem?_drop, List.getElem?_take] at hj
    split at hj
    ·
     exact hj
    ·
     cases hj)
   (fun j hj => by rw [hB0.cell, List.getElem?_eq_getElem (by omega)]; rfl) (fun j _ => hB0.frozen _) (fun v hv => h1c v (by rw [← hcs] at hv; exact List.mem_of_mem_drop hv))
  rw [hmin, hW1] at h
  simpa using h)
 obtain ⟨W2, hW2⟩ : ∃ W2, W1.setCells g (i * 2) news = W2 := ⟨_, rfl⟩
 have hs2 := hs1.1.setCells (vs := news) (i * 2) (by rw [hs1.1.hl, hnl]; omega)
 rw [hW2] at hs2
 have hv1 : W1.heap[vb]? = some (.cells news.toArray 121 (0, 0)) := (hs1.2.block vb (Array.getElem?_eq_some_iff.1 hv).1 (by simpa using hvb)).trans hv
 have hcp2 : Hid (∀ ty dc, (Builtin.copy_ #[123, 123] ty #[.slice (some ⟨g, (i) * 2, none⟩) (n + 1 - i) dc, .slice (some ⟨vb, 0, none⟩) 1 vc]).run Tryz.prog W1 = .ok (goInt 1) W2) := Lib.hid (fun ty dc => by
  have h := run_copyB (P := Tryz.prog) (t' := 123) (ty := ty) W1 elPair g (i * 2) (n + 1 - i) dc ⟨vb, 0, none⟩ 1 vc news (by rw [hmin2, hnl]) (fun j v hj => by
    rw [add_none, Nat.zero_add]
    simp [World.cell?, hv1, hj])
   (fun j hj => by rw [hs1.1.cell, List.getElem?_eq_getElem (by rw [hs1.1.hl]; omega)]; rfl) (fun j _ => hs1.1.frozen _) h1n
  rw [hmin2, hW2] at h
  simpa using h)
 have hov : ∀ lb cb, (callFunc 119 #[.slice (some ⟨vb, 0, none⟩) 1 vc, .slice (some ⟨g, (i + 1) * 2, none⟩) lb cb]).run Tryz.prog w = .ok (.value (.bool false)) w := fun lb cb => by
  obtain ⟨ti, hti, _, hts, _⟩ := elPair.hi
  rw [run_callFunc_extern Tryz.func119 (by kernel_rfl) (by kernel_rfl) (by kernel_rfl) (e := Extern.SlicesOverlaps.overlaps #[123, 123] #[4]) (by kernel_rfl),
   Lib.run_overlaps_apart w 123 4 121 elPair.ht 2 (fun w => by simp [sizeOf, typeInfo, hti, hts]) ⟨vb, 0, none⟩ ⟨g, (i + 1) * 2, none⟩ 1 vc lb cb hvb 121 121 2 (cap * 2) (by simp [World.shape?, hv, hnl]) (by simp [World.shape?, hB.hp, hcl]) (by omega) (by simp [World.frozen?, hv]) (by simp [World.frozen?, hv])]
  rfl
 have hfin : Blk W2 base 121 2 g cap (cur.take (i * 2) ++ (news ++ (cs ++ cur.drop ((n + 1) * 2)))) := by
  have := hs2.1
  rw [hnl, ← e2] at this
  have e4 : (i + 1) * 2 + cs.length = (n + 1) * 2 := by rw [hcsl]; omega
  rw [e4, List.take_append_of_le_length (by simp only [List.length_take]; omega), List.take_take, Nat.min_eq_left (by omega), List.drop_append_of_le_length (by simp only [List.length_take]; omega), List.drop_eq_nil_of_le (by simp only [List.length_take]; omega)] at this
  simpa using this
 have hgr : w.grownBy W2 (some g) := World.grownBy.trans ⟨hs1.2.os, hs1.2.tape, hs1.2.output, hs1.2.size, hs1.2.block⟩ hs2.2
 have hw1 : IntKind.i64.wrap ((i : Int) + 1) = (i : Int) + 1 := IntWalk.i64_in _ (by omega)
 have hb2 : ¬ (cap = i + 1) := by omega
 have hb4 : ¬ (cap = i) := by omega
 have hcd1 : (0 : Int) ≤ (i : Int) + 1 ∧ i ≤ n := by omega
 have hcd2 : (i : Int) ≤ (n : Int) + 1 := by omega
 rw [hcs]
 clear hs1 hs2 hW1 hW2 hv1 hv hB hB0 hcs hcsl e1 e2 e3 hile hm1 hcl h1c h1n
 go_enter Tryz.func87, Tryz.ntmps87
 go_wp2_with (simp only [hov])
 refine wp_region_held_drew (S := (fun _ => True)) (by kernel_rfl) (by trivial) (fun hHeld => ?_)
 refine tkH 0 ?oi1 (?v1) ?hi1 ?hy1 ?_
 case hi1 => (simp only [gA, gS, gZ]; try rfl)
 case hy1 => (refine Or.inl ⟨by rfl, ?_⟩; intro wq hSw; (try dsimp only at hSw); go_simp; (try rw [if_pos hcd1]); (try rw [if_pos hcd2]); (try with_reducible rfl))
 (try simp only [Act.put, pA, pZ, pS])
 refine tkH 1 ?oi2 (?v2) ?hi2 ?hy2 ?_
 case hi2 => (simp only [gA, gS, gZ]; try rfl)
 case hy2 => (refine Or.inl ⟨by rfl, ?_⟩; intro wq hSw; (try dsimp only at hSw); go_simp; (try rw [if_pos hcd1]); (try rw [if_pos hcd2]); (try with_reducible rfl))
 (try simp only [Act.put, pA, pZ, pS])
 refine tkH 2 ?oi3 (?v3) ?hi3 ?hy3 ?_
 case hi3 => (simp only [gA, gS, gZ]; try rfl)
 case hy3 => (refine Or.inl ⟨by rfl, ?_⟩; intro wq hSw; (try dsimp only at hSw); go_simp; (try rw [if_pos hcd1]); (try rw [if_pos hcd2]); (try with_reducible rfl))
 (try simp only [Act.put, pA, pZ, pS])
 refine tkH 3 ?oi4 (?v4) ?hi4 ?hy4 ?_
 case hi4 => (simp only [gA, gS, gZ]; try rfl)
 case hy4 => (refine Or.inl ⟨by rfl, ?_⟩; intro wq hSw; (try dsimp only at hSw); go_simp; (try rw [if_pos hcd1]); (try rw [if_pos hcd2]); (try with_reducible rfl))
 (try simp only [Act.put, pA, pZ, pS])
 refine tkH 4 ?oi5 (?v5) ?hi5 ?hy5 ?_
 case hi5 => (simp only [gA, gS, gZ]; try rfl)
 case hy5 => (refine Or.inl ⟨by rfl, ?_⟩; intro wq hSw; (try dsimp only at hSw); go_simp; (try rw [if_pos hcd1]); (try rw [if_pos hcd2]); (try with_reducible rfl))
 (try simp only [Act.put, pA, pZ, pS])
 refine tkH 5 ?oi6 (?v6) ?hi6 ?hy6 ?_
 case hi6 => (simp only [gA, gS, gZ]; try rfl)
 case hy6 => (refine Or.inl ⟨by rfl, ?_⟩; intro wq hSw; (try dsimp only at hSw); go_simp; (try rw [if_pos hcd1]); (try rw [if_pos hcd2]); (try with_reducible rfl))
 (try simp only [Act.put, pA, pZ, pS])
 refine tkH 6 ?oi7 (?v7) ?hi7 ?hy7 ?_
 case hi7 => (simp only [gA, gS, gZ]; try rfl)
 case hy7 => (refine Or.inl ⟨by rfl, ?_⟩; intro wq hSw; (try dsimp only at hSw); go_simp; (try rw [if_pos hcd1]); (try rw [if_pos hcd2]); (try with_reducible rfl))
 (try simp only [Act.put, pA, pZ, pS])
 refine tkH 7 ?oi8 (?v8) ?hi8 ?hy8 ?_
 case hi8 => (simp only [gA, gS, gZ]; try rfl)
 case hy8 => (refine Or.inl ⟨by rfl, ?_⟩; intro wq hSw; (try dsimp only at hSw); go_simp; (try rw [if_pos hcd1]); (try rw [if_pos hcd2]); (try with_reducible rfl))
 (try simp only [Act.put, pA, pZ, pS])
 refine wpAnyH_ready (rs := [8]) (by kernel_rfl) (by simp) ?_
 refine AllReadyH.cons (o := ?oi9) ?hi9 ?ti9 AllReadyH.nil
 case hi9 => (simp only [gA, gS, gZ]; try rfl)
 case ti9 =>
  intro KQ hKQ
  refine step_copyR _ (by rfl) (.tmp 73) (.tmp 76) 123 123 (by rfl) _ _ (by rfl) (by rfl) (hcp1.out _ _ _) ?_
  refine hKQ.out _ _ (by trivial) (fun hHeld2 => ?_)
  clear hHeld hKQ KQ; have hHeld := hHeld2; clear hHeld2
  (try simp only [Act.put, pA, pZ, pS])
  refine wpAnyH_done (by kernel_rfl) ?_ _
  go_wp2_with (simp only [hcp2.out])
  go_ret
  exact ⟨rfl, hfin, hgr⟩

set_option maxRecDepth 100000 in
set_option maxHeartbeats 2000000 in
theorem cloneQ_any (A : Option Addr) (n c : Nat) (xs : List Value) (w : World) (hR : Rd w 1 A n xs) (h1 : ∀ u ∈ xs, u.oneCell' = true) (hn : n ≤ 1048576) (hnil : A = none → n = 0 ∧ c = 0) :
  Calls Tryz.prog 90 #[.slice A n c] w fun e w' => ∃ v', e = .returned v' ∧ w'.ownsRow w.heap.size 115 1 v' n xs ∧ Ext w w' := by
 rcases A with _ | ad
 ·
  obtain ⟨rfl, rfl⟩ := hnil rfl
  have hx : xs = [] := List.eq_nil_of_length_eq_zero (by simpa using hR.1)
  subst hx
  have heq := Lib.run_eql_slice_nil (P := Tryz.prog) w 124 115 none 0 0 0 0 Tryz.underlying124
  go_enter Tryz.func90, Tryz.ntmps90
  go_wp2
  go_ret
  exact ⟨_, rfl, World.ownsRow_nil _ _ _ _, ex_⟩
 ·
  have heq := Lib.run_eql_slice_nil (P := Tryz.prog) w 124 115 (some ad) n c 0 0 Tryz.underlying124
  go_enter Tryz.func90, Tryz.ntmps90
  go_wp2_with (at_builtin; refine wpList_app _ rfl (.tmp 5) (.tmp 6) rfl elPtr w (ex_) _ 0 [] rfl (own_lit0cB w _ (Nat.le_refl _) _ _) (some ad) n c xs rfl (hR.ext (ex_)) h1 (by unfold maxLen; omega) (by omega) ?_; intro v1 x1 ho1 _)
  go_ret
  exact ⟨_, rfl, by simpa using ho1, ex_⟩
set_option maxRecDepth 100000 in
set_option maxHeartbeats 8000000 in
theorem insSQ_any (base g cap n i vb vc : Nat) (cur news : List Value) (w : World) (hB : Blk w base 115 1 g cap cur) (hi : i < n) (hroom : n + 1 ≤ cap) (hn : n ≤ 1048576) (hvb : vb ≠ g) (hv : w.heap[vb]? = some (.cells news.toArray 115 (0, 0))) (hnl : news.length = 1) (h1n : ∀ u ∈ news, u.oneCell' = true) (h1c : ∀ u ∈ cur.take (n * 1), u.oneCell' = true) :
  Calls Tryz.prog 88 #[.slice (some ⟨g, 0, none⟩) n cap, .int .i64 i, .slice (some ⟨vb, 0, none⟩) 1 vc] w fun e w' => e = .returned (.slice (some ⟨g, 0, none⟩) (n + 1) cap) ∧ Blk w' base 115 1 g cap (cur.take (i * 1) ++ (news ++ ((cur.take (n * 1)).drop (i * 1) ++ cur.drop ((n + 1) * 1)))) ∧ w.grownBy w' (some g) := by
 have hcl := hB.hl
 have hcm := hB.hm
 obtain ⟨cs, hcs⟩ : ∃ cs, (cur.take (n * 1)).drop (i * 1) = cs := ⟨_, rfl⟩
 have hm1 := Nat.mul_le_mul_right 1 (show n + 1 ≤ cap by omega)
 have hcsl : cs.length = (n - i) * 1 := by rw [← hcs]; simp only [List.length_drop, List.length_take, hcl]; rw [Nat.sub_mul]; omega
 have hmin : Nat.min (n + 1 - i) (n + 1 - (i + 1)) = n - i := by simp only [Nat.min_def]; split <;> omega
 have hmin2 : Nat.min 1 (n + 1 - i) = 1 := by simp only [Nat.min_def]; split <;> omega
 have e1 : (n + 1) * 1 = n * 1 + 1 := by omega
 have e2 : (i + 1) * 1 = i * 1 + 1 := by omega
 have e3 : (n - i) * 1 = n * 1 - i * 1 := Nat.sub_mul _ _ _
 have hile : i * 1 ≤ n * 1 := Nat.mul_le_mul_right _ (by omega)
 have hB0 : Blk w.drew base 115 1 g cap cur := ⟨hB.hb, hB.hp, hB.hm, hB.hl⟩
 obtain ⟨W1, hW1⟩ : ∃ W1, w.drew.setCells g ((i + 1) * 1) cs = W1 := ⟨_, rfl⟩
 have hs1 := hB0.setCells (vs := cs) ((i + 1) * 1) (by rw [hcsl]; omega)
 rw [hW1] at hs1
 have hcp1 : Hid (∀ ty dc sc, (Builtin.copy_ #[124, 124] ty #[.slice (some ⟨g, i + 1, none⟩) (n - i) dc, .slice (some ⟨g, i, none⟩) (n + 1 - i) sc]).run Tryz.prog w.drew = .ok (goInt ((n - i : Nat) : Int)) W1) := Lib.hid (fun ty dc sc => by
  have h := run_copyB (P := Tryz.prog) (t' := 124) (ty := ty) w.drew elPtr g ((i + 1) * 1) (n + 1 - (i + 1)) dc ⟨g, i * 1, none⟩ (n + 1 - i) sc cs (by rw [hcsl, hmin]) (fun j v hj => by
    rw [add_none, hB0.cell]
    rw [← hcs, List.getElem?_drop, List.getElem?_take] at hj
    split at hj
    ·
     exact hj
    ·
     cases hj)
   (fun j hj => by rw [hB0.cell, List.getElem?_eq_getElem (by omega)]; rfl) (fun j _ => hB0.frozen _) (fun v hv => h1c v (by rw [← hcs] at hv; exact List.mem_of_mem_drop hv))
  rw [hmin, hW1] at h
  simpa using h)
 obtain ⟨W2, hW2⟩ : ∃ W2, W1.setCells g (i * 1) news = W2 := ⟨_, rfl⟩
 have hs2 := hs1.1.setCells (vs := news) (i * 1) (by rw [hs1.1.hl, hnl]; omega)
 rw [hW2] at hs2
 have hv1 : W1.heap[vb]? = some (.cells news.toArray 115 (0, 0)) := (hs1.2.block vb (Array.getElem?_eq_some_iff.1 hv).1 (by simpa using hvb)).trans hv
 have hcp2 : Hid (∀ ty dc, (Builtin.copy_ #[124, 124] ty #[.slice (some ⟨g, i, none⟩) (n + 1 - i) dc, .slice (some ⟨vb, 0, none⟩) 1 vc]).run Tryz.prog W1 = .ok (goInt 1) W2) := Lib.hid (fun ty dc => by
  have h := run_copyB (P := Tryz.prog) (t' := 124) (ty := ty) W1 elPtr g (i * 1) (n + 1 - i) dc ⟨vb, 0, none⟩ 1 vc news (by rw [hmin2, hnl]) (fun j v hj => by
    rw [add_none, Nat.zero_add]
    simp [World.cell?, hv1, hj])
   (fun j hj => by rw [hs1.1.cell, List.getElem?_eq_getElem (by rw [hs1.1.hl]; omega)]; rfl) (fun j _ => hs1.1.frozen _) h1n
  rw [hmin2, hW2] at h
  simpa using h)
 have hov : ∀ lb cb, (callFunc 121 #[.slice (some ⟨vb, 0, none⟩) 1 vc, .slice (some ⟨g, i + 1, none⟩) lb cb]).run Tryz.prog w = .ok (.value (.bool false)) w := fun lb cb => by
  obtain ⟨ti, hti, _, hts, _⟩ := elPtr.hi
  rw [run_callFunc_extern Tryz.func121 (by kernel_rfl) (by kernel_rfl) (by kernel_rfl) (e := Extern.SlicesOverlaps.overlaps #[124, 124] #[4]) (by kernel_rfl),
   Lib.run_overlaps_apart w 124 4 115 elPtr.ht 1 (fun w => by simp [sizeOf, typeInfo, hti, hts]) ⟨vb, 0, none⟩ ⟨g, i + 1, none⟩ 1 vc lb cb hvb 115 115 1 (cap * 1) (by simp [World.shape?, hv, hnl]) (by simp [World.shape?, hB.hp, hcl]) (by omega) (by simp [World.frozen?, hv]) (by simp [World.frozen?, hv])]
  rfl
 have hfin : Blk W2 base 115 1 g cap (cur.take (i * 1) ++ (news ++ (cs ++ cur.drop ((n + 1) * 1)))) := by
  have := hs2.1
  rw [hnl, ← e2] at this
  have e4 : (i + 1) * 1 + cs.length = (n + 1) * 1 := by rw [hcsl]; omega
  rw [e4, List.take_append_of_le_length (by simp only [List.length_take]; omega), List.take_take, Nat.min_eq_left (by omega), List.drop_append_of_le_length (by simp only [List.length_take]; omega), List.drop_eq_nil_of_le (by simp only [List.length_take]; omega)] at this
  simpa using this
 have hgr : w.grownBy W2 (some g) := World.grownBy.trans ⟨hs1.2.os, hs1.2.tape, hs1.2.output, hs1.2.size, hs1.2.block⟩ hs2.2
 have hw1 : IntKind.i64.wrap ((i : Int) + 1) = (i : Int) + 1 := IntWalk.i64_in _ (by omega)
 have hb2 : ¬ (cap = i + 1) := by omega
 have hb4 : ¬ (cap = i) := by omega
 have hcd1 : (0 : Int) ≤ (i : Int) + 1 ∧ i ≤ n := by omega
 have hcd2 : (i : Int) ≤ (n : Int) + 1 := by omega
 rw [hcs]
 clear hs1 hs2 hW1 hW2 hv1 hv hB hB0 hcs hcsl e1 e2 e3 hile hm1 hcl h1c h1n
 go_enter Tryz.func88, Tryz.ntmps88
 go_wp2_with (simp only [hov])
 refine wp_region_held_drew (S := (fun _ => True)) (by kernel_rfl) (by trivial) (fun hHeld => ?_)
 refine tkH 0 ?oi1 (?v1) ?hi1 ?hy1 ?_
 case hi1 => (simp only [gA, gS, gZ]; try rfl)
 case hy1 => (refine Or.inl ⟨by rfl, ?_⟩; intro wq hSw; (try dsimp only at hSw); go_simp; (try rw [if_pos hcd1]); (try rw [if_pos hcd2]); (try with_reducible rfl))
 (try simp only [Act.put, pA, pZ, pS])
 refine tkH 1 ?oi2 (?v2) ?hi2 ?hy2 ?_
 case hi2 => (simp only [gA, gS, gZ]; try rfl)
 case hy2 => (refine Or.inl ⟨by rfl, ?_⟩; intro wq hSw; (try dsimp only at hSw); go_simp; (try rw [if_pos hcd1]); (try rw [if_pos hcd2]); (try with_reducible rfl))
 (try simp only [Act.put, pA, pZ, pS])
 refine tkH 2 ?oi3 (?v3) ?hi3 ?hy3 ?_
 case hi3 => (simp only [gA, gS, gZ]; try rfl)
 case hy3 => (refine Or.inl ⟨by rfl, ?_⟩; intro wq hSw; (try dsimp only at hSw); go_simp; (try rw [if_pos hcd1]); (try rw [if_pos hcd2]); (try with_reducible rfl))
 (try simp only [Act.put, pA, pZ, pS])
 refine tkH 3 ?oi4 (?v4) ?hi4 ?hy4 ?_
 case hi4 => (simp only [gA, gS, gZ]; try rfl)
 case hy4 => (refine Or.inl ⟨by rfl, ?_⟩; intro wq hSw; (try dsimp only at hSw); go_simp; (try rw [if_pos hcd1]); (try rw [if_pos hcd2]); (try with_reducible rfl))
 (try simp only [Act.put, pA, pZ, pS])
 refine tkH 4 ?oi5 (?v5) ?hi5 ?hy5 ?_
 case hi5 => (simp only [gA, gS, gZ]; try rfl)
 case hy5 => (refine Or.inl ⟨by rfl, ?_⟩; intro wq hSw; (try dsimp only at hSw); go_simp; (try rw [if_pos hcd1]); (try rw [if_pos hcd2]); (try with_reducible rfl))
 (try simp only [Act.put, pA, pZ, pS])
 refine tkH 5 ?oi6 (?v6) ?hi6 ?hy6 ?_
 case hi6 => (simp only [gA, gS, gZ]; try rfl)
 case hy6 => (refine Or.inl ⟨by rfl, ?_⟩; intro wq hSw; (try dsimp only at hSw); go_simp; (try rw [if_pos hcd1]); (try rw [if_pos hcd2]); (try with_reducible rfl))
 (try simp only [Act.put, pA, pZ, pS])
 refine tkH 6 ?oi7 (?v7) ?hi7 ?hy7 ?_
 case hi7 => (simp only [gA, gS, gZ]; try rfl)
 case hy7 => (refine Or.inl ⟨by rfl, ?_⟩; intro wq hSw; (try dsimp only at hSw); go_simp; (try rw [if_pos hcd1]); (try rw [if_pos hcd2]); (try with_reducible rfl))
 (try simp only [Act.put, pA, pZ, pS])
 refine tkH 7 ?oi8 (?v8) ?hi8 ?hy8 ?_
 case hi8 => (simp only [gA, gS, gZ]; try rfl)
 case hy8 => (refine Or.inl ⟨by rfl, ?_⟩; intro wq hSw; (try dsimp only at hSw); go_simp; (try rw [if_pos hcd1]); (try rw [if_pos hcd2]); (try with_reducible rfl))
 (try simp only [Act.put, pA, pZ, pS])
 refine wpAnyH_ready (rs := [8]) (by kernel_rfl) (by simp) ?_
 refine AllReadyH.cons (o := ?oi9) ?hi9 ?ti9 AllReadyH.nil
 case hi9 => (simp only [gA, gS, gZ]; try rfl)
 case ti9 =>
  intro KQ hKQ
  refine step_copyR _ (by rfl) (.tmp 73) (.tmp 76) 124 124 (by rfl) _ _ (by rfl) (by rfl) (hcp1.out _ _ _) ?_
  refine hKQ.out _ _ (by trivial) (fun hHeld2 => ?_)
  clear hHeld hKQ KQ; have hHeld := hHeld2; clear hHeld2
  (try simp only [Act.put, pA, pZ, pS])
  refine wpAnyH_done (by kernel_rfl) ?_ _
  go_wp2_with (simp only [hcp2.out])
  go_ret
  exact ⟨rfl, hfin, hgr⟩

end Go.Proofs.YtdiaecgpjgdkdaaGreat

namespace Go.Proofs.YtdiaecgpjgdkdaaGreat
open Go.RowKit

theorem two_set {a rest news cs : List Value} {p q r : Nat} (ha : a.length = p) (hq : p + news.length = q) (hr : q + cs.length = r) :
  (((((a ++ rest).take p ++ (news ++ (a ++ rest).drop (p + news.length))).take q) ++ (cs ++ ((a ++ rest).take p ++ (news ++ (a ++ rest).drop (p + news.length))).drop (q + cs.length))).take r) = a ++ (news ++ cs) := by
 subst ha hq hr
 rw [List.take_left]
 obtain ⟨X, hX⟩ : ∃ X, (a ++ rest).drop (a.length + news.length) = X := ⟨_, rfl⟩
 rw [hX, ← List.append_assoc a news X, show a.length + news.length = (a ++ news).length by simp, List.take_left, ← List.append_assoc (a ++ news) cs, show (a ++ news).length + cs.length = ((a ++ news) ++ cs).length by simp; omega, List.take_left, List.append_assoc]
theorem grown_new {w W W' : World} {row : Option Nat} {b : Nat} (h : w.grownBy W row) (k : W.grownBy W' (some b)) (hb : w.heap.size ≤ b) : w.grownBy W' row :=
 ⟨k.os.trans h.os, k.tape.trans h.tape, k.output.trans h.output, Nat.le_trans h.size k.size, fun j hj hne => (k.block j (Nat.lt_of_lt_of_le hj h.size) (fun e => by have := Option.some.inj e; omega)).trans (h.block j hj hne)⟩

set_option maxRecDepth 100000 in
set_option maxHeartbeats 8000000 in
theorem insGP_any (base g cap n i vb vc : Nat) (cur news : List Value) (w : World) (hbw : base ≤ w.heap.size) (hB : Blk w base 121 2 g cap cur) (hi : i < n) (hnc : n ≤ cap) (hroom : cap < n + 1) (hn : n ≤ 1048576) (hv : w.heap[vb]? = some (.cells news.toArray 121 (0, 0))) (hnl : news.length = 2) (h1n : ∀ u ∈ news, u.oneCell' = true) (h1c : ∀ u ∈ cur.take (n * 2), u.oneCell' = true) :
  Calls Tryz.prog 87 #[.slice (some ⟨g, 0, none⟩) n cap, .int .i64 i, .slice (some ⟨vb, 0, none⟩) 1 vc] w fun e w' => ∃ v', e = .returned v' ∧ w'.ownsRow base 121 2 v' (n + 1) (cur.take (i * 2) ++ (news ++ (cur.take (n * 2)).drop (i * 2))) ∧ w.grownBy w' (some g) ∧ ∀ q, v'.ownBlock = some q → (some g = some q) ∨ w.heap.size ≤ q := by
 have hcl := hB.hl
 have hcm := hB.hm
 have hcn : cap = n := by omega
 subst hcn
 obtain ⟨cs, hcs⟩ : ∃ cs, (cur.take (cap * 2)).drop (i * 2) = cs := ⟨_, rfl⟩
 have e2 : (i + 1) * 2 = i * 2 + 2 := by omega
 have e1 : (cap + 1) * 2 = cap * 2 + 2 := by omega
 have e3 : (cap - i) * 2 = cap * 2 - i * 2 := Nat.sub_mul _ _ _
 have hile : i * 2 ≤ cap * 2 := Nat.mul_le_mul_right _ (by omega)
 have hcsl : cs.length = (cap - i) * 2 := by rw [← hcs]; simp only [List.length_drop, List.length_take, hcl]; omega
 obtain ⟨cap2, rest, hrz, hc2, hc2m, hl2⟩ := run_append_zeros (P := Tryz.prog) (ty := 123) w elPair .i64 Tryz.underlying3 ⟨g, 0, none⟩ i cap (cap + 1 - i) (cur.take (i * 2)) (by rw [List.length_take, hcl]; omega) (fun j v hj => by
   rw [add_none, Nat.zero_add, hB.cell]
   rw [List.getElem?_take] at hj
   split at hj
   ·
    exact hj
   ·
    cases hj) (by omega) (by omega) (by unfold maxLen; omega) (by omega)
 have him : i + (cap + 1 - i) = cap + 1 := by omega
 rw [him] at hrz hc2
 have hzi : (((cap + 1 - i : Nat)) : Int) = (cap : Int) + 1 - (i : Int) := by omega
 rw [hzi] at hrz
 obtain ⟨W0, hW0⟩ : ∃ W0, w.drew.alloc (.cells (cur.take (i * 2) ++ rest).toArray 121) = W0 := ⟨_, rfl⟩
 rw [hW0] at hrz
 have hlt2 : (cur.take (i * 2)).length = i * 2 := by rw [List.length_take, hcl]; omega
 have hB2 : Blk W0 base 121 2 w.heap.size cap2 (cur.take (i * 2) ++ rest) := ⟨hbw, by rw [← hW0]; exact heap_alloc_new _ _, hc2m, hl2⟩
 have hg0 : w.grownBy W0 none := by rw [← hW0]; exact (World.grownBy.refl w none).trans ⟨rfl, rfl, rfl, (World.grownBy_alloc w.drew _ none).size, (World.grownBy_alloc w.drew _ none).block⟩
 have hm2 := Nat.mul_le_mul_right 2 hc2
 have hv0 : W0.heap[vb]? = some (.cells news.toArray 121 (0, 0)) := (hg0.block vb (Array.getElem?_eq_some_iff.1 hv).1 (by simp)).trans hv
 have hmin2 : Nat.min 1 (cap + 1 - i) = 1 := by simp only [Nat.min_def]; split <;> omega
 obtain ⟨W1, hW1⟩ : ∃ W1, W0.setCells w.heap.size (i * 2) news = W1 := ⟨_, rfl⟩
 have hs1 := hB2.setCells (vs := news) (i * 2) (by rw [hl2, hnl]; omega)
 rw [hW1] at hs1
 have hcp1 : ∀ ty dc, (Builtin.copy_ #[123, 123] ty #[.slice (some ⟨w.heap.size, (i) * 2, none⟩) (cap + 1 - i) dc, .slice (some ⟨vb, 0, none⟩) 1 vc]).run Tryz.prog W0 = .ok (goInt 1) W1 := fun ty dc => by
  have h := run_copyB (P := Tryz.prog) (t' := 123) (ty := ty) W0 elPair w.heap.size (i * 2) (cap + 1 - i) dc ⟨vb, 0, none⟩ 1 vc news (by rw [hmin2, hnl]) (fun j v hj => by
    rw [add_none, Nat.zero_add]
    simp [World.cell?, hv0, hj])
   (fun j hj => by rw [hB2.cell, List.getElem?_eq_getElem (by rw [hl2]; omega)]; rfl) (fun j _ => hB2.frozen _) h1n
  rw [hmin2, hW1] at h
  simpa using h
 have hgg : g < w.heap.size := hB.lt
 have hBg : Blk W1.drew base 121 2 g cap cur := ⟨hB.hb, by
  show W1.heap[g]? = _
  rw [hs1.2.block g (Nat.lt_of_lt_of_le hgg hg0.size) (by simp; omega), hg0.block g hgg (by simp)]
  exact hB.hp, hB.hm, hB.hl⟩
 have hB3 : Blk W1.drew base 121 2 w.heap.size cap2 _ := ⟨hs1.1.hb, hs1.1.hp, hs1.1.hm, hs1.1.hl⟩
 obtain ⟨W2, hW2⟩ : ∃ W2, W1.drew.setCells w.heap.size ((i + 1) * 2) cs = W2 := ⟨_, rfl⟩
 have hs2 := hB3.setCells (vs := cs) ((i + 1) * 2) (by rw [hs1.1.hl, hcsl]; omega)
 rw [hW2] at hs2
 have hmin : Nat.min (cap - i) (cap - i) = cap - i := Nat.min_self _
 have hcp2 : Hid (∀ ty dc sc, (Builtin.copy_ #[123, 123] ty #[.slice (some ⟨w.heap.size, (i + 1) * 2, none⟩) (cap - i) dc, .slice (some ⟨g, (i) * 2, none⟩) (cap - i) sc]).run Tryz.prog W1.drew = .ok (goInt ((cap - i : Nat) : Int)) W2) := Lib.hid (fun ty dc sc => by
  have h := run_copyB (P := Tryz.prog) (t' := 123) (ty := ty) W1.drew elPair w.heap.size ((i + 1) * 2) (cap - i) dc ⟨g, i * 2, none⟩ (cap - i) sc cs (by rw [hcsl, hmin]) (fun j v hj => by
    rw [add_none, hBg.cell]
    rw [← hcs, List.getElem?_drop, List.getElem?_take] at hj
    split at hj
    ·
     exact hj
    ·
     cases hj)
   (fun j hj => by rw [hB3.cell, List.getElem?_eq_getElem (by rw [hB3.hl]; omega)]; rfl) (fun j _ => hB3.frozen _) (fun v hv => h1c v (by rw [← hcs] at hv; exact List.mem_of_mem_drop hv))
  rw [hmin, hW2] at h
  simpa using h)
 have hfin : W2.ownsRow base 121 2 (.slice (some ⟨w.heap.size, 0, none⟩) (cap + 1) cap2) (cap + 1) (cur.take (i * 2) ++ (news ++ cs)) := by
  have := hs2.1.own hc2
  have e6 : (cap + 1) * 2 = (i + 1) * 2 + cs.length := by rw [hcsl]; omega
  have e7 : (i + 1) * 2 = i * 2 + news.length := by rw [hnl]; omega
  rw [two_set hlt2 e7.symm e6.symm] at this
  exact this
 have hgr : w.grownBy W2 (some g) := by
  have h1 : w.grownBy W1.drew none := grown_new hg0 (⟨hs1.2.os, hs1.2.tape, hs1.2.output, hs1.2.size, hs1.2.block⟩ : W0.grownBy W1.drew (some w.heap.size)) (Nat.le_refl _)
  have h2 := grown_new h1 hs2.2 (Nat.le_refl _)
  exact ⟨h2.os, h2.tape, h2.output, h2.size, fun j hj _ => h2.block j hj (by simp)⟩
 have hw1 : IntKind.i64.wrap ((i : Int) + 1) = (i : Int) + 1 := IntWalk.i64_in _ (by omega)
 have hw2 : IntKind.i64.wrap ((cap : Int) + 1) = (cap : Int) + 1 := IntWalk.i64_in _ (by omega)
 have hw3 : IntKind.i64.wrap ((cap : Int) + 1 - (i : Int)) = (cap : Int) + 1 - (i : Int) := IntWalk.i64_in _ (by omega)
 have hb2 : ¬ (cap2 = i + 1) := by omega
 have hb4 : ¬ (cap2 = i) := by omega
 have hb5 : ¬ (cap = i) := by omega
 have hcd1 : (0 : Int) ≤ (i : Int) + 1 ∧ i ≤ cap := by omega
 have hcd2 : (i : Int) ≤ (cap : Int) + 1 := by omega
 have hcd3 : i ≤ cap := by omega
 rw [hcs]
 clear hs1 hs2 hW0 hW1 hW2 hv hv0 hB hB2 hB3 hBg hcs hcsl e1 e2 e3 hile hm2 hcl h1c h1n hl2 hlt2 hg0 hzi him hmin hmin2 hgg
 go_enter Tryz.func87, Tryz.ntmps87
 go_wp2_with (first | simp only [hcp1] | (at_builtin; refine wpList_appR _ rfl (.tmp 34) (.tmp 39) 123 3 rfl _ _ rfl rfl hrz ?_))
 refine wp_region_held_drew (S := (fun _ => True)) (by kernel_rfl) (by trivial) (fun hHeld => ?_)
 refine tkH 0 ?oi1 (?v1) ?hi1 ?hy1 ?_
 case hi1 => (simp only [gA, gS, gZ]; try rfl)
 case hy1 => (refine Or.inl ⟨by rfl, ?_⟩; intro wq hSw; (try dsimp only at hSw); go_simp; (try rw [if_pos hcd1]); (try rw [if_pos hcd2]); (try rw [if_pos hcd3]); (try with_reducible rfl))
 (try simp only [Act.put, pA, pZ, pS])
 refine tkH 1 ?oi2 (?v2) ?hi2 ?hy2 ?_
 case hi2 => (simp only [gA, gS, gZ]; try rfl)
 case hy2 => (refine Or.inl ⟨by rfl, ?_⟩; intro wq hSw; (try dsimp only at hSw); go_simp; (try rw [if_pos hcd1]); (try rw [if_pos hcd2]); (try rw [if_pos hcd3]); (try with_reducible rfl))
 (try simp only [Act.put, pA, pZ, pS])
 refine tkH 2 ?oi3 (?v3) ?hi3 ?hy3 ?_
 case hi3 => (simp only [gA, gS, gZ]; try rfl)
 case hy3 => (refine Or.inl ⟨by rfl, ?_⟩; intro wq hSw; (try dsimp only at hSw); go_simp; (try rw [if_pos hcd1]); (try rw [if_pos hcd2]); (try rw [if_pos hcd3]); (try with_reducible rfl))
 (try simp only [Act.put, pA, pZ, pS])
 refine tkH 3 ?oi4 (?v4) ?hi4 ?hy4 ?_
 case hi4 => (simp only [gA, gS, gZ]; try rfl)
 case hy4 => (refine Or.inl ⟨by rfl, ?_⟩; intro wq hSw; (try dsimp only at hSw); go_simp; (try rw [if_pos hcd1]); (try rw [if_pos hcd2]); (try rw [if_pos hcd3]); (try with_reducible rfl))
 (try simp only [Act.put, pA, pZ, pS])
 refine tkH 4 ?oi5 (?v5) ?hi5 ?hy5 ?_
 case hi5 => (simp only [gA, gS, gZ]; try rfl)
 case hy5 => (refine Or.inl ⟨by rfl, ?_⟩; intro wq hSw; (try dsimp only at hSw); go_simp; (try rw [if_pos hcd1]); (try rw [if_pos hcd2]); (try rw [if_pos hcd3]); (try with_reducible rfl))
 (try simp only [Act.put, pA, pZ, pS])
 refine tkH 5 ?oi6 (?v6) ?hi6 ?hy6 ?_
 case hi6 => (simp only [gA, gS, gZ]; try rfl)
 case hy6 => (refine Or.inl ⟨by rfl, ?_⟩; intro wq hSw; (try dsimp only at hSw); go_simp; (try rw [if_pos hcd1]); (try rw [if_pos hcd2]); (try rw [if_pos hcd3]); (try with_reducible rfl))
 (try simp only [Act.put, pA, pZ, pS])
 refine tkH 6 ?oi7 (?v7) ?hi7 ?hy7 ?_
 case hi7 => (simp only [gA, gS, gZ]; try rfl)
 case hy7 => (refine Or.inl ⟨by rfl, ?_⟩; intro wq hSw; (try dsimp only at hSw); go_simp; (try rw [if_pos hcd1]); (try rw [if_pos hcd2]); (try rw [if_pos hcd3]); (try with_reducible rfl))
 (try simp only [Act.put, pA, pZ, pS])
 refine tkH 7 ?oi8 (?v8) ?hi8 ?hy8 ?_
 case hi8 => (simp only [gA, gS, gZ]; try rfl)
 case hy8 => (refine Or.inl ⟨by rfl, ?_⟩; intro wq hSw; (try dsimp only at hSw); go_simp; (try rw [if_pos hcd1]); (try rw [if_pos hcd2]); (try rw [if_pos hcd3]); (try with_reducible rfl))
 (try simp only [Act.put, pA, pZ, pS])
 refine wpAnyH_ready (rs := [8]) (by kernel_rfl) (by simp) ?_
 refine AllReadyH.cons (o := ?oi9) ?hi9 ?ti9 AllReadyH.nil
 case hi9 => (simp only [gA, gS, gZ]; try rfl)
 case ti9 =>
  intro KQ hKQ
  refine step_copyR _ (by rfl) (.tmp 50) (.tmp 53) 123 123 (by rfl) _ _ (by rfl) (by rfl) (hcp2.out _ _ _) ?_
  refine hKQ.out _ _ (by trivial) (fun hHeld2 => ?_)
  clear hHeld hKQ KQ; have hHeld := hHeld2; clear hHeld2
  (try simp only [Act.put, pA, pZ, pS])
  refine wpAnyH_done (by kernel_rfl) ?_ _
  go_wp2
  go_ret
  exact ⟨_, rfl, hfin, hgr, fun q hq => .inr (by simp [Value.ownBlock] at hq; omega)⟩

set_option maxRecDepth 100000 in
set_option maxHeartbeats 8000000 in
theorem insP_any (base n i vb vc : Nat) (v : Value) (xs news : List Value) (w : World) (hbw : base ≤ w.heap.size) (ho : w.ownsRow base 121 2 v n xs) (hi : i ≤ n) (hn : n ≤ 1048576) (hvn : v.ownBlock ≠ some vb) (hv : w.heap[vb]? = some (.cells news.toArray 121 (0, 0))) (hnl : news.length = 2) (h1n : ∀ u ∈ news, u.oneCell' = true) (h1c : ∀ u ∈ xs, u.oneCell' = true) :
  Calls Tryz.prog 87 #[v, .int .i64 i, .slice (some ⟨vb, 0, none⟩) 1 vc] w fun e w' => ∃ v', e = .returned v' ∧ w'.ownsRow base 121 2 v' (n + 1) (xs.take (i * 2) ++ (news ++ xs.drop (i * 2))) ∧ w.grownBy w' v.ownBlock ∧ ∀ q, v'.ownBlock = some q → v.ownBlock = some q ∨ w.heap.size ≤ q := by
 have hRn : Rd w 2 (some ⟨vb, 0, none⟩) 1 news := ⟨by rw [hnl], fun _ => ⟨vb, 0, rfl, (Array.getElem?_eq_some_iff.1 hv).1, fun j u hu => by simp [World.cell?, hv, hu]⟩⟩
 have hxl := ho.1
 by_cases hin : i = n
 ·
  subst hin
  have e1 : xs.take (i * 2) = xs := List.take_of_length_le (by omega)
  have e2 : xs.drop (i * 2) = [] := List.drop_eq_nil_of_le (by omega)
  rw [e1, e2, List.append_nil]
  have hwr : IntKind.i64.wrap (i : Int) = (i : Int) := IntWalk.i64_in _ (by omega)
  have ho' := ho
  rcases own_forms ho with ⟨rfl, rfl, rfl⟩ | ⟨g, cap, cur, rfl, hB, hnc, htk⟩
  ·
   clear ho hxl hv
   go_enter Tryz.func87, Tryz.ntmps87
   go_wp2_with (at_builtin; refine wpList_app3 _ rfl (.tmp 23) (.tmp 24) rfl elPair base hbw (.slice none 0 0) 0 [] rfl ho' (some ⟨vb, 0, none⟩) 1 vc news rfl hRn h1n (by unfold maxLen; omega) (by omega) ?_; intro v' w' h2 h3 h4)
   go_ret
   exact ⟨_, rfl, h2, h3, h4⟩
  ·
   have hci : i ≤ cap := hnc
   clear ho hxl hv hB htk e1 e2
   by_cases hc0 : cap = i
   all_goals go_enter Tryz.func87, Tryz.ntmps87
   all_goals go_wp2_with (at_builtin; refine wpList_app3 _ rfl (.tmp 23) (.tmp 24) rfl elPair base hbw (.slice (some ⟨g, 0, none⟩) i cap) i xs rfl ho' (some ⟨vb, 0, none⟩) 1 vc news rfl hRn h1n (by unfold maxLen; omega) (by omega) ?_; intro v' w' h2 h3 h4)
   all_goals go_ret
   all_goals exact ⟨_, rfl, h2, h3, h4⟩
 ·
  rcases own_forms ho with ⟨rfl, rfl, rfl⟩ | ⟨g, cap, cur, rfl, hB, hnc, htk⟩
  ·
   omega
  ·
   subst htk
   have hile : i * 2 ≤ n * 2 := Nat.mul_le_mul_right _ hi
   by_cases hroom : n + 1 ≤ cap
   ·
    refine Calls.mono (insSP_any base g cap n i vb vc cur news w hB (by omega) hroom hn (fun e => hvn (by rw [e]; rfl)) hv hnl h1n h1c) ?_
    rintro e w' ⟨rfl, hB', hg⟩
    refine ⟨_, rfl, ?_, hg, fun q hq => .inl hq⟩
    have := hB'.own hroom
    have hcl := hB.hl
    have hm1 := Nat.mul_le_mul_right 2 hroom
    have hl : (cur.take (i * 2) ++ (news ++ (cur.take (n * 2)).drop (i * 2))).length = (n + 1) * 2 := by simp only [List.length_append, List.length_take, List.length_drop, hnl, hcl]; omega
    rw [← List.append_assoc news, ← List.append_assoc (cur.take (i * 2)), ← hl, List.take_left] at this
    rw [List.take_take, Nat.min_eq_left hile]
    exact this
   ·
    refine Calls.mono (insGP_any base g cap n i vb vc cur news w hbw hB (by omega) hnc (by omega) hn hv hnl h1n h1c) ?_
    rintro e w' ⟨v', rfl, h2, h3, h4⟩
    refine ⟨v', rfl, ?_, h3, h4⟩
    rw [List.take_take, Nat.min_eq_left hile]
    exact h2
set_option maxRecDepth 100000 in
set_option maxHeartbeats 8000000 in
theorem insGQ_any (base g cap n i vb vc : Nat) (cur news : List Value) (w : World) (hbw : base ≤ w.heap.size) (hB : Blk w base 115 1 g cap cur) (hi : i < n) (hnc : n ≤ cap) (hroom : cap < n + 1) (hn : n ≤ 1048576) (hv : w.heap[vb]? = some (.cells news.toArray 115 (0, 0))) (hnl : news.length = 1) (h1n : ∀ u ∈ news, u.oneCell' = true) (h1c : ∀ u ∈ cur.take (n * 1), u.oneCell' = true) :
  Calls Tryz.prog 88 #[.slice (some ⟨g, 0, none⟩) n cap, .int .i64 i, .slice (some ⟨vb, 0, none⟩) 1 vc] w fun e w' => ∃ v', e = .returned v' ∧ w'.ownsRow base 115 1 v' (n + 1) (cur.take (i * 1) ++ (news ++ (cur.take (n * 1)).drop (i * 1))) ∧ w.grownBy w' (some g) ∧ ∀ q, v'.ownBlock = some q → (some g = some q) ∨ w.heap.size ≤ q := by
 have hcl := hB.hl
 have hcm := hB.hm
 have hcn : cap = n := by omega
 subst hcn
 obtain ⟨cs, hcs⟩ : ∃ cs, (cur.take (cap * 1)).drop (i * 1) = cs := ⟨_, rfl⟩
 have e2 : (i + 1) * 1 = i * 1 + 1 := by omega
 have e1 : (cap + 1) * 1 = cap * 1 + 1 := by omega
 have e3 : (cap - i) * 1 = cap * 1 - i * 1 := Nat.sub_mul _ _ _
 have hile : i * 1 ≤ cap * 1 := Nat.mul_le_mul_right _ (by omega)
 have hcsl : cs.length = (cap - i) * 1 := by rw [← hcs]; simp only [List.length_drop, List.length_take, hcl]; omega
 obtain ⟨cap2, rest, hrz, hc2, hc2m, hl2⟩ := run_append_zeros (P := Tryz.prog) (ty := 124) w elPtr .i64 Tryz.underlying3 ⟨g, 0, none⟩ i cap (cap + 1 - i) (cur.take (i * 1)) (by rw [List.length_take, hcl]; omega) (fun j v hj => by
   rw [add_none, Nat.zero_add, hB.cell]
   rw [List.getElem?_take] at hj
   split at hj
   ·
    exact hj
   ·
    cases hj) (by omega) (by omega) (by unfold maxLen; omega) (by omega)
 have him : i + (cap + 1 - i) = cap + 1 := by omega
 rw [him] at hrz hc2
 have hzi : (((cap + 1 - i : Nat)) : Int) = (cap : Int) + 1 - (i : Int) := by omega
 rw [hzi] at hrz
 obtain ⟨W0, hW0⟩ : ∃ W0, w.drew.alloc (.cells (cur.take (i * 1) ++ rest).toArray 115) = W0 := ⟨_, rfl⟩
 rw [hW0] at hrz
 have hlt2 : (cur.take (i * 1)).length = i * 1 := by rw [List.length_take, hcl]; omega
 have hB2 : Blk W0 base 115 1 w.heap.size cap2 (cur.take (i * 1) ++ rest) := ⟨hbw, by rw [← hW0]; exact heap_alloc_new _ _, hc2m, hl2⟩
 have hg0 : w.grownBy W0 none := by rw [← hW0]; exact (World.grownBy.refl w none).trans ⟨rfl, rfl, rfl, (World.grownBy_alloc w.drew _ none).size, (World.grownBy_alloc w.drew _ none).block⟩
 have hm2 := Nat.mul_le_mul_right 1 hc2
 have hv0 : W0.heap[vb]? = some (.cells news.toArray 115 (0, 0)) := (hg0.block vb (Array.getElem?_eq_some_iff.1 hv).1 (by simp)).trans hv
 have hmin2 : Nat.min 1 (cap + 1 - i) = 1 := by simp only [Nat.min_def]; split <;> omega
 obtain ⟨W1, hW1⟩ : ∃ W1, W0.setCells w.heap.size (i * 1) news = W1 := ⟨_, rfl⟩
 have hs1 := hB2.setCells (vs := news) (i * 1) (by rw [hl2, hnl]; omega)
 rw [hW1] at hs1
 have hcp1 : ∀ ty dc, (Builtin.copy_ #[124, 124] ty #[.slice (some ⟨w.heap.size, i, none⟩) (cap + 1 - i) dc, .slice (some ⟨vb, 0, none⟩) 1 vc]).run Tryz.prog W0 = .ok (goInt 1) W1 := fun ty dc => by
  have h := run_copyB (P := Tryz.prog) (t' := 124) (ty := ty) W0 elPtr w.heap.size (i * 1) (cap + 1 - i) dc ⟨vb, 0, none⟩ 1 vc news (by rw [hmin2, hnl]) (fun j v hj => by
    rw [add_none, Nat.zero_add]
    simp [World.cell?, hv0, hj])
   (fun j hj => by rw [hB2.cell, List.getElem?_eq_getElem (by rw [hl2]; omega)]; rfl) (fun j _ => hB2.frozen _) h1n
  rw [hmin2, hW1] at h
  simpa using h
 have hgg : g < w.heap.size := hB.lt
 have hBg : Blk W1.drew base 115 1 g cap cur := ⟨hB.hb, by
  show W1.heap[g]? = _
  rw [hs1.2.block g (Nat.lt_of_lt_of_le hgg hg0.size) (by simp; omega), hg0.block g hgg (by simp)]
  exact hB.hp, hB.hm, hB.hl⟩
 have hB3 : Blk W1.drew base 115 1 w.heap.size cap2 _ := ⟨hs1.1.hb, hs1.1.hp, hs1.1.hm, hs1.1.hl⟩
 obtain ⟨W2, hW2⟩ : ∃ W2, W1.drew.setCells w.heap.size ((i + 1) * 1) cs = W2 := ⟨_, rfl⟩
 have hs2 := hB3.setCells (vs := cs) ((i + 1) * 1) (by rw [hs1.1.hl, hcsl]; omega)
 rw [hW2] at hs2
 have hmin : Nat.min (cap - i) (cap - i) = cap - i := Nat.min_self _
 have hcp2 : Hid (∀ ty dc sc, (Builtin.copy_ #[124, 124] ty #[.slice (some ⟨w.heap.size, i + 1, none⟩) (cap - i) dc, .slice (some ⟨g, i, none⟩) (cap - i) sc]).run Tryz.prog W1.drew = .ok (goInt ((cap - i : Nat) : Int)) W2) := Lib.hid (fun ty dc sc => by
  have h := run_copyB (P := Tryz.prog) (t' := 124) (ty := ty) W1.drew elPtr w.heap.size ((i + 1) * 1) (cap - i) dc ⟨g, i * 1, none⟩ (cap - i) sc cs (by rw [hcsl, hmin]) (fun j v hj => by
    rw [add_none, hBg.cell]
    rw [← hcs, List.getElem?_drop, List.getElem?_take] at hj
    split at hj
    ·
     exact hj
    ·
     cases hj)
   (fun j hj => by rw [hB3.cell, List.getElem?_eq_getElem (by rw [hB3.hl]; omega)]; rfl) (fun j _ => hB3.frozen _) (fun v hv => h1c v (by rw [← hcs] at hv; exact List.mem_of_mem_drop hv))
  rw [hmin, hW2] at h
  simpa using h)
 have hfin : W2.ownsRow base 115 1 (.slice (some ⟨w.heap.size, 0, none⟩) (cap + 1) cap2) (cap + 1) (cur.take (i * 1) ++ (news ++ cs)) := by
  have := hs2.1.own hc2
  have e6 : (cap + 1) * 1 = (i + 1) * 1 + cs.length := by rw [hcsl]; omega
  have e7 : (i + 1) * 1 = i * 1 + news.length := by rw [hnl]; omega
  rw [two_set hlt2 e7.symm e6.symm] at this
  exact this
 have hgr : w.grownBy W2 (some g) := by
  have h1 : w.grownBy W1.drew none := grown_new hg0 (⟨hs1.2.os, hs1.2.tape, hs1.2.output, hs1.2.size, hs1.2.block⟩ : W0.grownBy W1.drew (some w.heap.size)) (Nat.le_refl _)
  have h2 := grown_new h1 hs2.2 (Nat.le_refl _)
  exact ⟨h2.os, h2.tape, h2.output, h2.size, fun j hj _ => h2.block j hj (by simp)⟩
 have hw1 : IntKind.i64.wrap ((i : Int) + 1) = (i : Int) + 1 := IntWalk.i64_in _ (by omega)
 have hw2 : IntKind.i64.wrap ((cap : Int) + 1) = (cap : Int) + 1 := IntWalk.i64_in _ (by omega)
 have hw3 : IntKind.i64.wrap ((cap : Int) + 1 - (i : Int)) = (cap : Int) + 1 - (i : Int) := IntWalk.i64_in _ (by omega)
 have hb2 : ¬ (cap2 = i + 1) := by omega
 have hb4 : ¬ (cap2 = i) := by omega
 have hb5 : ¬ (cap = i) := by omega
 have hcd1 : (0 : Int) ≤ (i : Int) + 1 ∧ i ≤ cap := by omega
 have hcd2 : (i : Int) ≤ (cap : Int) + 1 := by omega
 have hcd3 : i ≤ cap := by omega
 rw [hcs]
 clear hs1 hs2 hW0 hW1 hW2 hv hv0 hB hB2 hB3 hBg hcs hcsl e1 e2 e3 hile hm2 hcl h1c h1n hl2 hlt2 hg0 hzi him hmin hmin2 hgg
 go_enter Tryz.func88, Tryz.ntmps88
 go_wp2_with (first | simp only [hcp1] | (at_builtin; refine wpList_appR _ rfl (.tmp 34) (.tmp 39) 124 3 rfl _ _ rfl rfl hrz ?_))
 refine wp_region_held_drew (S := (fun _ => True)) (by kernel_rfl) (by trivial) (fun hHeld => ?_)
 refine tkH 0 ?oi1 (?v1) ?hi1 ?hy1 ?_
 case hi1 => (simp only [gA, gS, gZ]; try rfl)
 case hy1 => (refine Or.inl ⟨by rfl, ?_⟩; intro wq hSw; (try dsimp only at hSw); go_simp; (try rw [if_pos hcd1]); (try rw [if_pos hcd2]); (try rw [if_pos hcd3]); (try with_reducible rfl))
 (try simp only [Act.put, pA, pZ, pS])
 refine tkH 1 ?oi2 (?v2) ?hi2 ?hy2 ?_
 case hi2 => (simp only [gA, gS, gZ]; try rfl)
 case hy2 => (refine Or.inl ⟨by rfl, ?_⟩; intro wq hSw; (try dsimp only at hSw); go_simp; (try rw [if_pos hcd1]); (try rw [if_pos hcd2]); (try rw [if_pos hcd3]); (try with_reducible rfl))
 (try simp only [Act.put, pA, pZ, pS])
 refine tkH 2 ?oi3 (?v3) ?hi3 ?hy3 ?_
 case hi3 => (simp only [gA, gS, gZ]; try rfl)
 case hy3 => (refine Or.inl ⟨by rfl, ?_⟩; intro wq hSw; (try dsimp only at hSw); go_simp; (try rw [if_pos hcd1]); (try rw [if_pos hcd2]); (try rw [if_pos hcd3]); (try with_reducible rfl))
 (try simp only [Act.put, pA, pZ, pS])
 refine tkH 3 ?oi4 (?v4) ?hi4 ?hy4 ?_
 case hi4 => (simp only [gA, gS, gZ]; try rfl)
 case hy4 => (refine Or.inl ⟨by rfl, ?_⟩; intro wq hSw; (try dsimp only at hSw); go_simp; (try rw [if_pos hcd1]); (try rw [if_pos hcd2]); (try rw [if_pos hcd3]); (try with_reducible rfl))
 (try simp only [Act.put, pA, pZ, pS])
 refine tkH 4 ?oi5 (?v5) ?hi5 ?hy5 ?_
 case hi5 => (simp only [gA, gS, gZ]; try rfl)
 case hy5 => (refine Or.inl ⟨by rfl, ?_⟩; intro wq hSw; (try dsimp only at hSw); go_simp; (try rw [if_pos hcd1]); (try rw [if_pos hcd2]); (try rw [if_pos hcd3]); (try with_reducible rfl))
 (try simp only [Act.put, pA, pZ, pS])
 refine tkH 5 ?oi6 (?v6) ?hi6 ?hy6 ?_
 case hi6 => (simp only [gA, gS, gZ]; try rfl)
 case hy6 => (refine Or.inl ⟨by rfl, ?_⟩; intro wq hSw; (try dsimp only at hSw); go_simp; (try rw [if_pos hcd1]); (try rw [if_pos hcd2]); (try rw [if_pos hcd3]); (try with_reducible rfl))
 (try simp only [Act.put, pA, pZ, pS])
 refine tkH 6 ?oi7 (?v7) ?hi7 ?hy7 ?_
 case hi7 => (simp only [gA, gS, gZ]; try rfl)
 case hy7 => (refine Or.inl ⟨by rfl, ?_⟩; intro wq hSw; (try dsimp only at hSw); go_simp; (try rw [if_pos hcd1]); (try rw [if_pos hcd2]); (try rw [if_pos hcd3]); (try with_reducible rfl))
 (try simp only [Act.put, pA, pZ, pS])
 refine tkH 7 ?oi8 (?v8) ?hi8 ?hy8 ?_
 case hi8 => (simp only [gA, gS, gZ]; try rfl)
 case hy8 => (refine Or.inl ⟨by rfl, ?_⟩; intro wq hSw; (try dsimp only at hSw); go_simp; (try rw [if_pos hcd1]); (try rw [if_pos hcd2]); (try rw [if_pos hcd3]); (try with_reducible rfl))
 (try simp only [Act.put, pA, pZ, pS])
 refine wpAnyH_ready (rs := [8]) (by kernel_rfl) (by simp) ?_
 refine AllReadyH.cons (o := ?oi9) ?hi9 ?ti9 AllReadyH.nil
 case hi9 => (simp only [gA, gS, gZ]; try rfl)
 case ti9 =>
  intro KQ hKQ
  refine step_copyR _ (by rfl) (.tmp 50) (.tmp 53) 124 124 (by rfl) _ _ (by rfl) (by rfl) (hcp2.out _ _ _) ?_
  refine hKQ.out _ _ (by trivial) (fun hHeld2 => ?_)
  clear hHeld hKQ KQ; have hHeld := hHeld2; clear hHeld2
  (try simp only [Act.put, pA, pZ, pS])
  refine wpAnyH_done (by kernel_rfl) ?_ _
  go_wp2
  go_ret
  exact ⟨_, rfl, hfin, hgr, fun q hq => .inr (by simp [Value.ownBlock] at hq; omega)⟩

set_option maxRecDepth 100000 in
set_option maxHeartbeats 8000000 in
theorem insQ_any (base n i vb vc : Nat) (v : Value) (xs news : List Value) (w : World) (hbw : base ≤ w.heap.size) (ho : w.ownsRow base 115 1 v n xs) (hi : i ≤ n) (hn : n ≤ 1048576) (hvn : v.ownBlock ≠ some vb) (hv : w.heap[vb]? = some (.cells news.toArray 115 (0, 0))) (hnl : news.length = 1) (h1n : ∀ u ∈ news, u.oneCell' = true) (h1c : ∀ u ∈ xs, u.oneCell' = true) :
  Calls Tryz.prog 88 #[v, .int .i64 i, .slice (some ⟨vb, 0, none⟩) 1 vc] w fun e w' => ∃ v', e = .returned v' ∧ w'.ownsRow base 115 1 v' (n + 1) (xs.take (i * 1) ++ (news ++ xs.drop (i * 1))) ∧ w.grownBy w' v.ownBlock ∧ ∀ q, v'.ownBlock = some q → v.ownBlock = some q ∨ w.heap.size ≤ q := by
 have hRn : Rd w 1 (some ⟨vb, 0, none⟩) 1 news := ⟨by rw [hnl], fun _ => ⟨vb, 0, rfl, (Array.getElem?_eq_some_iff.1 hv).1, fun j u hu => by simp [World.cell?, hv, hu]⟩⟩
 have hxl := ho.1
 by_cases hin : i = n
 ·
  subst hin
  have e1 : xs.take (i * 1) = xs := List.take_of_length_le (by omega)
  have e2 : xs.drop (i * 1) = [] := List.drop_eq_nil_of_le (by omega)
  rw [e1, e2, List.append_nil]
  have hwr : IntKind.i64.wrap (i : Int) = (i : Int) := IntWalk.i64_in _ (by omega)
  have ho' := ho
  rcases own_forms ho with ⟨rfl, rfl, rfl⟩ | ⟨g, cap, cur, rfl, hB, hnc, htk⟩
  ·
   clear ho hxl hv
   go_enter Tryz.func88, Tryz.ntmps88
   go_wp2_with (at_builtin; refine wpList_app3 _ rfl (.tmp 23) (.tmp 24) rfl elPtr base hbw (.slice none 0 0) 0 [] rfl ho' (some ⟨vb, 0, none⟩) 1 vc news rfl hRn h1n (by unfold maxLen; omega) (by omega) ?_; intro v' w' h2 h3 h4)
   go_ret
   exact ⟨_, rfl, h2, h3, h4⟩
  ·
   have hci : i ≤ cap := hnc
   clear ho hxl hv hB htk e1 e2
   by_cases hc0 : cap = i
   all_goals go_enter Tryz.func88, Tryz.ntmps88
   all_goals go_wp2_with (at_builtin; refine wpList_app3 _ rfl (.tmp 23) (.tmp 24) rfl elPtr base hbw (.slice (some ⟨g, 0, none⟩) i cap) i xs rfl ho' (some ⟨vb, 0, none⟩) 1 vc news rfl hRn h1n (by unfold maxLen; omega) (by omega) ?_; intro v' w' h2 h3 h4)
   all_goals go_ret
   all_goals exact ⟨_, rfl, h2, h3, h4⟩
 ·
  rcases own_forms ho with ⟨rfl, rfl, rfl⟩ | ⟨g, cap, cur, rfl, hB, hnc, htk⟩
  ·
   omega
  ·
   subst htk
   have hile : i * 1 ≤ n * 1 := Nat.mul_le_mul_right _ hi
   by_cases hroom : n + 1 ≤ cap
   ·
    refine Calls.mono (insSQ_any base g cap n i vb vc cur news w hB (by omega) hroom hn (fun e => hvn (by rw [e]; rfl)) hv hnl h1n h1c) ?_
    rintro e w' ⟨rfl, hB', hg⟩
    refine ⟨_, rfl, ?_, hg, fun q hq => .inl hq⟩
    have := hB'.own hroom
    have hcl := hB.hl
    have hm1 := Nat.mul_le_mul_right 1 hroom
    have hl : (cur.take (i * 1) ++ (news ++ (cur.take (n * 1)).drop (i * 1))).length = (n + 1) * 1 := by simp only [List.length_append, List.length_take, List.length_drop, hnl, hcl]; omega
    rw [← List.append_assoc news, ← List.append_assoc (cur.take (i * 1)), ← hl, List.take_left] at this
    rw [List.take_take, Nat.min_eq_left hile]
    exact this
   ·
    refine Calls.mono (insGQ_any base g cap n i vb vc cur news w hbw hB (by omega) hnc (by omega) hn hv hnl h1n h1c) ?_
    rintro e w' ⟨v', rfl, h2, h3, h4⟩
    refine ⟨v', rfl, ?_, h3, h4⟩
    rw [List.take_take, Nat.min_eq_left hile]
    exact h2
end Go.Proofs.YtdiaecgpjgdkdaaGreat

namespace Go.Proofs.YtdiaecgpjgdkdaaGreat
open Go.RowKit

abbrev TN : TypeId := 126
abbrev TP : TypeId := 121
abbrev TQ : TypeId := 115
abbrev TVA : TypeId := 66
abbrev TT : TypeId := 117
def TreeT (ty : TypeId) : Prop := ty = TN ∨ ty = TP ∨ ty = TQ ∨ ty = TT
theorem tva_no : ¬ TreeT TVA := by unfold TreeT; decide
def KOk (base : Nat) (w : World) (p : MP) : Prop :=
 p.n = p.key.length ∧ (p.key.length ≤ 1048576 ∧ p.n ≤ p.c) ∧ (0 < p.key.length → ∃ b o, p.A = some ⟨b, o, none⟩ ∧ b < w.heap.size ∧ (b < base ∨ ∃ c f, w.heap[b]? = some (.cells c TVA f)) ∧ ∀ j u, (vcl p.key)[j]? = some u → w.cell? ⟨b, o + j, none⟩ = some u)
theorem KOk.rd {base : Nat} {w : World} {p : MP} (h : KOk base w p) : Rd w 3 p.A p.key.length (vcl p.key) :=
 ⟨vcl_length _, fun hn => by
  obtain ⟨b, o, h1, h2, _, h4⟩ := h.2.2 (by omega)
  exact ⟨b, o, h1, h2, h4⟩⟩
structure Mut (base : Nat) (S : List Nat) (w w' : World) : Prop where
 os : w'.os = w.os
 tape : w'.tape = w.tape
 output : w'.output = w.output
 size : w.heap.size ≤ w'.heap.size
 same : ∀ b, b < w.heap.size → b ∉ S → w'.heap[b]? = w.heap[b]?
 old : ∀ b ∈ S, b < w.heap.size → base ≤ b
 typ : ∀ b ∈ S, ∀ c ty f, w.heap[b]? = some (.cells c ty f) → TreeT ty
theorem Mut.block {base : Nat} {S : List Nat} {w w' : World} (h : Mut base S w w') {b : Nat} {o : Obj} (hb : w.heap[b]? = some o) (hs : b ∉ S) : w'.heap[b]? = some o :=
 (h.same b (Array.getElem?_eq_some_iff.1 hb).1 hs).trans hb
theorem Mut.key {base : Nat} {S : List Nat} {w w' : World} (h : Mut base S w w') {p : MP} (hp : KOk base w p) : KOk base w' p := by
 refine ⟨hp.1, hp.2.1, fun hn => ?_⟩
 obtain ⟨b, o, h1, h2, h3, h4⟩ := hp.2.2 hn
 have hb : w'.heap[b]? = w.heap[b]? := h.same b h2 (fun hs => by
  rcases h3 with h3 | ⟨c, f, h3⟩
  ·
   have := h.old b hs h2; omega
  ·
   exact tva_no (h.typ b hs c _ f h3))
 refine ⟨b, o, h1, Nat.lt_of_lt_of_le h2 h.size, ?_, fun j u hu => ?_⟩
 ·
  rcases h3 with h3 | ⟨c, f, h3⟩
  ·
   exact .inl h3
  ·
   exact .inr ⟨c, f, hb.trans h3⟩
 ·
  rw [World.cell?_of_block (w := w) hb]; exact h4 j u hu
theorem KOk.ext {base : Nat} {w w' : World} {p : MP} (hp : KOk base w p) (h : Ext w w') : KOk base w' p := by
 refine ⟨hp.1, hp.2.1, fun hn => ?_⟩
 obtain ⟨b, o, h1, h2, h3, h4⟩ := hp.2.2 hn
 have hb : w'.heap[b]? = w.heap[b]? := h.block b h2
 refine ⟨b, o, h1, Nat.lt_of_lt_of_le h2 h.size, ?_, fun j u hu => h.cell' (h4 j u hu)⟩
 rcases h3 with h3 | ⟨c, f, h3⟩
 ·
  exact .inl h3
 ·
  exact .inr ⟨c, f, hb.trans h3⟩
theorem Mut.trans {base : Nat} {S T : List Nat} {w w' w'' : World} (h : Mut base S w w') (k : Mut base T w' w'') (ht : ∀ b ∈ T, b ∈ S ∨ w.heap.size ≤ b) : Mut base S w w'' :=
 ⟨k.os.trans h.os, k.tape.trans h.tape, k.output.trans h.output, Nat.le_trans h.size k.size, fun b hb hs => (k.same b (Nat.lt_of_lt_of_le hb h.size) (fun e => (ht b e).elim hs fun e => by omega)).trans (h.same b hb hs), h.old, h.typ⟩
theorem Mut.wide {base : Nat} {S T : List Nat} {w w' : World} (h : Mut base S w w') (hs : ∀ b ∈ S, b ∈ T) (h1 : ∀ b ∈ T, b < w.heap.size → base ≤ b) (h2 : ∀ b ∈ T, ∀ c ty f, w.heap[b]? = some (.cells c ty f) → TreeT ty) : Mut base T w w' :=
 ⟨h.os, h.tape, h.output, h.size, fun b hb hn => h.same b hb (fun e => hn (hs b e)), h1, h2⟩
theorem Mut.ofExt {base : Nat} {w w' : World} (h : Ext w w') : Mut base [] w w' :=
 ⟨h.os, h.tape, h.output, h.size, fun b hb _ => h.block b hb, fun b h => (by cases h), fun b h => (by cases h)⟩
structure NodeOk (base : Nat) (w : World) (t : MT) : Prop where
 hb : base ≤ t.r
 hp : w.heap[t.r]? = some (.cells #[t.vp, t.vk] TN (0, 0))
 op : w.ownsRow base TP 2 t.vp t.ps.length (mpl t.ps)
 ok : w.ownsRow base TQ 1 t.vk t.ks.length (ptl (t.ks.map MT.r))
def GoodB (base : Nat) (w : World) : Nat → MT → Prop
 | 0, t => NodeOk base w t
 | d + 1, t => NodeOk base w t ∧ ∀ k ∈ t.ks, GoodB base w d k
theorem GoodB.node {base : Nat} {w : World} : ∀ {d : Nat} {t : MT}, GoodB base w d t → NodeOk base w t
 | 0, _, h => h
 | _ + 1, _, h => h.1
theorem ob_mem {v : Value} {g : Nat} : g ∈ ob v ↔ v.ownBlock = some g := by
 unfold ob
 cases h : v.ownBlock with
 | none => simp
 | some b => simp; exact eq_comm
theorem own_sub {d : Nat} {t : MT} : ∀ b ∈ t.own, b ∈ foot d t := by
 intro b hb
 cases d with
 | zero => exact hb
 | succ d => exact List.mem_append_left _ hb
theorem foot_kid {d : Nat} {t k : MT} (hk : k ∈ t.ks) : ∀ b ∈ foot d k, b ∈ foot (d + 1) t := fun b hb =>
 List.mem_append_right _ (List.mem_flatMap.2 ⟨k, hk, hb⟩)
theorem NodeOk.old {base : Nat} {w : World} {t : MT} (h : NodeOk base w t) : ∀ b ∈ t.own, base ≤ b ∧ b < w.heap.size ∧ ∀ c ty f, w.heap[b]? = some (.cells c ty f) → TreeT ty := by
 intro b hb
 unfold MT.own at hb
 rcases List.mem_cons.1 hb with rfl | hb
 ·
  exact ⟨h.hb, (Array.getElem?_eq_some_iff.1 h.hp).1, fun c ty f e => by rw [h.hp] at e; simp at e; exact .inl e.2.1.symm⟩
 ·
  rcases List.mem_append.1 hb with hb | hb
  ·
   obtain ⟨h1, h2⟩ := h.op.lt b (ob_mem.1 hb)
   obtain ⟨c0, h3⟩ : ∃ c0, w.heap[b]? = some (.cells c0 TP (0, 0)) := by
    rcases own_forms h.op with ⟨e, _, _⟩ | ⟨g, cap, cur, e, hB, _, _⟩
    ·
     rw [e] at hb; simp [ob, Value.ownBlock] at hb
    ·
     rw [e] at hb; simp [ob, Value.ownBlock] at hb; subst hb; exact ⟨_, hB.hp⟩
   exact ⟨h1, h2, fun c ty f e => by rw [h3] at e; simp at e; exact .inr (.inl e.2.1.symm)⟩
  ·
   obtain ⟨h1, h2⟩ := h.ok.lt b (ob_mem.1 hb)
   obtain ⟨c0, h3⟩ : ∃ c0, w.heap[b]? = some (.cells c0 TQ (0, 0)) := by
    rcases own_forms h.ok with ⟨e, _, _⟩ | ⟨g, cap, cur, e, hB, _, _⟩
    ·
     rw [e] at hb; simp [ob, Value.ownBlock] at hb
    ·
     rw [e] at hb; simp [ob, Value.ownBlock] at hb; subst hb; exact ⟨_, hB.hp⟩
   exact ⟨h1, h2, fun c ty f e => by rw [h3] at e; simp at e; exact .inr (.inr (.inl e.2.1.symm))⟩
theorem GoodB.old {base : Nat} {w : World} : ∀ {d : Nat} {t : MT}, GoodB base w d t → ∀ b ∈ foot d t, base ≤ b ∧ b < w.heap.size ∧ ∀ c ty f, w.heap[b]? = some (.cells c ty f) → TreeT ty
 | 0, _, h, b, hb => NodeOk.old h b hb
 | d + 1, t, h, b, hb => by
  rcases List.mem_append.1 hb with hb | hb
  ·
   exact NodeOk.old h.1 b hb
  ·
   obtain ⟨k, hk, hb⟩ := List.mem_flatMap.1 hb
   exact (h.2 k hk).old b hb
theorem ownsRow_same {w w' : World} {base : Nat} {e : TypeId} {size : Nat} {v : Value} {n : Nat} {xs : List Value} (h : w.ownsRow base e size v n xs) (hs : ∀ g, v.ownBlock = some g → w'.heap[g]? = w.heap[g]?) : w'.ownsRow base e size v n xs := by
 refine ⟨h.1, ?_⟩
 rcases h.2 with h1 | ⟨g, cap, cur, rfl, hb, hg, h3⟩
 ·
  exact .inl h1
 ·
  exact .inr ⟨g, cap, cur, rfl, hb, (hs g rfl).trans hg, h3⟩
theorem NodeOk.same {base : Nat} {w w' : World} {t : MT} (h : NodeOk base w t) (hs : ∀ b ∈ t.own, w'.heap[b]? = w.heap[b]?) : NodeOk base w' t :=
 ⟨h.hb, (hs _ (by simp [MT.own])).trans h.hp, ownsRow_same h.op fun g hg => hs g (by simp [MT.own, ob_mem.2 hg]), ownsRow_same h.ok fun g hg => hs g (by simp [MT.own, ob_mem.2 hg])⟩
theorem GoodB.same {base : Nat} {w w' : World} : ∀ {d : Nat} {t : MT}, GoodB base w d t → (∀ b ∈ foot d t, w'.heap[b]? = w.heap[b]?) → GoodB base w' d t
 | 0, _, h, hs => NodeOk.same h hs
 | d + 1, t, h, hs => ⟨NodeOk.same h.1 fun b hb => hs b (List.mem_append_left _ hb), fun k hk => (h.2 k hk).same fun b hb => hs b (foot_kid hk b hb)⟩
theorem GoodB.mut {base : Nat} {w w' : World} {S : List Nat} {d : Nat} {t : MT} (h : GoodB base w d t) (m : Mut base S w w') (hd : ∀ b ∈ foot d t, b ∉ S) : GoodB base w' d t :=
 h.same fun b hb => m.same b (h.old b hb).2.1 (hd b hb)
theorem GoodB.ext {base : Nat} {w w' : World} {d : Nat} {t : MT} (h : GoodB base w d t) (e : Ext w w') : GoodB base w' d t := h.same fun b hb => e.block b (h.old b hb).2.1
end Go.Proofs.YtdiaecgpjgdkdaaGreat
