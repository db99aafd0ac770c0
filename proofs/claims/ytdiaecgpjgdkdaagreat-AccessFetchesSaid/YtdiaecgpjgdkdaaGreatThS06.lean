/- Lemmas for the rows: Ow2. -/
import Derived.Test.YtdiaecgpjgdkdaaGreatThS04
import Derived.Deep.DeepAppendRoom
set_option linter.unusedSimpArgs false
set_option linter.unusedVariables false
namespace Go.Proofs.YtdiaecgpjgdkdaaGreat
open Go.RowKit

section
variable {P : Program} (w : World)

theorem app_block {t e ty : TypeId} {z : Value} {size bytes : Nat} (E : El P t e z size bytes) (base : Nat) (hbase : base ≤ w.heap.size) (v : Value) (n : Nat) (xs : List Value) (hown : w.ownsRow base e size v n xs)
  (A : Option Addr) (m c : Nat) (news : List Value) (hr : Rd w size A m news) (h1 : ∀ u ∈ news, u.oneCell' = true) (h63 : n + m ≤ maxLen) (hbytes : (n + m) * bytes ≤ 140737488355328)
  (v' : Value) (w' : World) (hrun : (Builtin.append_ #[t, t] ty #[v, .slice A m c]).run P w = .ok v' w') : ∀ g, v'.ownBlock = some g → v.ownBlock = some g ∨ w.heap.size ≤ g := by
 obtain ⟨i, hi, hz, hs, hb⟩ := E.hi
 have hsmall : n + m ≤ 9223372036854775807 := by simp only [maxLen] at h63; omega
 have nothing : m = 0 → (Builtin.append_ #[t, t] ty #[v, .slice none 0 c]).run P w = .ok v w := fun _ => run_append_nil w base t ty e i size E.ht hi v n xs hown c
 rcases A with _ | ad
 ·
  have hm : m = 0 := by
   rcases Nat.eq_zero_or_pos m with h0 | h0
   ·
    exact h0
   ·
    obtain ⟨b, o, h, _⟩ := hr.2 (Nat.mul_pos h0 E.hsz)
    cases h
  subst hm
  rw [nothing rfl] at hrun
  simp only [Result.ok.injEq] at hrun
  obtain ⟨rfl, rfl⟩ := hrun
  exact fun g hg => .inl hg
 ·
  have hcells : ∀ j u, news[j]? = some u → w.cell? (ad.add j) = some u := by
   intro j u hu
   rcases Nat.eq_zero_or_pos m with h0 | h0
   ·
    subst h0
    have hn : news = [] := List.eq_nil_of_length_eq_zero (by simpa using hr.1)
    subst hn
    simp at hu
   ·
    obtain ⟨b, o, h, _, hc⟩ := hr.2 (Nat.mul_pos h0 E.hsz)
    injection h with h
    subst h
    rw [add_none]
    exact hc j u hu
  subst hs hb
  rcases hown.2 with ⟨rfl, rfl⟩ | ⟨g, cap, cur, rfl, hbg, hg, hnc, hcm, hcs, htake⟩
  ·
   obtain ⟨v2, w2, hr2, h2, _, _⟩ := run_append_own (P := P) w w.heap.size t ty e i z i.size i.bytes E.ht hi hz rfl rfl E.hzs E.hsz (.slice none 0 0) 0 [] (World.ownsRow_nil _ _ _ _) ad m c news hr.1 hcells h1 h63 hbytes (Nat.le_refl _)
   rw [hr2] at hrun
   simp only [Result.ok.injEq] at hrun
   obtain ⟨rfl, rfl⟩ := hrun
   exact fun g hg => .inr (h2.lt g hg).1
  ·
   by_cases hroom : n + m ≤ cap
   ·
    obtain ⟨w2, hr2, _, _⟩ := run_append_own_spare (P := P) w base t ty e i i.size E.ht hi rfl g n cap xs hown ad m c news hr.1 hcells h1 hroom
    rw [hr2] at hrun
    simp only [Result.ok.injEq] at hrun
    obtain ⟨rfl, rfl⟩ := hrun
    exact fun k hk => .inl hk
   ·
    have hr2 := run_append_grow (P := P) w t ty e i z E.ht hi hz ⟨g, 0, none⟩ n cap xs hown.1 (hown.cells (g := g) rfl) ad m c news hr.1 hcells (by omega) (by omega) (growslice_fits (by omega) hbytes)
    rw [hr2] at hrun
    simp only [Result.ok.injEq] at hrun
    obtain ⟨rfl, rfl⟩ := hrun
    intro k hk
    simp only [Value.ownBlock, Option.some.injEq] at hk
    exact .inr (by omega)

theorem wp_app2 {o : Oper} {a : Act} {K : Act → World → Prop} {Q : Exit → Act → World → Prop} (s x : Operand) {t e : TypeId} {z : Value} {size bytes : Nat}
  (ho : o.op = .call { callee := .builtin .append, args := #[s, x], argTypes := #[t, t] }) (E : El P t e z size bytes) (W : World) (hW : Ext W w) (v : Value) (n : Nat) (xs : List Value) (hs : a.eval s = v) (hown : w.ownsRow W.heap.size e size v n xs)
  (A : Option Addr) (m c : Nat) (news : List Value) (hx : a.eval x = .slice A m c) (hr : Rd w size A m news) (h1 : ∀ u ∈ news, u.oneCell' = true) (h63 : n + m ≤ maxLen) (hbytes : (n + m) * bytes ≤ 140737488355328)
  (h : ∀ v' x', Own W x' e size v' (n + m) (xs ++ news) → w.grownBy (ext W x') v.ownBlock → (∀ g, v'.ownBlock = some g → v.ownBlock = some g ∨ w.heap.size ≤ g) → K (a.put o.dst v') (ext W x')) : o.wp P a w K Q := by
 obtain ⟨v', x', hrun, h2, h3⟩ := run_app (P := P) (ty := o.type) w E W hW v n xs hown A m c news hr h1 h63 hbytes
 have h4 := app_block (P := P) w E W.heap.size hW.size v n xs hown A m c news hr h1 h63 hbytes v' _ hrun
 unfold Oper.wp execOp
 simp only [ho, resolve, invoke, builtin, Sem.run_bind, Sem.run_pure, Result.andThen_ok, List.map_toArray, List.map_cons, List.map_nil, hs, hx, hrun]
 exact h v' x' h2 h3 h4

theorem wpList_app2 {ops : Array Oper} {rest : List Oper} {o : Oper} {a : Act} {Q : Exit → Act → World → Prop} (hgd : o.guard = none) (s x : Operand) {t e : TypeId} {z : Value} {size bytes : Nat}
  (ho : o.op = .call { callee := .builtin .append, args := #[s, x], argTypes := #[t, t] }) (E : El P t e z size bytes) (W : World) (hW : Ext W w) (v : Value) (n : Nat) (xs : List Value) (hs : a.eval s = v) (hown : w.ownsRow W.heap.size e size v n xs)
  (A : Option Addr) (m c : Nat) (news : List Value) (hx : a.eval x = .slice A m c) (hr : Rd w size A m news) (h1 : ∀ u ∈ news, u.oneCell' = true) (h63 : n + m ≤ maxLen) (hbytes : (n + m) * bytes ≤ 140737488355328)
  (h : ∀ v' x', Own W x' e size v' (n + m) (xs ++ news) → w.grownBy (ext W x') v.ownBlock → (∀ g, v'.ownBlock = some g → v.ownBlock = some g ∨ w.heap.size ≤ g) → wpList P ops Q rest (a.put o.dst v') (ext W x')) : wpList P ops Q (o :: rest) a w :=
 wpList_plain hgd fun _ hK => wp_app2 w s x ho E W hW v n xs hs hown A m c news hx hr h1 h63 hbytes fun v' x' h2 h3 h4 => hK _ _ (h v' x' h2 h3 h4)
end
end Go.Proofs.YtdiaecgpjgdkdaaGreat
