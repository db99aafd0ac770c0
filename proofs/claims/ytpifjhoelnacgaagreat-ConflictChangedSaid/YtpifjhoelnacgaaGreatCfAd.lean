/- A region added: of the program and of the reference. -/
import Derived.Test.YtpifjhoelnacgaaGreatCfB
import Derived.Test.YtpifjhoelnacgaaGreatCfN
import Derived.ArgAppend
set_option linter.unusedSimpArgs false
set_option linter.unusedVariables false
namespace Go.Proofs.YtpifjhoelnacgaaGreat
open Go.RowKit


section
variable {P : Program} (w : World)
/-- append to a full slice of which only reading is known: a new block -/
theorem run_appg {t e ty : TypeId} {z : Value} {size bytes : Nat} (E : El P t e z size bytes) (W : World) (hW : Ext W w) (A : Option Addr) (n : Nat) (olds : List Value) (ho : Rd w size A n olds)
    (B : Option Addr) (m c : Nat) (news : List Value) (hm : 0 < m) (hr : Rd w size B m news) (h1 : ∀ u ∈ news, u.oneCell' = true) (h63 : n + m ≤ maxLen) (hbytes : (n + m) * bytes ≤ 140737488355328) :
    ∃ v' x', (Builtin.append_ #[t, t] ty #[.slice A n n, .slice B m c]).run P w = .ok v' (ext W x') ∧ (ext W x').ownsRow w.heap.size e size v' (n + m) (olds ++ news) := by
  obtain ⟨i, hi, hz, hs, hb⟩ := E.hi
  obtain ⟨bb, oo, rfl, _, hc⟩ := hr.2 (Nat.mul_pos hm E.hsz)
  have hcells : ∀ j u, news[j]? = some u → w.cell? ((⟨bb, oo, none⟩ : Addr).add j) = some u := fun j u hu => by rw [add_none]; exact hc j u hu
  have fin : ∀ v' w', w'.ownsRow w.heap.size e size v' (n + m) (olds ++ news) → w.grownBy w' none → ∃ x', w' = ext W x' := fun v' w' _ hg => ext_of_below (Below.grown hW hg hW.size (fun k hk => by cases hk))
  rcases A with _ | ad
  · have hn : n = 0 := by
      rcases Nat.eq_zero_or_pos n with h0 | h0
      · exact h0
      · obtain ⟨b, o, h, _⟩ := ho.2 (Nat.mul_pos h0 E.hsz)
        cases h
    subst hn
    have hol : olds = [] := List.eq_nil_of_length_eq_zero (by simpa using ho.1)
    subst hol
    obtain ⟨v', w', hrun, h2, h3, _⟩ := run_append_own (P := P) w w.heap.size t ty e i z size bytes E.ht hi hz hs hb E.hzs E.hsz (.slice none 0 0) 0 [] (World.ownsRow_nil _ _ _ _) ⟨bb, oo, none⟩ m c news hr.1 hcells h1 h63 hbytes (Nat.le_refl _)
    obtain ⟨x', rfl⟩ := fin v' w' h2 h3
    exact ⟨v', x', hrun, h2⟩
  · have hold : ∀ j u, olds[j]? = some u → w.cell? (ad.add j) = some u := by
      intro j u hu
      rcases Nat.eq_zero_or_pos n with h0 | h0
      · subst h0
        have hn : olds = [] := List.eq_nil_of_length_eq_zero (by simpa using ho.1)
        subst hn
        simp at hu
      · obtain ⟨b, o, h, _, hc⟩ := ho.2 (Nat.mul_pos h0 E.hsz)
        injection h with h
        subst h
        rw [add_none]
        exact hc j u hu
    obtain ⟨v', w', hrun, h2, h3⟩ := run_append_arg_grows (P := P) w t ty e i z size bytes E.ht hi hz hs hb E.hzs E.hsz ad n n olds ho.1 hold ⟨bb, oo, none⟩ m c news hr.1 hcells (by omega) h63 hbytes
    obtain ⟨x', rfl⟩ := fin v' w' h2 h3
    exact ⟨v', x', hrun, h2⟩
theorem step_appg {ops : Array Oper} {o : Oper} {a : Act} {K : Act → World → Prop} {Q : Exit → Act → World → Prop} {D : Prop} (hgd : o.guard = none) (s x : Operand) {t e : TypeId} {z : Value} {size bytes : Nat}
    (hop : o.op = .call { callee := .builtin .append, args := #[s, x], argTypes := #[t, t] }) (E : El P t e z size bytes) (W : World) (hW : Ext W w) (A : Option Addr) (n : Nat) (olds : List Value) (hs : a.eval s = .slice A n n) (ho : Rd w size A n olds)
    (B : Option Addr) (m c : Nat) (news : List Value) (hx : a.eval x = .slice B m c) (hm : 0 < m) (hr : Rd w size B m news) (h1 : ∀ u ∈ news, u.oneCell' = true) (h63 : n + m ≤ maxLen) (hbytes : (n + m) * bytes ≤ 140737488355328)
    (h : ∀ v' x', (ext W x').ownsRow w.heap.size e size v' (n + m) (olds ++ news) → K (a.put o.dst v') (ext W x')) : if Region.wanted o (yielded ops a.tmps) = true then Oper.wp P o a w K Q else D := by
  have hw : Region.wanted o (yielded ops a.tmps) = true := by simp [Region.wanted, hgd]
  rw [if_pos hw]
  obtain ⟨v', x', hrun, h2⟩ := run_appg (P := P) (ty := o.type) w E W hW A n olds ho B m c news hm hr h1 h63 hbytes
  unfold Oper.wp execOp
  simp only [hop, resolve, invoke, builtin, Sem.run_bind, Sem.run_pure, Result.andThen_ok, List.map_toArray, List.map_cons, List.map_nil, hs, hx, hrun]
  exact h v' x' h2
theorem rd3 {w : World} {b : Nat} {a : Acc} (hb : b < w.heap.size) (h0 : w.cell? ⟨b, 0, none⟩ = some (.string a.1)) (h1 : w.cell? ⟨b, 1, none⟩ = some (.int .i64 a.2.1)) (h2 : w.cell? ⟨b, 2, none⟩ = some (.int .i64 a.2.2)) : Rd w 3 (some ⟨b, 0, none⟩) 1 (ac a) := by
  refine ⟨rfl, fun _ => ⟨b, 0, rfl, hb, fun j u hu => ?_⟩⟩
  match j, hu with
  | 0, hu => cases hu; exact h0
  | 1, hu => cases hu; exact h1
  | 2, hu => cases hu; exact h2
theorem own_lit0b (W w : World) (hE : Ext W w) (e size : Nat) {b : Nat} (hb : b = w.heap.size) : (w.alloc (.cells #[] e)).ownsRow W.heap.size e size (.slice (some ⟨b, 0, none⟩) 0 0) 0 [] := by
  subst hb
  exact ⟨by simp, .inr ⟨w.heap.size, 0, #[], rfl, hE.size, heap_alloc_new _ _, Nat.le_refl _, Nat.zero_le _, by simp, by simp⟩⟩
end
set_option maxRecDepth 100000 in
set_option maxHeartbeats 8000000 in
theorem add_any (A : Option Addr) (n c : Nat) (l : List Acc) (a : Acc) (w : World) (hn : n = l.length) (hc : n ≤ c) (hc2 : c ≤ maxLen) (hR : Rd w 3 A n (acl l)) (hl : l.length ≤ 1024) (hwf : ∀ b ∈ l, b.1.size ≤ maxLen) (ha : a.1.size ≤ maxLen) :
    Calls Tryz.prog 15 #[.slice A n c, acg a] w fun e w' => ∃ A' c' r, e = .returned (.slice A' r.length c') ∧ Ext w w' ∧ Rd w' 3 A' r.length (acl r) ∧ Stands (l ++ [a]) r := by
  subst hn
  have HM := Lib.hid (fun A' c' w' h => merge_any A' (l.length + 1) c' (l ++ [a]) w' (by simp) h (by simp; omega) (fun b hb => by rcases List.mem_append.1 hb with hb | hb; exact hwf b hb; simp at hb; subst hb; exact ha))
  clear hwf ha
  go_enter Tryz.func15, Tryz.ntmps15
  go_wp2_with fail
  have hE0 : Ext w (w.alloc (.cells #[.string a.1, .int .i64 a.2.1, .int .i64 a.2.2] 32)) := (by repeat (first | exact Ext.refl' _ | assumption | apply Ext.ex' | apply Ext.al | apply Ext.drN | apply Ext.dr))
  have hR := hR.ext hE0
  have hbs : w.heap.size < (w.alloc (.cells #[.string a.1, .int .i64 a.2.1, .int .i64 a.2.2] 32)).heap.size := by simp
  have z0 : (w.alloc (.cells #[.string a.1, .int .i64 a.2.1, .int .i64 a.2.2] 32)).cell? ⟨w.heap.size, 0, none⟩ = some (.string a.1) := by simp [go_sem, ↓IntWalk.iteOmega]
  have z1 : (w.alloc (.cells #[.string a.1, .int .i64 a.2.1, .int .i64 a.2.2] 32)).cell? ⟨w.heap.size, 1, none⟩ = some (.int .i64 a.2.1) := by simp [go_sem, ↓IntWalk.iteOmega]
  have z2 : (w.alloc (.cells #[.string a.1, .int .i64 a.2.1, .int .i64 a.2.2] 32)).cell? ⟨w.heap.size, 2, none⟩ = some (.int .i64 a.2.2) := by simp [go_sem, ↓IntWalk.iteOmega]
  generalize w.alloc (.cells #[.string a.1, .int .i64 a.2.1, .int .i64 a.2.2] 32) = Wb at hE0 hR hbs z0 z1 z2 ⊢
  generalize w.heap.size = bx at hbs z0 z1 z2 ⊢
  refine wp_region_held_drew (S := (fun w' => w'.cell? ⟨bx, 0, none⟩ = some (.string a.1) ∧ w'.cell? ⟨bx, 1, none⟩ = some (.int .i64 a.2.1) ∧ w'.cell? ⟨bx, 2, none⟩ = some (.int .i64 a.2.2))) (by kernel_rfl) (by simp [go_sem, ↓IntWalk.iteOmega, *]) (fun hHeld => ?_)
  refine wpAnyH_take (i := 0) (oi := ?oi1) (v := ?v1) ?hi1 (by kernel_rfl) (by kernel_rfl) (by kernel_rfl) ?hQ1 ?hy1 (by assumption) ?_
  case hi1 => (simp only [List.getElem?_toArray, List.getElem?_cons_succ, List.getElem?_cons_zero]; try rfl)
  case hQ1 => exact fun _ _ _ h => h
  case hy1 => (refine Or.inl ⟨by rfl, ?_⟩; intro wq hSw; (try dsimp only at hSw); go_simp; (try with_reducible rfl))
  (try simp only [Act.put, List.setIfInBounds_toArray, List.set_cons_zero, List.set_cons_succ])
  refine wpAnyH_take (i := 1) (oi := ?oi2) (v := ?v2) ?hi2 (by kernel_rfl) (by kernel_rfl) (by kernel_rfl) ?hQ2 ?hy2 (by assumption) ?_
  case hi2 => (simp only [List.getElem?_toArray, List.getElem?_cons_succ, List.getElem?_cons_zero]; try rfl)
  case hQ2 => exact fun _ _ _ h => h
  case hy2 => (refine Or.inl ⟨by rfl, ?_⟩; intro wq hSw; (try dsimp only at hSw); go_simp; (try with_reducible rfl))
  (try simp only [Act.put, List.setIfInBounds_toArray, List.set_cons_zero, List.set_cons_succ])
  refine wpAnyH_take (i := 2) (oi := ?oi3) (v := ?v3) ?hi3 (by kernel_rfl) (by kernel_rfl) (by kernel_rfl) ?hQ3 ?hy3 (by assumption) ?_
  case hi3 => (simp only [List.getElem?_toArray, List.getElem?_cons_succ, List.getElem?_cons_zero]; try rfl)
  case hQ3 => exact fun _ _ _ h => h
  case hy3 => (refine Or.inl ⟨by rfl, ?_⟩; intro wq hSw; (try dsimp only at hSw); go_simp; (try with_reducible rfl))
  (try simp only [Act.put, List.setIfInBounds_toArray, List.set_cons_zero, List.set_cons_succ])
  refine wpAnyH_take (i := 3) (oi := ?oi4) (v := ?v4) ?hi4 (by kernel_rfl) (by kernel_rfl) (by kernel_rfl) ?hQ4 ?hy4 (by assumption) ?_
  case hi4 => (simp only [List.getElem?_toArray, List.getElem?_cons_succ, List.getElem?_cons_zero]; try rfl)
  case hQ4 => exact fun _ _ _ h => h
  case hy4 => (refine Or.inl ⟨by rfl, ?_⟩; intro wq hSw; (try dsimp only at hSw); go_simp; (try with_reducible rfl))
  (try simp only [Act.put, List.setIfInBounds_toArray, List.set_cons_zero, List.set_cons_succ])
  refine wpAnyH_take (i := 4) (oi := ?oi5) (v := ?v5) ?hi5 (by kernel_rfl) (by kernel_rfl) (by kernel_rfl) ?hQ5 ?hy5 (by assumption) ?_
  case hi5 => (simp only [List.getElem?_toArray, List.getElem?_cons_succ, List.getElem?_cons_zero]; try rfl)
  case hQ5 => exact fun _ _ _ h => h
  case hy5 => (refine Or.inl ⟨by rfl, ?_⟩; intro wq hSw; (try dsimp only at hSw); go_simp; (try with_reducible rfl))
  (try simp only [Act.put, List.setIfInBounds_toArray, List.set_cons_zero, List.set_cons_succ])
  refine wpAnyH_take (i := 5) (oi := ?oi6) (v := ?v6) ?hi6 (by kernel_rfl) (by kernel_rfl) (by kernel_rfl) ?hQ6 ?hy6 (by assumption) ?_
  case hi6 => (simp only [List.getElem?_toArray, List.getElem?_cons_succ, List.getElem?_cons_zero]; try rfl)
  case hQ6 => exact fun _ _ _ h => h
  case hy6 => (refine Or.inl ⟨by rfl, ?_⟩; intro wq hSw; (try dsimp only at hSw); go_simp; (try with_reducible rfl))
  (try simp only [Act.put, List.setIfInBounds_toArray, List.set_cons_zero, List.set_cons_succ])
  refine wpAnyH_take (i := 6) (oi := ?oi7) (v := ?v7) ?hi7 (by kernel_rfl) (by kernel_rfl) (by kernel_rfl) ?hQ7 ?hy7 (by assumption) ?_
  case hi7 => (simp only [List.getElem?_toArray, List.getElem?_cons_succ, List.getElem?_cons_zero]; try rfl)
  case hQ7 => exact fun _ _ _ h => h
  case hy7 => (refine Or.inl ⟨by rfl, ?_⟩; intro wq hSw; (try dsimp only at hSw); go_simp; (try with_reducible rfl))
  (try simp only [Act.put, List.setIfInBounds_toArray, List.set_cons_zero, List.set_cons_succ])
  refine wpAnyH_ready (rs := [7]) (by kernel_rfl) (by simp) ?_
  refine AllReadyH.cons (o := ?oi8) ?hi8 ?ti8 AllReadyH.nil
  case hi8 => (simp only [List.getElem?_toArray, List.getElem?_cons_succ, List.getElem?_cons_zero]; try rfl)
  case ti8 =>
    intro KQ hKQ
    go_simp
    refine hKQ.out _ _ (by simp [go_sem, ↓IntWalk.iteOmega, *]) (fun hHeld2 => ?_)
    clear hHeld hKQ KQ; have hHeld := hHeld2; clear hHeld2
    (try simp only [Act.put, List.setIfInBounds_toArray, List.set_cons_zero, List.set_cons_succ])
    refine wpAnyH_ready (rs := [8]) (by kernel_rfl) (by simp) ?_
    refine AllReadyH.cons (o := ?oi9) ?hi9 ?ti9 AllReadyH.nil
    case hi9 => (simp only [List.getElem?_toArray, List.getElem?_cons_succ, List.getElem?_cons_zero]; try rfl)
    case ti9 =>
      intro KQ hKQ
      refine step_appg _ (by rfl) (.tmp 10) (.tmp 12) (by rfl) elAcc Wb (by repeat (first | exact Ext.refl' _ | assumption | apply Ext.ex' | apply Ext.al | apply Ext.drN | apply Ext.dr)) A l.length (acl l) (by rfl) (hR.ext (by repeat (first | exact Ext.refl' _ | assumption | apply Ext.ex' | apply Ext.al | apply Ext.drN | apply Ext.dr))) _ 1 1 (ac a) (by rfl) (by decide) (by first | exact Rd.lit _ #[.string a.1, .int .i64 a.2.1, .int .i64 a.2.2] _ 1 3 rfl (by simp [size_ext]) | exact (Rd.lit _ #[.string a.1, .int .i64 a.2.1, .int .i64 a.2.2] _ 1 3 rfl (by simp [size_ext])).ext (by repeat (first | exact Ext.refl' _ | assumption | apply Ext.ex' | apply Ext.al | apply Ext.drN | apply Ext.dr))) (by have := oneCell_acl [a]; rwa [acl_one] at this) (by unfold maxLen; omega) (by omega) ?_
      intro v' x' ho'
      obtain ⟨A5, c5, rfl, _⟩ := row_formG ho'
      have hR5 := Rd.of_own ho'
      clear ho'
      refine hKQ.out _ _ (by simp [go_sem, ↓IntWalk.iteOmega, *]) (fun hHeld2 => ?_)
      clear hHeld hKQ KQ; have hHeld := hHeld2; clear hHeld2
      (try simp only [Act.put, List.setIfInBounds_toArray, List.set_cons_zero, List.set_cons_succ])
      refine wpAnyH_ready (rs := [9]) (by kernel_rfl) (by simp) ?_
      refine AllReadyH.cons (o := ?oi10) ?hi10 ?ti10 AllReadyH.nil
      case hi10 => (simp only [List.getElem?_toArray, List.getElem?_cons_succ, List.getElem?_cons_zero]; try rfl)
      case ti10 =>
        intro KQ hKQ
        go_simp
        go_at_call 13
        refine Calls.mono (HM.out A5 c5 _ (by rw [acl_append, acl_one]; exact hR5)) ?_
        rintro e w1 ⟨A6, c6, r, rfl, hb1, hR6, hst⟩
        obtain ⟨x6, rfl⟩ := hb1.get
        clear hb1
        refine hKQ.out _ _ (by simp [go_sem, ↓IntWalk.iteOmega, *]) (fun hHeld2 => ?_)
        clear hHeld hKQ KQ; have hHeld := hHeld2; clear hHeld2
        (try simp only [Act.put, List.setIfInBounds_toArray, List.set_cons_zero, List.set_cons_succ])
        refine wpAnyH_take (i := 10) (oi := ?oi11) (v := ?v11) ?hi11 (by kernel_rfl) (by kernel_rfl) (by kernel_rfl) ?hQ11 ?hy11 (by assumption) ?_
        case hi11 => (simp only [List.getElem?_toArray, List.getElem?_cons_succ, List.getElem?_cons_zero]; try rfl)
        case hQ11 => exact fun _ _ _ h => h
        case hy11 => (refine Or.inl ⟨by rfl, ?_⟩; intro wq hSw; (try dsimp only at hSw); go_simp; (try with_reducible rfl))
        (try simp only [Act.put, List.setIfInBounds_toArray, List.set_cons_zero, List.set_cons_succ])
        refine wpAnyH_done (by kernel_rfl) ?_ _
        go_wp2
        refine bodyPost_ret (v := .slice A6 r.length c6) ?_ rfl ⟨A6, c6, r, rfl, hE0.tr (by repeat (first | exact Ext.refl' _ | assumption | apply Ext.ex' | apply Ext.al | apply Ext.drN | apply Ext.dr)), hR6, hst⟩
        simp [results, Tryz.results15, go_sem, ↓IntWalk.iteOmega]
set_option maxRecDepth 100000 in
set_option maxHeartbeats 8000000 in
theorem radd_any (A : Option Addr) (n c : Nat) (l : List Acc) (a : Acc) (w : World) (hn : n = l.length) (hR : Rd w 3 A n (acl l)) (hl : l.length ≤ 1024) :
    Calls Tryz.prog 16 #[.slice A n c, acg a] w fun e w' => ∃ A' c' r, e = .returned (.slice A' r.length c') ∧ Ext w w' ∧ Rd w' 3 A' r.length (acl r) ∧ CanT r ∧ ∀ t x, inT r t x = inT (l ++ [a]) t x := by
  subst hn
  have HM := Lib.hid (fun A' c' w' h => rmerge_any A' (l.length + 1) c' (l ++ [a]) w' (by simp) h (by simp; omega))
  go_enter Tryz.func16, Tryz.ntmps16
  go_wp2_with fail
  have hE0 : Ext w (w.alloc (.cells #[.string a.1, .int .i64 a.2.1, .int .i64 a.2.2] 32)) := (by repeat (first | exact Ext.refl' _ | assumption | apply Ext.ex' | apply Ext.al | apply Ext.drN | apply Ext.dr))
  have hR := hR.ext hE0
  have hbs : w.heap.size < (w.alloc (.cells #[.string a.1, .int .i64 a.2.1, .int .i64 a.2.2] 32)).heap.size := by simp
  have z0 : (w.alloc (.cells #[.string a.1, .int .i64 a.2.1, .int .i64 a.2.2] 32)).cell? ⟨w.heap.size, 0, none⟩ = some (.string a.1) := by simp [go_sem, ↓IntWalk.iteOmega]
  have z1 : (w.alloc (.cells #[.string a.1, .int .i64 a.2.1, .int .i64 a.2.2] 32)).cell? ⟨w.heap.size, 1, none⟩ = some (.int .i64 a.2.1) := by simp [go_sem, ↓IntWalk.iteOmega]
  have z2 : (w.alloc (.cells #[.string a.1, .int .i64 a.2.1, .int .i64 a.2.2] 32)).cell? ⟨w.heap.size, 2, none⟩ = some (.int .i64 a.2.2) := by simp [go_sem, ↓IntWalk.iteOmega]
  generalize w.alloc (.cells #[.string a.1, .int .i64 a.2.1, .int .i64 a.2.2] 32) = Wb at hE0 hR hbs z0 z1 z2 ⊢
  generalize w.heap.size = bx at hbs z0 z1 z2 ⊢
  refine wp_region_held_drew (S := (fun w' => w'.cell? ⟨bx, 0, none⟩ = some (.string a.1) ∧ w'.cell? ⟨bx, 1, none⟩ = some (.int .i64 a.2.1) ∧ w'.cell? ⟨bx, 2, none⟩ = some (.int .i64 a.2.2))) (by kernel_rfl) (by simp [go_sem, ↓IntWalk.iteOmega, *]) (fun hHeld => ?_)
  refine wpAnyH_take (i := 1) (oi := ?oi1) (v := ?v1) ?hi1 (by kernel_rfl) (by kernel_rfl) (by kernel_rfl) ?hQ1 ?hy1 (by assumption) ?_
  case hi1 => (simp only [List.getElem?_toArray, List.getElem?_cons_succ, List.getElem?_cons_zero]; try rfl)
  case hQ1 => exact fun _ _ _ h => h
  case hy1 => (refine Or.inl ⟨by rfl, ?_⟩; intro wq hSw; (try dsimp only at hSw); go_simp; (try with_reducible rfl))
  (try simp only [Act.put, List.setIfInBounds_toArray, List.set_cons_zero, List.set_cons_succ])
  refine wpAnyH_take (i := 3) (oi := ?oi2) (v := ?v2) ?hi2 (by kernel_rfl) (by kernel_rfl) (by kernel_rfl) ?hQ2 ?hy2 (by assumption) ?_
  case hi2 => (simp only [List.getElem?_toArray, List.getElem?_cons_succ, List.getElem?_cons_zero]; try rfl)
  case hQ2 => exact fun _ _ _ h => h
  case hy2 => (refine Or.inl ⟨by rfl, ?_⟩; intro wq hSw; (try dsimp only at hSw); go_simp; (try with_reducible rfl))
  (try simp only [Act.put, List.setIfInBounds_toArray, List.set_cons_zero, List.set_cons_succ])
  refine wpAnyH_ready (rs := [0, 4]) (by kernel_rfl) (by simp) ?_
  refine AllReadyH.cons (o := ?oi3) ?hi3 ?ti3 ?ri3
  case hi3 => (simp only [List.getElem?_toArray, List.getElem?_cons_succ, List.getElem?_cons_zero]; try rfl)
  case ti3 =>
    intro KQ hKQ
    go_simp
    refine hKQ.out _ _ (by simp [go_sem, ↓IntWalk.iteOmega, *]) (fun hHeld2 => ?_)
    clear hHeld hKQ KQ; have hHeld := hHeld2; clear hHeld2
    (try simp only [Act.put, List.setIfInBounds_toArray, List.set_cons_zero, List.set_cons_succ])
    refine wpAnyH_ready (rs := [2, 4]) (by kernel_rfl) (by simp) ?_
    refine AllReadyH.cons (o := ?oi4) ?hi4 ?ti4 ?ri4
    case hi4 => (simp only [List.getElem?_toArray, List.getElem?_cons_succ, List.getElem?_cons_zero]; try rfl)
    case ti4 =>
      intro KQ hKQ
      refine step_app _ (by rfl) (.tmp 5) (.tmp 6) (by rfl) elAcc Wb (by repeat (first | exact Ext.refl' _ | assumption | apply Ext.ex' | apply Ext.al | apply Ext.drN | apply Ext.dr)) _ 0 [] (by rfl) (by first | exact own_lit0b Wb _ (by repeat (first | exact Ext.refl' _ | assumption | apply Ext.ex' | apply Ext.al | apply Ext.drN | apply Ext.dr)) _ _ (by simp [size_ext]) | exact World.ownsRow.alloc (own_lit0b Wb _ (by repeat (first | exact Ext.refl' _ | assumption | apply Ext.ex' | apply Ext.al | apply Ext.drN | apply Ext.dr)) _ _ (by simp [size_ext])) _) A l.length c (acl l) (by rfl) (hR.ext (by repeat (first | exact Ext.refl' _ | assumption | apply Ext.ex' | apply Ext.al | apply Ext.drN | apply Ext.dr))) (oneCell_acl l) (by unfold maxLen; omega) (by omega) ?_
      intro v' x' ho' hgl
      refine hKQ.out _ _ (by simp [go_sem, ↓IntWalk.iteOmega, *]) (fun hHeld2 => ?_)
      clear hHeld hKQ KQ; have hHeld := hHeld2; clear hHeld2
      (try simp only [Act.put, List.setIfInBounds_toArray, List.set_cons_zero, List.set_cons_succ])
      refine wpAnyH_ready (rs := [4]) (by kernel_rfl) (by simp) ?_
      refine AllReadyH.cons (o := ?oi5) ?hi5 ?ti5 AllReadyH.nil
      case hi5 => (simp only [List.getElem?_toArray, List.getElem?_cons_succ, List.getElem?_cons_zero]; try rfl)
      case ti5 =>
        intro KQ hKQ
        go_simp
        refine hKQ.out _ _ (by simp [go_sem, ↓IntWalk.iteOmega, *]) (fun hHeld2 => ?_)
        clear hHeld hKQ KQ; have hHeld := hHeld2; clear hHeld2
        (try simp only [Act.put, List.setIfInBounds_toArray, List.set_cons_zero, List.set_cons_succ])
        refine wpAnyH_ready (rs := [5]) (by kernel_rfl) (by simp) ?_
        refine AllReadyH.cons (o := ?oi6) ?hi6 ?ti6 AllReadyH.nil
        case hi6 => (simp only [List.getElem?_toArray, List.getElem?_cons_succ, List.getElem?_cons_zero]; try rfl)
        case ti6 =>
          intro KQ hKQ
          refine step_app _ (by rfl) (.tmp 7) (.tmp 9) (by rfl) elAcc Wb (by repeat (first | exact Ext.refl' _ | assumption | apply Ext.ex' | apply Ext.al | apply Ext.drN | apply Ext.dr)) _ _ _ (by rfl) (by first | exact ho' | exact World.ownsRow.alloc ho' _) _ 1 1 (ac a) (by rfl) (by first | exact Rd.lit _ #[.string a.1, .int .i64 a.2.1, .int .i64 a.2.2] _ 1 3 rfl (by simp [size_ext]) | exact (Rd.lit _ #[.string a.1, .int .i64 a.2.1, .int .i64 a.2.2] _ 1 3 rfl (by simp [size_ext])).ext (by repeat (first | exact Ext.refl' _ | assumption | apply Ext.ex' | apply Ext.al | apply Ext.drN | apply Ext.dr)) | exact (rd3 (Nat.lt_of_lt_of_le (by simp [size_ext] <;> omega) hgl.size) (gcell hgl (by simp [size_ext] <;> omega) (by (show (some _ : Option Nat) ≠ some _; simp)) (by simp [go_sem, ↓IntWalk.iteOmega])) (gcell hgl (by simp [size_ext] <;> omega) (by (show (some _ : Option Nat) ≠ some _; simp)) (by simp [go_sem, ↓IntWalk.iteOmega])) (gcell hgl (by simp [size_ext] <;> omega) (by (show (some _ : Option Nat) ≠ some _; simp)) (by simp [go_sem, ↓IntWalk.iteOmega]))).ext (by repeat (first | exact Ext.refl' _ | assumption | apply Ext.ex' | apply Ext.al | apply Ext.drN | apply Ext.dr)) | exact (rd3 (Nat.lt_of_lt_of_le (by simp [size_ext] <;> omega) hgl.size) (gcell hgl (by simp [size_ext] <;> omega) (by (show (some _ : Option Nat) ≠ some _; simp)) (by simp [go_sem, ↓IntWalk.iteOmega])) (gcell hgl (by simp [size_ext] <;> omega) (by (show (some _ : Option Nat) ≠ some _; simp)) (by simp [go_sem, ↓IntWalk.iteOmega])) (gcell hgl (by simp [size_ext] <;> omega) (by (show (some _ : Option Nat) ≠ some _; simp)) (by simp [go_sem, ↓IntWalk.iteOmega])))) (by have := oneCell_acl [a]; rwa [acl_one] at this) (by unfold maxLen; omega) (by omega) ?_
          intro v2 x2 ho2 _
          obtain ⟨A5, c5, rfl, _⟩ := row_formG ho2
          have hR5 := Rd.of_own ho2
          clear ho2
          refine hKQ.out _ _ (by simp [go_sem, ↓IntWalk.iteOmega, *]) (fun hHeld2 => ?_)
          clear hHeld hKQ KQ; have hHeld := hHeld2; clear hHeld2
          (try simp only [Act.put, List.setIfInBounds_toArray, List.set_cons_zero, List.set_cons_succ])
          refine wpAnyH_ready (rs := [6]) (by kernel_rfl) (by simp) ?_
          refine AllReadyH.cons (o := ?oi7) ?hi7 ?ti7 AllReadyH.nil
          case hi7 => (simp only [List.getElem?_toArray, List.getElem?_cons_succ, List.getElem?_cons_zero]; try rfl)
          case ti7 =>
            intro KQ hKQ
            go_simp
            go_at_call 14
            refine Calls.mono (HM.out A5 c5 _ (by rw [acl_append, acl_one]; simpa using hR5)) ?_
            rintro e w1 ⟨A6, c6, r, rfl, hb1, hR6, hst⟩
            obtain ⟨x6, rfl⟩ := hb1.get
            clear hb1
            refine hKQ.out _ _ (by simp [go_sem, ↓IntWalk.iteOmega, *]) (fun hHeld2 => ?_)
            clear hHeld hKQ KQ; have hHeld := hHeld2; clear hHeld2
            (try simp only [Act.put, List.setIfInBounds_toArray, List.set_cons_zero, List.set_cons_succ])
            refine wpAnyH_take (i := 7) (oi := ?oi8) (v := ?v8) ?hi8 (by kernel_rfl) (by kernel_rfl) (by kernel_rfl) ?hQ8 ?hy8 (by assumption) ?_
            case hi8 => (simp only [List.getElem?_toArray, List.getElem?_cons_succ, List.getElem?_cons_zero]; try rfl)
            case hQ8 => exact fun _ _ _ h => h
            case hy8 => (refine Or.inl ⟨by rfl, ?_⟩; intro wq hSw; (try dsimp only at hSw); go_simp; (try with_reducible rfl))
            (try simp only [Act.put, List.setIfInBounds_toArray, List.set_cons_zero, List.set_cons_succ])
            refine wpAnyH_done (by kernel_rfl) ?_ _
            go_wp2
            refine bodyPost_ret (v := .slice A6 r.length c6) ?_ rfl ⟨A6, c6, r, rfl, hE0.tr (by repeat (first | exact Ext.refl' _ | assumption | apply Ext.ex' | apply Ext.al | apply Ext.drN | apply Ext.dr)), hR6, hst.1, hst.2⟩
            simp [results, Tryz.results16, go_sem, ↓IntWalk.iteOmega]
    case ri4 =>
      refine AllReadyH.cons (o := ?oi9) ?hi9 ?ti9 AllReadyH.nil
      case hi9 => (simp only [List.getElem?_toArray, List.getElem?_cons_succ, List.getElem?_cons_zero]; try rfl)
      case ti9 =>
        intro KQ hKQ
        go_simp
        refine hKQ.out _ _ (by simp [go_sem, ↓IntWalk.iteOmega, *]) (fun hHeld2 => ?_)
        clear hHeld hKQ KQ; have hHeld := hHeld2; clear hHeld2
        (try simp only [Act.put, List.setIfInBounds_toArray, List.set_cons_zero, List.set_cons_succ])
        refine wpAnyH_ready (rs := [2]) (by kernel_rfl) (by simp) ?_
        refine AllReadyH.cons (o := ?oi10) ?hi10 ?ti10 AllReadyH.nil
        case hi10 => (simp only [List.getElem?_toArray, List.getElem?_cons_succ, List.getElem?_cons_zero]; try rfl)
        case ti10 =>
          intro KQ hKQ
          refine step_app _ (by rfl) (.tmp 5) (.tmp 6) (by rfl) elAcc Wb (by repeat (first | exact Ext.refl' _ | assumption | apply Ext.ex' | apply Ext.al | apply Ext.drN | apply Ext.dr)) _ 0 [] (by rfl) (by first | exact own_lit0b Wb _ (by repeat (first | exact Ext.refl' _ | assumption | apply Ext.ex' | apply Ext.al | apply Ext.drN | apply Ext.dr)) _ _ (by simp [size_ext]) | exact World.ownsRow.alloc (own_lit0b Wb _ (by repeat (first | exact Ext.refl' _ | assumption | apply Ext.ex' | apply Ext.al | apply Ext.drN | apply Ext.dr)) _ _ (by simp [size_ext])) _) A l.length c (acl l) (by rfl) (hR.ext (by repeat (first | exact Ext.refl' _ | assumption | apply Ext.ex' | apply Ext.al | apply Ext.drN | apply Ext.dr))) (oneCell_acl l) (by unfold maxLen; omega) (by omega) ?_
          intro v' x' ho' hgl
          refine hKQ.out _ _ (by simp [go_sem, ↓IntWalk.iteOmega, *]) (fun hHeld2 => ?_)
          clear hHeld hKQ KQ; have hHeld := hHeld2; clear hHeld2
          (try simp only [Act.put, List.setIfInBounds_toArray, List.set_cons_zero, List.set_cons_succ])
          refine wpAnyH_ready (rs := [5]) (by kernel_rfl) (by simp) ?_
          refine AllReadyH.cons (o := ?oi11) ?hi11 ?ti11 AllReadyH.nil
          case hi11 => (simp only [List.getElem?_toArray, List.getElem?_cons_succ, List.getElem?_cons_zero]; try rfl)
          case ti11 =>
            intro KQ hKQ
            refine step_app _ (by rfl) (.tmp 7) (.tmp 9) (by rfl) elAcc Wb (by repeat (first | exact Ext.refl' _ | assumption | apply Ext.ex' | apply Ext.al | apply Ext.drN | apply Ext.dr)) _ _ _ (by rfl) (by first | exact ho' | exact World.ownsRow.alloc ho' _) _ 1 1 (ac a) (by rfl) (by first | exact Rd.lit _ #[.string a.1, .int .i64 a.2.1, .int .i64 a.2.2] _ 1 3 rfl (by simp [size_ext]) | exact (Rd.lit _ #[.string a.1, .int .i64 a.2.1, .int .i64 a.2.2] _ 1 3 rfl (by simp [size_ext])).ext (by repeat (first | exact Ext.refl' _ | assumption | apply Ext.ex' | apply Ext.al | apply Ext.drN | apply Ext.dr)) | exact (rd3 (Nat.lt_of_lt_of_le (by simp [size_ext] <;> omega) hgl.size) (gcell hgl (by simp [size_ext] <;> omega) (by (show (some _ : Option Nat) ≠ some _; simp)) (by simp [go_sem, ↓IntWalk.iteOmega])) (gcell hgl (by simp [size_ext] <;> omega) (by (show (some _ : Option Nat) ≠ some _; simp)) (by simp [go_sem, ↓IntWalk.iteOmega])) (gcell hgl (by simp [size_ext] <;> omega) (by (show (some _ : Option Nat) ≠ some _; simp)) (by simp [go_sem, ↓IntWalk.iteOmega]))).ext (by repeat (first | exact Ext.refl' _ | assumption | apply Ext.ex' | apply Ext.al | apply Ext.drN | apply Ext.dr)) | exact (rd3 (Nat.lt_of_lt_of_le (by simp [size_ext] <;> omega) hgl.size) (gcell hgl (by simp [size_ext] <;> omega) (by (show (some _ : Option Nat) ≠ some _; simp)) (by simp [go_sem, ↓IntWalk.iteOmega])) (gcell hgl (by simp [size_ext] <;> omega) (by (show (some _ : Option Nat) ≠ some _; simp)) (by simp [go_sem, ↓IntWalk.iteOmega])) (gcell hgl (by simp [size_ext] <;> omega) (by (show (some _ : Option Nat) ≠ some _; simp)) (by simp [go_sem, ↓IntWalk.iteOmega])))) (by have := oneCell_acl [a]; rwa [acl_one] at this) (by unfold maxLen; omega) (by omega) ?_
            intro v2 x2 ho2 _
            obtain ⟨A5, c5, rfl, _⟩ := row_formG ho2
            have hR5 := Rd.of_own ho2
            clear ho2
            refine hKQ.out _ _ (by simp [go_sem, ↓IntWalk.iteOmega, *]) (fun hHeld2 => ?_)
            clear hHeld hKQ KQ; have hHeld := hHeld2; clear hHeld2
            (try simp only [Act.put, List.setIfInBounds_toArray, List.set_cons_zero, List.set_cons_succ])
            refine wpAnyH_ready (rs := [6]) (by kernel_rfl) (by simp) ?_
            refine AllReadyH.cons (o := ?oi12) ?hi12 ?ti12 AllReadyH.nil
            case hi12 => (simp only [List.getElem?_toArray, List.getElem?_cons_succ, List.getElem?_cons_zero]; try rfl)
            case ti12 =>
              intro KQ hKQ
              go_simp
              go_at_call 14
              refine Calls.mono (HM.out A5 c5 _ (by rw [acl_append, acl_one]; simpa using hR5)) ?_
              rintro e w1 ⟨A6, c6, r, rfl, hb1, hR6, hst⟩
              obtain ⟨x6, rfl⟩ := hb1.get
              clear hb1
              refine hKQ.out _ _ (by simp [go_sem, ↓IntWalk.iteOmega, *]) (fun hHeld2 => ?_)
              clear hHeld hKQ KQ; have hHeld := hHeld2; clear hHeld2
              (try simp only [Act.put, List.setIfInBounds_toArray, List.set_cons_zero, List.set_cons_succ])
              refine wpAnyH_take (i := 7) (oi := ?oi13) (v := ?v13) ?hi13 (by kernel_rfl) (by kernel_rfl) (by kernel_rfl) ?hQ13 ?hy13 (by assumption) ?_
              case hi13 => (simp only [List.getElem?_toArray, List.getElem?_cons_succ, List.getElem?_cons_zero]; try rfl)
              case hQ13 => exact fun _ _ _ h => h
              case hy13 => (refine Or.inl ⟨by rfl, ?_⟩; intro wq hSw; (try dsimp only at hSw); go_simp; (try with_reducible rfl))
              (try simp only [Act.put, List.setIfInBounds_toArray, List.set_cons_zero, List.set_cons_succ])
              refine wpAnyH_done (by kernel_rfl) ?_ _
              go_wp2
              refine bodyPost_ret (v := .slice A6 r.length c6) ?_ rfl ⟨A6, c6, r, rfl, hE0.tr (by repeat (first | exact Ext.refl' _ | assumption | apply Ext.ex' | apply Ext.al | apply Ext.drN | apply Ext.dr)), hR6, hst.1, hst.2⟩
              simp [results, Tryz.results16, go_sem, ↓IntWalk.iteOmega]
  case ri3 =>
    refine AllReadyH.cons (o := ?oi14) ?hi14 ?ti14 AllReadyH.nil
    case hi14 => (simp only [List.getElem?_toArray, List.getElem?_cons_succ, List.getElem?_cons_zero]; try rfl)
    case ti14 =>
      intro KQ hKQ
      go_simp
      refine hKQ.out _ _ (by simp [go_sem, ↓IntWalk.iteOmega, *]) (fun hHeld2 => ?_)
      clear hHeld hKQ KQ; have hHeld := hHeld2; clear hHeld2
      (try simp only [Act.put, List.setIfInBounds_toArray, List.set_cons_zero, List.set_cons_succ])
      refine wpAnyH_ready (rs := [0]) (by kernel_rfl) (by simp) ?_
      refine AllReadyH.cons (o := ?oi15) ?hi15 ?ti15 AllReadyH.nil
      case hi15 => (simp only [List.getElem?_toArray, List.getElem?_cons_succ, List.getElem?_cons_zero]; try rfl)
      case ti15 =>
        intro KQ hKQ
        go_simp
        refine hKQ.out _ _ (by simp [go_sem, ↓IntWalk.iteOmega, *]) (fun hHeld2 => ?_)
        clear hHeld hKQ KQ; have hHeld := hHeld2; clear hHeld2
        (try simp only [Act.put, List.setIfInBounds_toArray, List.set_cons_zero, List.set_cons_succ])
        refine wpAnyH_ready (rs := [2]) (by kernel_rfl) (by simp) ?_
        refine AllReadyH.cons (o := ?oi16) ?hi16 ?ti16 AllReadyH.nil
        case hi16 => (simp only [List.getElem?_toArray, List.getElem?_cons_succ, List.getElem?_cons_zero]; try rfl)
        case ti16 =>
          intro KQ hKQ
          refine step_app _ (by rfl) (.tmp 5) (.tmp 6) (by rfl) elAcc Wb (by repeat (first | exact Ext.refl' _ | assumption | apply Ext.ex' | apply Ext.al | apply Ext.drN | apply Ext.dr)) _ 0 [] (by rfl) (by first | exact own_lit0b Wb _ (by repeat (first | exact Ext.refl' _ | assumption | apply Ext.ex' | apply Ext.al | apply Ext.drN | apply Ext.dr)) _ _ (by simp [size_ext]) | exact World.ownsRow.alloc (own_lit0b Wb _ (by repeat (first | exact Ext.refl' _ | assumption | apply Ext.ex' | apply Ext.al | apply Ext.drN | apply Ext.dr)) _ _ (by simp [size_ext])) _) A l.length c (acl l) (by rfl) (hR.ext (by repeat (first | exact Ext.refl' _ | assumption | apply Ext.ex' | apply Ext.al | apply Ext.drN | apply Ext.dr))) (oneCell_acl l) (by unfold maxLen; omega) (by omega) ?_
          intro v' x' ho' hgl
          refine hKQ.out _ _ (by simp [go_sem, ↓IntWalk.iteOmega, *]) (fun hHeld2 => ?_)
          clear hHeld hKQ KQ; have hHeld := hHeld2; clear hHeld2
          (try simp only [Act.put, List.setIfInBounds_toArray, List.set_cons_zero, List.set_cons_succ])
          refine wpAnyH_ready (rs := [5]) (by kernel_rfl) (by simp) ?_
          refine AllReadyH.cons (o := ?oi17) ?hi17 ?ti17 AllReadyH.nil
          case hi17 => (simp only [List.getElem?_toArray, List.getElem?_cons_succ, List.getElem?_cons_zero]; try rfl)
          case ti17 =>
            intro KQ hKQ
            refine step_app _ (by rfl) (.tmp 7) (.tmp 9) (by rfl) elAcc Wb (by repeat (first | exact Ext.refl' _ | assumption | apply Ext.ex' | apply Ext.al | apply Ext.drN | apply Ext.dr)) _ _ _ (by rfl) (by first | exact ho' | exact World.ownsRow.alloc ho' _) _ 1 1 (ac a) (by rfl) (by first | exact Rd.lit _ #[.string a.1, .int .i64 a.2.1, .int .i64 a.2.2] _ 1 3 rfl (by simp [size_ext]) | exact (Rd.lit _ #[.string a.1, .int .i64 a.2.1, .int .i64 a.2.2] _ 1 3 rfl (by simp [size_ext])).ext (by repeat (first | exact Ext.refl' _ | assumption | apply Ext.ex' | apply Ext.al | apply Ext.drN | apply Ext.dr)) | exact (rd3 (Nat.lt_of_lt_of_le (by simp [size_ext] <;> omega) hgl.size) (gcell hgl (by simp [size_ext] <;> omega) (by (show (some _ : Option Nat) ≠ some _; simp)) (by simp [go_sem, ↓IntWalk.iteOmega])) (gcell hgl (by simp [size_ext] <;> omega) (by (show (some _ : Option Nat) ≠ some _; simp)) (by simp [go_sem, ↓IntWalk.iteOmega])) (gcell hgl (by simp [size_ext] <;> omega) (by (show (some _ : Option Nat) ≠ some _; simp)) (by simp [go_sem, ↓IntWalk.iteOmega]))).ext (by repeat (first | exact Ext.refl' _ | assumption | apply Ext.ex' | apply Ext.al | apply Ext.drN | apply Ext.dr)) | exact (rd3 (Nat.lt_of_lt_of_le (by simp [size_ext] <;> omega) hgl.size) (gcell hgl (by simp [size_ext] <;> omega) (by (show (some _ : Option Nat) ≠ some _; simp)) (by simp [go_sem, ↓IntWalk.iteOmega])) (gcell hgl (by simp [size_ext] <;> omega) (by (show (some _ : Option Nat) ≠ some _; simp)) (by simp [go_sem, ↓IntWalk.iteOmega])) (gcell hgl (by simp [size_ext] <;> omega) (by (show (some _ : Option Nat) ≠ some _; simp)) (by simp [go_sem, ↓IntWalk.iteOmega])))) (by have := oneCell_acl [a]; rwa [acl_one] at this) (by unfold maxLen; omega) (by omega) ?_
            intro v2 x2 ho2 _
            obtain ⟨A5, c5, rfl, _⟩ := row_formG ho2
            have hR5 := Rd.of_own ho2
            clear ho2
            refine hKQ.out _ _ (by simp [go_sem, ↓IntWalk.iteOmega, *]) (fun hHeld2 => ?_)
            clear hHeld hKQ KQ; have hHeld := hHeld2; clear hHeld2
            (try simp only [Act.put, List.setIfInBounds_toArray, List.set_cons_zero, List.set_cons_succ])
            refine wpAnyH_ready (rs := [6]) (by kernel_rfl) (by simp) ?_
            refine AllReadyH.cons (o := ?oi18) ?hi18 ?ti18 AllReadyH.nil
            case hi18 => (simp only [List.getElem?_toArray, List.getElem?_cons_succ, List.getElem?_cons_zero]; try rfl)
            case ti18 =>
              intro KQ hKQ
              go_simp
              go_at_call 14
              refine Calls.mono (HM.out A5 c5 _ (by rw [acl_append, acl_one]; simpa using hR5)) ?_
              rintro e w1 ⟨A6, c6, r, rfl, hb1, hR6, hst⟩
              obtain ⟨x6, rfl⟩ := hb1.get
              clear hb1
              refine hKQ.out _ _ (by simp [go_sem, ↓IntWalk.iteOmega, *]) (fun hHeld2 => ?_)
              clear hHeld hKQ KQ; have hHeld := hHeld2; clear hHeld2
              (try simp only [Act.put, List.setIfInBounds_toArray, List.set_cons_zero, List.set_cons_succ])
              refine wpAnyH_take (i := 7) (oi := ?oi19) (v := ?v19) ?hi19 (by kernel_rfl) (by kernel_rfl) (by kernel_rfl) ?hQ19 ?hy19 (by assumption) ?_
              case hi19 => (simp only [List.getElem?_toArray, List.getElem?_cons_succ, List.getElem?_cons_zero]; try rfl)
              case hQ19 => exact fun _ _ _ h => h
              case hy19 => (refine Or.inl ⟨by rfl, ?_⟩; intro wq hSw; (try dsimp only at hSw); go_simp; (try with_reducible rfl))
              (try simp only [Act.put, List.setIfInBounds_toArray, List.set_cons_zero, List.set_cons_succ])
              refine wpAnyH_done (by kernel_rfl) ?_ _
              go_wp2
              refine bodyPost_ret (v := .slice A6 r.length c6) ?_ rfl ⟨A6, c6, r, rfl, hE0.tr (by repeat (first | exact Ext.refl' _ | assumption | apply Ext.ex' | apply Ext.al | apply Ext.drN | apply Ext.dr)), hR6, hst.1, hst.2⟩
              simp [results, Tryz.results16, go_sem, ↓IntWalk.iteOmega]

end Go.Proofs.YtpifjhoelnacgaaGreat
