/- Merge of the reference. -/
import Derived.Test.YtpifjhoelnacgaaGreatCfQ
import Derived.Test.YtpifjhoelnacgaaGreatCfG
import Derived.Deep.RegionHeld3
import Derived.StillTailTactics
set_option linter.unusedSimpArgs false
set_option linter.unusedVariables false
namespace Go.Proofs.YtpifjhoelnacgaaGreat
open Go.RowKit


theorem acl_set (L : List Acc) (a : Acc) : ∀ (i : Nat), i < L.length → (((acl L).set (i * 3) (.string a.1)).set (i * 3 + 1) (.int .i64 a.2.1)).set (i * 3 + 2) (.int .i64 a.2.2) = acl (L.set i a) := by
  induction L with
  | nil => intro i h; simp at h
  | cons b L ih =>
    intro i h
    cases i with
    | zero => simp [acl, ac]
    | succ i =>
      have := ih i (by simpa using h)
      rw [List.set_cons_succ, show acl (b :: L.set i a) = ac b ++ acl (L.set i a) from rfl, ← this, show acl (b :: L) = ac b ++ acl L from rfl]
      have e0 : (i + 1) * 3 = i * 3 + 3 := by omega
      rw [e0]
      simp [ac]
/-- a region stored over another one in an owned row -/
theorem set3 {w : World} {base g n c : Nat} {L : List Acc} (h : w.ownsRow base 32 3 (.slice (some ⟨g, 0, none⟩) n c) n (acl L)) {i : Nat} (hi : i < L.length) (a : Acc) :
    ∃ Wa Wb Wc : World, w.setCell ⟨g, i * 3, none⟩ (.string a.1) = Wa ∧ Wa.setCell ⟨g, i * 3 + 1, none⟩ (.int .i64 a.2.1) = Wb ∧ Wb.setCell ⟨g, i * 3 + 2, none⟩ (.int .i64 a.2.2) = Wc ∧
      Wc.ownsRow base 32 3 (.slice (some ⟨g, 0, none⟩) n c) n (acl (L.set i a)) ∧ w.grownBy Wc (some g) ∧
      (w.frozen? ⟨g, i * 3, none⟩ = false ∧ Wa.frozen? ⟨g, i * 3 + 1, none⟩ = false ∧ Wb.frozen? ⟨g, i * 3 + 2, none⟩ = false) ∧
      (∃ u0 u1 u2, w.cell? ⟨g, i * 3, none⟩ = some u0 ∧ Wa.cell? ⟨g, i * 3 + 1, none⟩ = some u1 ∧ Wb.cell? ⟨g, i * 3 + 2, none⟩ = some u2) := by
  obtain ⟨a1, a2⟩ := h.stored (i * 3) (.string a.1)
  obtain ⟨b1, b2⟩ := a1.stored (i * 3 + 1) (.int .i64 a.2.1)
  obtain ⟨c1, c2⟩ := b1.stored (i * 3 + 2) (.int .i64 a.2.2)
  refine ⟨_, _, _, rfl, rfl, rfl, by rw [← acl_set L a i hi]; exact c1, a2.trans (b2.trans c2), ⟨h.frozenAt _, a1.frozenAt _, b1.frozenAt _⟩, ?_⟩
  have hl : (acl L).length = L.length * 3 := acl_length L
  have e0 := List.getElem?_eq_getElem (l := acl L) (i := i * 3) (by omega)
  have e1 := List.getElem?_eq_getElem (l := (acl L).set (i * 3) (.string a.1)) (i := i * 3 + 1) (by simp; omega)
  have e2 := List.getElem?_eq_getElem (l := ((acl L).set (i * 3) (.string a.1)).set (i * 3 + 1) (.int .i64 a.2.1)) (i := i * 3 + 2) (by simp; omega)
  have f0 := h.cells (g := g) rfl _ _ e0
  have f1 := a1.cells (g := g) rfl _ _ e1
  have f2 := b1.cells (g := g) rfl _ _ e2
  rw [add_none, Nat.zero_add] at f0 f1 f2
  exact ⟨_, _, _, f0, f1, f2⟩
theorem shift_set {S : List Acc} {X : Acc} {i : Nat} (h0 : 0 < i) (hi : i ≤ S.length) : (S.take i ++ [X] ++ S.drop i).set i (S[i - 1]'(by omega)) = S.take (i - 1) ++ [S[i - 1]'(by omega)] ++ S.drop (i - 1) := by
  obtain ⟨k, rfl⟩ : ∃ k, i = k + 1 := ⟨i - 1, by omega⟩
  have hk : k < S.length := by omega
  simp only [Nat.add_sub_cancel]
  have hl : (S.take (k + 1)).length = k + 1 := by simp; omega
  rw [List.append_assoc, List.set_append_right _ _ (by omega), hl, Nat.sub_self, List.singleton_append, List.set_cons_zero, List.take_succ_eq_append_getElem hk, List.drop_eq_getElem_cons hk]
  try simp
theorem shift_get {S : List Acc} {X : Acc} {i : Nat} (h0 : 0 < i) (hi : i ≤ S.length) (hl : i - 1 < (S.take i ++ [X] ++ S.drop i).length) : (S.take i ++ [X] ++ S.drop i)[i - 1] = S[i - 1]'(by omega) := by
  rw [List.getElem_append_left (by simp; omega), List.getElem_append_left (by simp; omega), List.getElem_take]
theorem region_tail {P : Program} {id : Nat} {Q : Exit → Act → World → Prop} {a : Act} {w : World} {l : List Oper} (n : Nat) (hm : P.follows .mixedOrders = true) (hB : Region.lexTailB .any l.toArray n = true) (Wd : World) (hW : w.drew = Wd) (h : wpStill P l.toArray Wd (fun a' => wpList P l.toArray Q (l.drop n) a' Wd) (l.take n) a) : (Code.region id l.toArray true).wp P Q a w := by
  subst hW; exact wp_region_still_tail n hm hB h
theorem acl_last2 (o2 : List Acc) (q : Acc) (z : Int) : (acl (o2 ++ [q])).set (o2.length * 3 + 2) (.int .i64 z) = acl (o2 ++ [(q.1, (q.2.1, z))]) := by
  rw [acl_append, acl_append, List.set_append_right _ _ (by rw [acl_length]; omega), acl_length, show o2.length * 3 + 2 - o2.length * 3 = 2 by omega]
  rfl
theorem fin_set {S : List Acc} {X a : Acc} {i : Nat} (hi : i ≤ S.length) : (S.take i ++ [X] ++ S.drop i).set i a = S.take i ++ [a] ++ S.drop i := by
  have hl : (S.take i).length = i := by simp; omega
  rw [List.append_assoc, List.set_append_right _ _ (by omega), hl, Nat.sub_self, List.singleton_append, List.set_cons_zero]
  simp
theorem put_perm {S : List Acc} {a : Acc} {i : Nat} {l : List Acc} (h : S.Perm l) : (S.take i ++ [a] ++ S.drop i).Perm (l ++ [a]) := by
  refine (List.perm_append_comm (l₁ := S.take i) (l₂ := [a]) |>.append_right _).trans ?_
  rw [List.append_assoc, List.take_append_drop]
  exact (List.perm_append_comm).trans (h.append_right _)


set_option maxRecDepth 100000 in
set_option maxHeartbeats 8000000 in
theorem rmerge_any (A : Option Addr) (n c : Nat) (l : List Acc) (w : World) (hn : n = l.length) (hR : Rd w 3 A n (acl l)) (hl : l.length ≤ 1048576) :
    Calls Tryz.prog 14 #[.slice A n c] w fun e w' => ∃ A' c' r, e = .returned (.slice A' r.length c') ∧ Ext w w' ∧ Rd w' 3 A' r.length (acl r) ∧ CanT r ∧ (∀ t x, inT r t x = inT l t x) := by
  subst hn
  go_enter Tryz.func14, Tryz.ntmps14
  go_wp2
  go_loopw [3, 13] (fun v i wr => ∃ (k : Nat) (S : List Acc), i = .int .i64 k ∧ k ≤ l.length ∧ S.length ≤ k ∧ Hid (S.Perm ((l.take k).filter fun a => pvB a.2)) ∧ Hid (S.Pairwise leA) ∧ wr.ownsRow w.heap.size 32 3 v S.length (acl S) ∧ Ext w wr) (fun _ i _ => l.length - (intOf i).toNat)
  case atStart => exact ⟨0, [], rfl, Nat.zero_le _, Nat.le_refl _, Lib.hid (by simp), Lib.hid List.Pairwise.nil, World.ownsRow_nil _ _ _ _, Ext.refl' _⟩
  case round =>
    obtain ⟨k, S, rfl, hk, hSk, HP, HS, hrow, hE⟩ := hrel
    by_cases hlt : k < l.length
    · obtain ⟨b, o, rfl, hbw, e0, e1, e2⟩ := (hR.ext hE).acc rfl hlt
      have HT := Lib.hid (List.take_succ_eq_append_getElem hlt)
      generalize l[k] = a at e0 e1 e2 HT
      have HV := Lib.hid (fun w => cperiod_any a.2 w)
      rcases hv : pvB a.2 with _ | _
      · rw [hv] at HV
        have HP2 : Hid (S.Perm ((l.take (k + 1)).filter fun a => pvB a.2)) := Lib.hid (by rw [HT.out, List.filter_append]; simp [hv]; exact HP.out)
        clear hv HT
        go_wp2_with (go_at_call 26; refine Calls.mono (HV.out _) ?_; rintro e w1 ⟨rfl, hb1⟩; obtain ⟨y1, rfl⟩ := hb1.get; clear hb1)
        go_roundw
        case rel => exact ⟨k + 1, S, by go_num, by omega, by omega, HP2, HS, ownsRow_ext hrow (by repeat (first | exact Ext.refl' _ | assumption | apply Ext.ex' | apply Ext.al | apply Ext.drN | apply Ext.dr)), hE.tr (by repeat (first | exact Ext.refl' _ | assumption | apply Ext.ex' | apply Ext.al | apply Ext.drN | apply Ext.dr))⟩
        case measure => simp [intOf]; omega
      · rw [hv] at HV
        have HP2 : ∀ i, Hid ((S.take i ++ [a] ++ S.drop i).Perm ((l.take (k + 1)).filter fun a => pvB a.2)) := fun i => Lib.hid (by rw [HT.out, List.filter_append]; simp only [List.filter_cons, hv, if_true, List.filter_nil]; exact put_perm HP.out)
        clear hv HT
        obtain ⟨A3, c3, rfl, hc3⟩ := row_formG hrow
        have hbx : (Value.slice A3 S.length c3).ownBlock ≠ some wr.heap.size := fun e => by have := (row_block hrow e).2.1; omega
        go_wp2_with (first | (go_at_call 26; refine Calls.mono (HV.out _) ?_; rintro e w1 ⟨rfl, hb1⟩; obtain ⟨y1, rfl⟩ := hb1.get; clear hb1) | (at_builtin; refine wpList_app2 _ rfl (.tmp 23) (.tmp 25) rfl elAcc w (hE.tr (by repeat (first | exact Ext.refl' _ | assumption | apply Ext.ex' | apply Ext.al | apply Ext.drN | apply Ext.dr))) (.slice A3 S.length c3) S.length (acl S) rfl (World.ownsRow.alloc (by exact ownsRow_ext hrow (by repeat (first | exact Ext.refl' _ | assumption | apply Ext.ex' | apply Ext.al | apply Ext.drN | apply Ext.dr))) _) _ 1 1 (ac a) rfl (Rd.lit _ #[.string a.1, .int .i64 a.2.1, .int .i64 a.2.2] _ 1 3 rfl (by simp [size_ext])) (by have := oneCell_acl [a]; rwa [acl_one] at this) (by unfold maxLen; omega) (by omega) ?_; intro v' x' hown' hg' hblk'))
        have hE2 : Ext w (ext w x') := Ext.ex _ _
        obtain ⟨W2, hW2⟩ : ∃ W2, ext w x' = W2 := ⟨_, rfl⟩
        have hW0 : wr.heap.size < W2.heap.size := by rw [← hW2]; exact Nat.lt_of_lt_of_le (by simp [size_ext]; omega) hg'.size
        have z0 : W2.cell? ⟨wr.heap.size, 0, none⟩ = some (.string a.1) := by rw [← hW2]; exact gcell hg' (by simp [size_ext]; omega) hbx (by simp [go_sem, ↓IntWalk.iteOmega])
        have z1 : W2.cell? ⟨wr.heap.size, 1, none⟩ = some (.int .i64 a.2.1) := by rw [← hW2]; exact gcell hg' (by simp [size_ext]; omega) hbx (by simp [go_sem, ↓IntWalk.iteOmega])
        have z2 : W2.cell? ⟨wr.heap.size, 2, none⟩ = some (.int .i64 a.2.2) := by rw [← hW2]; exact gcell hg' (by simp [size_ext]; omega) hbx (by simp [go_sem, ↓IntWalk.iteOmega])
        obtain ⟨A4, c4, rfl, hc4⟩ := row_formG hown'
        have hrow2 : W2.ownsRow w.heap.size 32 3 (.slice A4 (S.length + 1) c4) (S.length + 1) (acl (S ++ [a])) := by rw [← hW2, acl_append, acl_one]; exact hown'
        obtain ⟨g, rfl, hgw⟩ : ∃ g, A4 = some ⟨g, 0, none⟩ ∧ w.heap.size ≤ g := by
          rcases hrow2.2 with ⟨h1, h2⟩ | ⟨g, cap, cur, h1, h2, _⟩
          · omega
          · simp only [Value.slice.injEq] at h1
            exact ⟨g, h1.1, h2⟩
        have hgbx : g ≠ wr.heap.size := fun e => by
          rcases hblk' g rfl with h1 | h1
          · exact hbx (by rw [h1, e])
          · simp [size_ext] at h1; omega
        rw [hW2] at hE2 ⊢
        have hsb := hE.size
        clear hW2 hown' hg' hblk' hbx hrow e0 e1 e2 hc3 hE
        generalize wr.heap.size = bx at z0 z1 z2 hgbx hW0 hsb ⊢
        go_loopw [6] (fun i wr2 => ∃ (j : Nat) (X : Acc), i = .int .i64 j ∧ j ≤ S.length ∧ wr2.ownsRow w.heap.size 32 3 (.slice (some ⟨g, 0, none⟩) (S.length + 1) c4) (S.length + 1) (acl (S.take j ++ [X] ++ S.drop j)) ∧ Ext w wr2 ∧ (bx < wr2.heap.size ∧ wr2.cell? ⟨bx, 0, none⟩ = some (.string a.1) ∧ wr2.cell? ⟨bx, 1, none⟩ = some (.int .i64 a.2.1) ∧ wr2.cell? ⟨bx, 2, none⟩ = some (.int .i64 a.2.2)) ∧ Hid (∀ b ∈ S.drop j, beF a b = true)) (fun i _ => (intOf i).toNat)
        case atStart => exact ⟨S.length, a, rfl, Nat.le_refl _, by simpa using hrow2, hE2, ⟨hW0, z0, z1, z2⟩, Lib.hid (by simp)⟩
        case round =>
          obtain ⟨j, X, rfl, hj, hrow, hE, ⟨hbs, z0, z1, z2⟩, HB⟩ := hrel
          have hlen : (S.take j ++ [X] ++ S.drop j).length = S.length + 1 := by simp; omega
          have hlen' : (S.take j ++ [a] ++ S.drop j).length = S.length + 1 := by simp; omega
          by_cases hj0 : 0 < j
          · have hjm : (j : Int) - 1 = ((j - 1 : Nat) : Int) := by omega
            have hRr := Rd.of_own hrow
            obtain ⟨b', o', hbo, hb'w, f0, f1, f2⟩ := hRr.acc hlen.symm (k := j - 1) (by omega)
            simp only [Option.some.injEq, Addr.mk.injEq, and_true] at hbo
            obtain ⟨rfl, rfl⟩ := hbo
            rw [shift_get hj0 hj, Nat.zero_add] at f0 f1 f2
            have HSH := Lib.hid (shift_set (X := X) hj0 hj)
            have HBF := Lib.hid (fun w => before46_any a (S[j - 1]'(by omega)) w)
            have HBC : Hid (beF a (S[j - 1]'(by omega)) = true → ∀ b ∈ S.drop (j - 1), beF a b = true) := Lib.hid (by
              intro h b hb
              rw [List.drop_eq_getElem_cons (by omega : j - 1 < S.length)] at hb
              rcases List.mem_cons.1 hb with rfl | hb
              · exact h
              · rw [show j - 1 + 1 = j by omega] at hb; exact HB.out b hb)
            have HBN : Hid (beF a (S[j - 1]'(by omega)) = false → (S.take j ++ [a] ++ S.drop j).Pairwise leA) := Lib.hid (fun h => put_sorted HS.out hj HB.out (fun _ => h))
            generalize hq : S[j - 1]'(by omega) = q at f0 f1 f2 HBF HBC HBN HSH
            rcases hbf : beF a q with _ | _
            · rw [hbf] at HBF
              have HN := Lib.hid (HBN.out hbf)
              clear hbf HBC HBN HSH hq
              go_wp2
              refine wp_region_ext (by kernel_rfl) (by kernel_rfl) ?_
              repeat (first | go_big_quiet_step ((go_at_call 33; exact Calls.ext_of (HBF.out _))) | quiet_step ((go_at_call 33; exact Calls.ext_of (HBF.out _))))
              refine wpQuiet_nil ?_
              intro _ hw'
              obtain ⟨xq, hw''⟩ := hw'
              subst hw''
              obtain ⟨W3, hW3⟩ : ∃ W3, ext wr xq = W3 := ⟨_, rfl⟩
              have hE3 : Ext wr W3 := by rw [← hW3]; exact Ext.ex _ _
              rw [hW3]
              have z0 := hE3.cell' z0
              have z1 := hE3.cell' z1
              have z2 := hE3.cell' z2
              have hbs3 := Nat.lt_of_lt_of_le hbs hE3.size
              have hg3s := Nat.lt_of_lt_of_le hb'w hE3.size
              obtain ⟨Wa, Wb, Wc, s1, s2, s3, hrow3, hg3, ⟨fz1, fz2, fz3⟩, u0, u1, u2, k0, k1, k2⟩ := set3 (ownsRow_ext hrow hE3) (i := j) (by omega) a
              rw [fin_set hj] at hrow3
              have hEw : Ext w Wc := Below.grown (hE.tr hE3) hg3 (hE.tr hE3).size (fun r hr => by cases hr; exact hgw)
              clear hW3 f0 f1 f2 hrow hRr
              go_wp2
              go_roundw
              case rel => exact ⟨k + 1, S.take j ++ [a] ++ S.drop j, by go_num, by omega, by rw [hlen']; omega, HP2 j, HN, by rw [hlen']; exact hrow3, hEw⟩
              case measure => simp [intOf]; omega
            · rw [hbf] at HBF
              have HC := Lib.hid (HBC.out hbf)
              clear hbf HBC HBN
              go_wp2
              refine wp_region_ext (by kernel_rfl) (by kernel_rfl) ?_
              repeat (first | go_big_quiet_step ((go_at_call 33; exact Calls.ext_of (HBF.out _))) | quiet_step ((go_at_call 33; exact Calls.ext_of (HBF.out _))))
              refine wpQuiet_nil ?_
              intro _ hw'
              obtain ⟨xq, hw''⟩ := hw'
              subst hw''
              obtain ⟨W3, hW3⟩ : ∃ W3, ext wr xq = W3 := ⟨_, rfl⟩
              have hE3 : Ext wr W3 := by rw [← hW3]; exact Ext.ex _ _
              rw [hW3]
              have z0 := hE3.cell' z0
              have z1 := hE3.cell' z1
              have z2 := hE3.cell' z2
              have f0 := hE3.cell' f0
              have f1 := hE3.cell' f1
              have f2 := hE3.cell' f2
              have hbs3 := Nat.lt_of_lt_of_le hbs hE3.size
              have hg3s := Nat.lt_of_lt_of_le hb'w hE3.size
              obtain ⟨Wa, Wb, Wc, s1, s2, s3, hrow3, hg3, ⟨fz1, fz2, fz3⟩, u0, u1, u2, k0, k1, k2⟩ := set3 (ownsRow_ext hrow hE3) (i := j) (by omega) q
              rw [HSH.out] at hrow3
              have hEw : Ext w Wc := Below.grown (hE.tr hE3) hg3 (hE.tr hE3).size (fun r hr => by cases hr; exact hgw)
              have hne : some g ≠ some bx := by simpa using hgbx
              have y0 := gcell hg3 hbs3 hne z0
              have y1 := gcell hg3 hbs3 hne z1
              have y2 := gcell hg3 hbs3 hne z2
              have hbs4 := Nat.lt_of_lt_of_le hbs3 hg3.size
              clear hW3 hrow hRr HSH
              go_wp2
              go_roundw
              case rel => exact ⟨j - 1, q, by go_num, by omega, hrow3, hEw, ⟨hbs4, y0, y1, y2⟩, HC⟩
              case measure => simp [intOf]; omega
          · have hj00 : j = 0 := by omega
            subst hj00
            have HN : Hid ((S.take 0 ++ [a] ++ S.drop 0).Pairwise leA) := Lib.hid (put_sorted HS.out (Nat.zero_le _) HB.out (fun h => absurd h (Nat.lt_irrefl _)))
            go_wp2
            refine wp_region_ext (by kernel_rfl) (by kernel_rfl) ?_
            repeat (first | go_big_quiet_step (fail) | quiet_step (fail))
            refine wpQuiet_nil ?_
            intro _ hw'
            obtain ⟨xq, hw''⟩ := hw'
            subst hw''
            obtain ⟨W3, hW3⟩ : ∃ W3, ext wr xq = W3 := ⟨_, rfl⟩
            have hE3 : Ext wr W3 := by rw [← hW3]; exact Ext.ex _ _
            rw [hW3]
            have z0 := hE3.cell' z0
            have z1 := hE3.cell' z1
            have z2 := hE3.cell' z2
            have hbs3 := Nat.lt_of_lt_of_le hbs hE3.size
            obtain ⟨Wa, Wb, Wc, s1, s2, s3, hrow3, hg3, ⟨fz1, fz2, fz3⟩, u0, u1, u2, k0, k1, k2⟩ := set3 (ownsRow_ext hrow hE3) (i := 0) (by omega) a
            rw [fin_set (Nat.zero_le _)] at hrow3
            have hEw : Ext w Wc := Below.grown (hE.tr hE3) hg3 (hE.tr hE3).size (fun r hr => by cases hr; exact hgw)
            clear hW3 hrow
            go_wp2
            go_roundw
            case rel => exact ⟨k + 1, S.take 0 ++ [a] ++ S.drop 0, by go_num, by omega, by simp; omega, HP2 0, HN, by simpa using hrow3, hEw⟩
            case measure => simp [intOf]; omega
    · have hkl : k = l.length := by omega
      subst hkl
      have HPl : Hid (S.Perm (l.filter fun a => pvB a.2)) := Lib.hid (by have := HP.out; rwa [List.take_length] at this)
      have HFN : Hid (∀ r, r = S.foldl mstep [] → CanT r ∧ ∀ t x, inT r t x = inT l t x) := Lib.hid (by
        rintro r rfl
        obtain ⟨h1, h2⟩ := merge_ok HS.out fun a ha => by have := (HPl.out.mem_iff.1 ha); simpa using (List.mem_filter.1 this).2
        exact ⟨h1, fun t x => by rw [h2, inT_perm HPl.out, inT_valid]⟩)
      clear HP HS HPl
      obtain ⟨A3, c3, rfl, hc3⟩ := row_formG hrow
      have hRS := Rd.of_own hrow
      clear hrow hlt hR
      obtain ⟨W3, hW3⟩ : ∃ W3, W3 = wr := ⟨_, rfl⟩
      subst hW3
      go_wp2
      go_loopw [7, 55] (fun v i wr2 => ∃ (k : Nat) (out : List Acc), i = .int .i64 k ∧ k ≤ S.length ∧ out.length ≤ k ∧ Hid (out = (S.take k).foldl mstep []) ∧ wr2.ownsRow W3.heap.size 32 3 v out.length (acl out) ∧ Ext W3 wr2) (fun _ i _ => S.length - (intOf i).toNat)
      case atStart => exact ⟨0, [], rfl, Nat.zero_le _, Nat.le_refl _, Lib.hid rfl, World.ownsRow_nil _ _ _ _, Ext.refl' _⟩
      case round =>
        obtain ⟨k, out, rfl, hk, hok, HF, hrow, hE3⟩ := hrel
        by_cases hlt : k < S.length
        · obtain ⟨b', o', rfl, hbw, e0, e1, e2⟩ := (hRS.ext hE3).acc rfl hlt
          have HT : Hid ((S.take (k + 1)).foldl mstep [] = mstep out S[k]) := Lib.hid (by rw [List.take_succ_eq_append_getElem hlt, List.foldl_append, ← HF.out]; rfl)
          generalize S[k] = a at e0 e1 e2 HT
          obtain ⟨A5, c5, rfl, hc5⟩ := row_formG hrow
          rcases List.eq_nil_or_concat out with rfl | ⟨o2, q, rfl⟩
          · have HM : Hid ([a] = (S.take (k + 1)).foldl mstep []) := Lib.hid (by rw [HT.out]; rfl)
            clear HT HF
            go_wp2
            refine wp_region_ext (by kernel_rfl) (by kernel_rfl) ?_
            repeat (first | go_big_quiet_step (fail) | quiet_step (fail))
            refine wpQuiet_nil ?_
            intro _ hw'
            obtain ⟨xq, hw''⟩ := hw'
            subst hw''
            go_wp2_with (at_builtin; refine wpList_app _ rfl (.tmp 104) (.tmp 106) rfl elAcc W3 (hE3.tr (by repeat (first | exact Ext.refl' _ | assumption | apply Ext.ex' | apply Ext.al | apply Ext.drN | apply Ext.dr))) (.slice A5 0 c5) 0 [] rfl (World.ownsRow.alloc (by exact ownsRow_ext hrow (by repeat (first | exact Ext.refl' _ | assumption | apply Ext.ex' | apply Ext.al | apply Ext.drN | apply Ext.dr))) _) _ 1 1 (ac a) rfl (Rd.lit _ #[.string a.1, .int .i64 a.2.1, .int .i64 a.2.2] _ 1 3 rfl (by simp [size_ext])) (by have := oneCell_acl [a]; rwa [acl_one] at this) (by unfold maxLen; omega) (by omega) ?_; intro v' x' hown' _)
            go_roundw
            case rel => exact ⟨k + 1, [a], by go_num, by omega, by simp, HM, by rw [acl_one]; exact hown', Ext.ex _ _⟩
            case measure => simp [intOf]; omega
          · rw [List.concat_eq_append] at *
            have hln : (o2 ++ [q]).length = o2.length + 1 := by simp
            simp only [hln] at hrow hok ⊢
            have hRo := Rd.of_own hrow
            obtain ⟨g5, o6, hA5, hg5, f0, f1, f2⟩ := hRo.acc hln.symm (k := o2.length) (by simp)
            subst hA5
            have ho6 : o6 = 0 := by
              rcases hrow.2 with ⟨h1, _⟩ | ⟨g, cap, cur, h1, _⟩
              · simp at h1
              · simp only [Value.slice.injEq, Option.some.injEq, Addr.mk.injEq] at h1; exact h1.1.2.1
            subst ho6
            have hg5w : W3.heap.size ≤ g5 := (row_block hrow (r := g5) rfl).1
            rw [Nat.zero_add, List.getElem_append_right (Nat.le_refl _)] at f0 f1 f2
            simp only [Nat.sub_self, List.getElem_singleton] at f0 f1 f2
            have HEQ := bl_tb q a
            by_cases h1 : tb q = tb a
            · rw [decide_eq_true h1] at HEQ
              by_cases h2 : a.2.1 ≤ q.2.2
              · have HM : Hid (o2 ++ [(q.1, (q.2.1, max q.2.2 a.2.2))] = (S.take (k + 1)).foldl mstep []) := Lib.hid (by rw [HT.out, mstep_yes ⟨h1, h2⟩])
                clear HT HF h1
                go_wp2
                refine wp_region_ext (by kernel_rfl) (by kernel_rfl) ?_
                repeat (first | go_big_quiet_step (fail) | quiet_step (fail))
                refine wpQuiet_nil ?_
                intro _ hw'
                obtain ⟨xq, hw''⟩ := hw'
                subst hw''
                go_wp2
                obtain ⟨W4, hW4⟩ : ∃ W4, (ext (wr.alloc (.cells #[.string a.1, .int .i64 a.2.1, .int .i64 a.2.2] 32)) xq).drew = W4 := ⟨_, rfl⟩
                have hE4 : Ext wr W4 := by rw [← hW4]; exact (by repeat (first | exact Ext.refl' _ | assumption | apply Ext.ex' | apply Ext.al | apply Ext.drN | apply Ext.dr))
                have z2 : W4.cell? ⟨wr.heap.size, 2, none⟩ = some (.int .i64 a.2.2) := by rw [← hW4]; simp [go_sem, ↓IntWalk.iteOmega]
                have hbs4 : wr.heap.size < W4.heap.size := by rw [← hW4]; simp [size_ext]; omega
                have f2 := hE4.cell' f2
                have hg54 := Nat.lt_of_lt_of_le hg5 hE4.size
                refine region_tail 17 (by kernel_rfl) (by kernel_rfl) W4 hW4 ?_
                obtain ⟨s1, s2⟩ := (ownsRow_ext hrow hE4).stored (o2.length * 3 + 2) (.int .i64 (max q.2.2 a.2.2))
                have fz := (ownsRow_ext hrow hE4).frozenAt (o2.length * 3 + 2)
                obtain ⟨W5, hW5⟩ : ∃ W5, W4.setCell ⟨g5, o2.length * 3 + 2, none⟩ (.int .i64 (max q.2.2 a.2.2)) = W5 := ⟨_, rfl⟩
                rw [hW5] at s1 s2
                have hEw : Ext W3 W5 := Below.grown (hE3.tr hE4) s2 (hE3.tr hE4).size (fun r hr => by cases hr; exact hg5w)
                have hw3 : (0 : Int) ≤ o2.length := by omega
                have hwr : IntKind.i64.wrap (o2.length : Int) = (o2.length : Int) := IntWalk.i64_in _ (by omega)
                have hw4 : (o2.length : Int) < o2.length + 1 := by omega
                clear hW4 hrow hRo f0 f1 e0 e1 e2 hE4
                simp only [List.take_succ_cons, List.take_zero, List.drop_succ_cons, List.drop_zero]
                repeat still_step
                refine wpStill_nil ?_
                go_wp2
                go_roundw
                case rel => exact ⟨k + 1, _, by go_num, by omega, by simp; omega, HM, by simpa [acl_last2] using s1, hEw.tr (by repeat (first | exact Ext.refl' _ | assumption | apply Ext.ex' | apply Ext.al | apply Ext.drN | apply Ext.dr))⟩
                case measure => simp [intOf]; omega
              · have HM : Hid (o2 ++ [q] ++ [a] = (S.take (k + 1)).foldl mstep []) := Lib.hid (by rw [HT.out, mstep_no (fun h => h2 h.2)])
                clear HT HF h1
                go_wp2
                refine wp_region_ext (by kernel_rfl) (by kernel_rfl) ?_
                repeat (first | go_big_quiet_step (fail) | quiet_step (fail))
                refine wpQuiet_nil ?_
                intro _ hw'
                obtain ⟨xq, hw''⟩ := hw'
                subst hw''
                go_wp2_with (at_builtin; refine wpList_app _ rfl (.tmp 104) (.tmp 106) rfl elAcc W3 (hE3.tr (by repeat (first | exact Ext.refl' _ | assumption | apply Ext.ex' | apply Ext.al | apply Ext.drN | apply Ext.dr))) (.slice (some ⟨g5, 0, none⟩) (o2.length + 1) c5) (o2.length + 1) (acl (o2 ++ [q])) rfl (World.ownsRow.alloc (by exact ownsRow_ext hrow (by repeat (first | exact Ext.refl' _ | assumption | apply Ext.ex' | apply Ext.al | apply Ext.drN | apply Ext.dr))) _) _ 1 1 (ac a) rfl (Rd.lit _ #[.string a.1, .int .i64 a.2.1, .int .i64 a.2.2] _ 1 3 rfl (by simp [size_ext])) (by have := oneCell_acl [a]; rwa [acl_one] at this) (by unfold maxLen; omega) (by omega) ?_; intro v' x' hown' _)
                go_roundw
                case rel => exact ⟨k + 1, o2 ++ [q] ++ [a], by go_num, by omega, by simp; omega, HM, by rw [show (o2 ++ [q] ++ [a]).length = o2.length + 1 + 1 by simp, acl_append (o2 ++ [q]), acl_one]; exact hown', Ext.ex _ _⟩
                case measure => simp [intOf]; omega
            · rw [decide_eq_false h1] at HEQ
              have HEQ2 : ¬ q.1.toList = a.1.toList := by simpa using HEQ
              have HM : Hid (o2 ++ [q] ++ [a] = (S.take (k + 1)).foldl mstep []) := Lib.hid (by rw [HT.out, mstep_no (fun h => h1 h.1)])
              clear HT HF h1
              go_wp2
              refine wp_region_ext (by kernel_rfl) (by kernel_rfl) ?_
              repeat (first | go_big_quiet_step (fail) | quiet_step (fail))
              refine wpQuiet_nil ?_
              intro _ hw'
              obtain ⟨xq, hw''⟩ := hw'
              subst hw''
              go_wp2_with (at_builtin; refine wpList_app _ rfl (.tmp 104) (.tmp 106) rfl elAcc W3 (hE3.tr (by repeat (first | exact Ext.refl' _ | assumption | apply Ext.ex' | apply Ext.al | apply Ext.drN | apply Ext.dr))) (.slice (some ⟨g5, 0, none⟩) (o2.length + 1) c5) (o2.length + 1) (acl (o2 ++ [q])) rfl (World.ownsRow.alloc (by exact ownsRow_ext hrow (by repeat (first | exact Ext.refl' _ | assumption | apply Ext.ex' | apply Ext.al | apply Ext.drN | apply Ext.dr))) _) _ 1 1 (ac a) rfl (Rd.lit _ #[.string a.1, .int .i64 a.2.1, .int .i64 a.2.2] _ 1 3 rfl (by simp [size_ext])) (by have := oneCell_acl [a]; rwa [acl_one] at this) (by unfold maxLen; omega) (by omega) ?_; intro v' x' hown' _)
              go_roundw
              case rel => exact ⟨k + 1, o2 ++ [q] ++ [a], by go_num, by omega, by simp; omega, HM, by rw [show (o2 ++ [q] ++ [a]).length = o2.length + 1 + 1 by simp, acl_append (o2 ++ [q]), acl_one]; exact hown', Ext.ex _ _⟩
              case measure => simp [intOf]; omega
        · have hkl : k = S.length := by omega
          subst hkl
          rw [List.take_length] at HF
          obtain ⟨h1, h2⟩ := HFN.out out HF.out
          obtain ⟨A5, c5, rfl, hc5⟩ := row_formG hrow
          have hRo := Rd.of_own hrow
          clear HF HFN hrow
          go_wp2
          go_ret
          exact ⟨A5, c5, out, rfl, hE.tr hE3, hRo, h1, h2⟩

end Go.Proofs.YtpifjhoelnacgaaGreat
