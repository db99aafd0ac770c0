/- The last pair of a subtree; plain laws of trees. -/
import Derived.Test.YtdmbgimehepfaaaBtO2
import Derived.Deep.RegionHeld3
import Derived.Deep.LoopGhost
set_option linter.unusedSimpArgs false
set_option linter.unusedVariables false
namespace Go.Proofs.Ytdmbgimehepfaaa
open Go.RowKit


theorem inter_last : ∀ {ps : List MP} {ks : List (List MP)} {k : List MP}, ks.length = ps.length + 1 → ks.getLast? = some k → k ≠ [] → (inter ps ks).getLast? = k.getLast?
  | [], [k0], k, _, h, hk => by
    simp at h
    subst h
    cases k0 with
    | nil => exact absurd rfl hk
    | cons a l => rfl
  | [], [], _, h, _, _ => by simp at h
  | [], _ :: _ :: _, _, h, _, _ => by simp at h
  | _ :: _, [], _, h, _, _ => by simp at h
  | p :: ps, k0 :: ks, k, h, hl, hk => by
    have hks : ks.length = ps.length + 1 := by simpa using h
    have hne : ks ≠ [] := by intro e; rw [e] at hks; simp at hks
    have hl2 : ks.getLast? = some k := by
      rw [← hl]
      cases ks with
      | nil => exact absurd rfl hne
      | cons a l => rfl
    have ih := inter_last hks hl2 hk
    show (k0 ++ p :: inter ps ks).getLast? = _
    have hi : inter ps ks ≠ [] := by
      intro e
      rw [e] at ih
      have := List.getLast?_eq_none_iff.1 ih.symm
      exact hk this
    rw [List.getLast?_append, List.getLast?_cons]
    cases hi2 : (inter ps ks).getLast? with
    | none => exact absurd (List.getLast?_eq_none_iff.1 hi2) hi
    | some x => rw [hi2] at ih; rw [← ih]; simp
theorem flat_ne {m : Nat} (h2 : 1 ≤ m / 2) : ∀ {d lo hi : Nat} {t : MT}, Wf m d lo hi t → 1 ≤ lo → flat d t ≠ []
  | 0, lo, hi, t, h, hl => by
    intro e
    have := h.2.1
    rw [show t.ps = [] from e] at this
    simp at this
    omega
  | d + 1, lo, hi, t, h, hl => by
    obtain ⟨h1, h3, _, h4⟩ := h
    show inter t.ps (t.ks.map (flat d)) ≠ []
    cases hp : t.ps with
    | nil => rw [hp] at h3; simp at h3; omega
    | cons p ps =>
      cases hk : t.ks with
      | nil => rw [hk, hp] at h1; simp at h1
      | cons k ks =>
        simp [inter]
theorem flat_last {m : Nat} (h2 : 1 ≤ m / 2) {d lo hi : Nat} {t k : MT} (h : Wf m (d + 1) lo hi t) (hk : t.ks.getLast? = some k) : (flat (d + 1) t).getLast? = (flat d k).getLast? :=
  inter_last (by simpa using h.1) (by rw [List.getLast?_map, hk]; rfl) (flat_ne h2 (h.2.2.2 k (List.mem_of_getLast? hk)) h2)
set_option maxRecDepth 100000 in
set_option maxHeartbeats 8000000 in
theorem last_any (base m d lo hi : Nat) (t : MT) (w : World) (h2 : 1 ≤ m / 2) (hm : m ≤ 64) (hG : Good base w d t) (hW : Wf m d lo hi t) (hlo : 1 ≤ lo) (hhi : hi ≤ 65) :
    Calls Try.prog 54 #[pt t.r] w fun e w' => ∃ q, (flat d t).getLast? = some q ∧ e = .returned (pv q) ∧ Ext w w' := by
  go_enter Try.func54, Try.ntmps54
  go_wp2
  have hE0 : Ext w (w.alloc (.cells #[.slice none 0 0, .int .i64 0] TP)) := (by repeat (first | exact Ext.refl' _ | assumption | apply Ext.ex' | apply Ext.al | apply Ext.drN | apply Ext.dr))
  have hbs : w.heap.size < (w.alloc (.cells #[.slice none 0 0, .int .i64 0] TP)).heap.size := by simp
  have zz := two_cells (heap_alloc_new w (.cells #[.slice none 0 0, .int .i64 0] TP))
  generalize w.alloc (.cells #[.slice none 0 0, .int .i64 0] TP) = Wb at hE0 hbs zz ⊢
  generalize hbx : w.heap.size = bx at hbs zz ⊢
  obtain ⟨_, z0, z1, zf0, zf1⟩ := zz
  go_loopg [0] d (fun g s wr => ∃ (t' : MT) (lo' hi' : Nat), s = pt t'.r ∧ Hid (Good base Wb g t') ∧ Hid (Wf m g lo' hi' t') ∧ 1 ≤ lo' ∧ hi' ≤ 65 ∧ Hid ((flat g t').getLast? = (flat d t).getLast?) ∧ Ext Wb wr)
  case atStart => exact ⟨t, lo, hi, rfl, Lib.hid (hG.ext hE0), Lib.hid hW, hlo, hhi, Lib.hid rfl, Ext.refl' _⟩
  case round =>
    obtain ⟨t', lo', hi', rfl, HG, HW, hlo', hhi', HF, hE⟩ := hrel
    have hnode := (HG.out.ext hE).node
    have HE := Lib.hid hE
    cases gk with
    | zero =>
      obtain ⟨e0, e1, e2⟩ := HW.out
      obtain ⟨pb, c, hvp, hc, _⟩ := own_ne0 hnode.op (by omega)
      obtain ⟨A2, da, hak, _, _, _⟩ := own_form2 hnode.ok
      obtain ⟨n, hn⟩ : ∃ n, t'.ps.length = n + 1 := ⟨t'.ps.length - 1, by omega⟩
      obtain ⟨q, hq⟩ : ∃ q, t'.ps[n]? = some q := ⟨_, List.getElem?_eq_getElem (by omega)⟩
      have HQ : Hid ((flat d t).getLast? = some q) := Lib.hid (by rw [← HF.out]; show t'.ps.getLast? = _; rw [List.getLast?_eq_getElem?, hn]; simpa using hq)
      have hop := hnode.op
      rw [hvp, hn] at hop
      obtain ⟨hpb, q0, q1⟩ := ownP_at hop hq
      have hp := hnode.hp
      rw [hvp, hak, e0, hn] at hp
      obtain ⟨rt, t0, t1, ft0, ft1⟩ := two_cells hp
      have z0 := hE.cell' z0
      have z1 := hE.cell' z1
      have zf0 := (bcell hE).2.1 bx 0 hbs ▸ zf0
      have zf1 := (bcell hE).2.1 bx 1 hbs ▸ zf1
      have hbs := Nat.lt_of_lt_of_le hbs hE.size
      have hnn : (n : Int) < (n : Int) + 1 := by omega
      have hwn : IntKind.i64.wrap (n : Int) = (n : Int) := IntWalk.i64_in _ (by omega)
      clear hnode hop hp hvp hak hq e0 hn hc e1 e2
      go_wp2
      refine wp_region_T 12 (S := (fun w' => w'.cell? ⟨t'.r, 0, none⟩ = some (.slice (some ⟨pb, 0, none⟩) (n + 1) c) ∧ w'.cell? ⟨pb, n * 2, none⟩ = some (.slice q.A q.n q.c) ∧ w'.cell? ⟨pb, n * 2 + 1, none⟩ = some (.int .i64 q.id))) (by kernel_rfl) (by simp [go_sem, ↓IntWalk.iteOmega, *]) (fun hHeld => ?_)
      refine wpAnyT_take (i := 0) (oi := ?oi1) (v := ?v1) ?hi1 (by kernel_rfl) (by kernel_rfl) (by kernel_rfl) (by kernel_rfl) (by kernel_rfl) ?hQ1 ?hy1 (by assumption) ?_
      case hi1 => (simp only [List.getElem?_toArray, List.getElem?_cons_succ, List.getElem?_cons_zero]; try rfl)
      case hQ1 => exact fun _ _ _ h => h
      case hy1 => (refine Or.inl ⟨by rfl, ?_⟩; intro wq hSw; (try dsimp only at hSw); go_simp; (try with_reducible rfl))
      (try simp only [Act.put, List.setIfInBounds_toArray, List.set_cons_zero, List.set_cons_succ])
      refine wpAnyT_take (i := 1) (oi := ?oi2) (v := ?v2) ?hi2 (by kernel_rfl) (by kernel_rfl) (by kernel_rfl) (by kernel_rfl) (by kernel_rfl) ?hQ2 ?hy2 (by assumption) ?_
      case hi2 => (simp only [List.getElem?_toArray, List.getElem?_cons_succ, List.getElem?_cons_zero]; try rfl)
      case hQ2 => exact fun _ _ _ h => h
      case hy2 => (refine Or.inl ⟨by rfl, ?_⟩; intro wq hSw; (try dsimp only at hSw); go_simp; (try with_reducible rfl))
      (try simp only [Act.put, List.setIfInBounds_toArray, List.set_cons_zero, List.set_cons_succ])
      refine wpAnyT_take (i := 2) (oi := ?oi3) (v := ?v3) ?hi3 (by kernel_rfl) (by kernel_rfl) (by kernel_rfl) (by kernel_rfl) (by kernel_rfl) ?hQ3 ?hy3 (by assumption) ?_
      case hi3 => (simp only [List.getElem?_toArray, List.getElem?_cons_succ, List.getElem?_cons_zero]; try rfl)
      case hQ3 => exact fun _ _ _ h => h
      case hy3 => (refine Or.inl ⟨by rfl, ?_⟩; intro wq hSw; (try dsimp only at hSw); go_simp; (try with_reducible rfl))
      (try simp only [Act.put, List.setIfInBounds_toArray, List.set_cons_zero, List.set_cons_succ])
      refine wpAnyT_take (i := 3) (oi := ?oi4) (v := ?v4) ?hi4 (by kernel_rfl) (by kernel_rfl) (by kernel_rfl) (by kernel_rfl) (by kernel_rfl) ?hQ4 ?hy4 (by assumption) ?_
      case hi4 => (simp only [List.getElem?_toArray, List.getElem?_cons_succ, List.getElem?_cons_zero]; try rfl)
      case hQ4 => exact fun _ _ _ h => h
      case hy4 => (refine Or.inl ⟨by rfl, ?_⟩; intro wq hSw; (try dsimp only at hSw); go_simp; (try with_reducible rfl))
      (try simp only [Act.put, List.setIfInBounds_toArray, List.set_cons_zero, List.set_cons_succ])
      refine wpAnyT_take (i := 4) (oi := ?oi5) (v := ?v5) ?hi5 (by kernel_rfl) (by kernel_rfl) (by kernel_rfl) (by kernel_rfl) (by kernel_rfl) ?hQ5 ?hy5 (by assumption) ?_
      case hi5 => (simp only [List.getElem?_toArray, List.getElem?_cons_succ, List.getElem?_cons_zero]; try rfl)
      case hQ5 => exact fun _ _ _ h => h
      case hy5 => (refine Or.inl ⟨by rfl, ?_⟩; intro wq hSw; (try dsimp only at hSw); go_simp; (try with_reducible rfl))
      (try simp only [Act.put, List.setIfInBounds_toArray, List.set_cons_zero, List.set_cons_succ])
      refine wpAnyT_take (i := 5) (oi := ?oi6) (v := ?v6) ?hi6 (by kernel_rfl) (by kernel_rfl) (by kernel_rfl) (by kernel_rfl) (by kernel_rfl) ?hQ6 ?hy6 (by assumption) ?_
      case hi6 => (simp only [List.getElem?_toArray, List.getElem?_cons_succ, List.getElem?_cons_zero]; try rfl)
      case hQ6 => exact fun _ _ _ h => h
      case hy6 => (refine Or.inl ⟨by rfl, ?_⟩; intro wq hSw; (try dsimp only at hSw); go_simp; (try with_reducible rfl))
      (try simp only [Act.put, List.setIfInBounds_toArray, List.set_cons_zero, List.set_cons_succ])
      refine wpAnyT_take (i := 6) (oi := ?oi7) (v := ?v7) ?hi7 (by kernel_rfl) (by kernel_rfl) (by kernel_rfl) (by kernel_rfl) (by kernel_rfl) ?hQ7 ?hy7 (by assumption) ?_
      case hi7 => (simp only [List.getElem?_toArray, List.getElem?_cons_succ, List.getElem?_cons_zero]; try rfl)
      case hQ7 => exact fun _ _ _ h => h
      case hy7 => (refine Or.inl ⟨by rfl, ?_⟩; intro wq hSw; (try dsimp only at hSw); go_simp; (try with_reducible rfl))
      (try simp only [Act.put, List.setIfInBounds_toArray, List.set_cons_zero, List.set_cons_succ])
      refine wpAnyT_take (i := 7) (oi := ?oi8) (v := ?v8) ?hi8 (by kernel_rfl) (by kernel_rfl) (by kernel_rfl) (by kernel_rfl) (by kernel_rfl) ?hQ8 ?hy8 (by assumption) ?_
      case hi8 => (simp only [List.getElem?_toArray, List.getElem?_cons_succ, List.getElem?_cons_zero]; try rfl)
      case hQ8 => exact fun _ _ _ h => h
      case hy8 => (refine Or.inl ⟨by rfl, ?_⟩; intro wq hSw; (try dsimp only at hSw); go_simp; (try with_reducible rfl))
      (try simp only [Act.put, List.setIfInBounds_toArray, List.set_cons_zero, List.set_cons_succ])
      refine wpAnyT_take (i := 8) (oi := ?oi9) (v := ?v9) ?hi9 (by kernel_rfl) (by kernel_rfl) (by kernel_rfl) (by kernel_rfl) (by kernel_rfl) ?hQ9 ?hy9 (by assumption) ?_
      case hi9 => (simp only [List.getElem?_toArray, List.getElem?_cons_succ, List.getElem?_cons_zero]; try rfl)
      case hQ9 => exact fun _ _ _ h => h
      case hy9 => (refine Or.inl ⟨by rfl, ?_⟩; intro wq hSw; (try dsimp only at hSw); go_simp; (try with_reducible rfl))
      (try simp only [Act.put, List.setIfInBounds_toArray, List.set_cons_zero, List.set_cons_succ])
      refine wpAnyT_take (i := 9) (oi := ?oi10) (v := ?v10) ?hi10 (by kernel_rfl) (by kernel_rfl) (by kernel_rfl) (by kernel_rfl) (by kernel_rfl) ?hQ10 ?hy10 (by assumption) ?_
      case hi10 => (simp only [List.getElem?_toArray, List.getElem?_cons_succ, List.getElem?_cons_zero]; try rfl)
      case hQ10 => exact fun _ _ _ h => h
      case hy10 => (refine Or.inl ⟨by rfl, ?_⟩; intro wq hSw; (try dsimp only at hSw); go_simp; (try with_reducible rfl))
      (try simp only [Act.put, List.setIfInBounds_toArray, List.set_cons_zero, List.set_cons_succ])
      refine wpAnyT_take (i := 10) (oi := ?oi11) (v := ?v11) ?hi11 (by kernel_rfl) (by kernel_rfl) (by kernel_rfl) (by kernel_rfl) (by kernel_rfl) ?hQ11 ?hy11 (by assumption) ?_
      case hi11 => (simp only [List.getElem?_toArray, List.getElem?_cons_succ, List.getElem?_cons_zero]; try rfl)
      case hQ11 => exact fun _ _ _ h => h
      case hy11 => (refine Or.inl ⟨by rfl, ?_⟩; intro wq hSw; (try dsimp only at hSw); go_simp; (try with_reducible rfl))
      (try simp only [Act.put, List.setIfInBounds_toArray, List.set_cons_zero, List.set_cons_succ])
      refine wpAnyT_take (i := 11) (oi := ?oi12) (v := ?v12) ?hi12 (by kernel_rfl) (by kernel_rfl) (by kernel_rfl) (by kernel_rfl) (by kernel_rfl) ?hQ12 ?hy12 (by assumption) ?_
      case hi12 => (simp only [List.getElem?_toArray, List.getElem?_cons_succ, List.getElem?_cons_zero]; try rfl)
      case hQ12 => exact fun _ _ _ h => h
      case hy12 => (refine Or.inl ⟨by rfl, ?_⟩; intro wq hSw; (try dsimp only at hSw); go_simp; (try with_reducible rfl))
      (try simp only [Act.put, List.setIfInBounds_toArray, List.set_cons_zero, List.set_cons_succ])
      refine wpAnyT_ready (rs := [12]) (by kernel_rfl) (by simp) ?_
      refine AllReadyT.last (o := ?oi13) ?hi13 ?ti13
      case hi13 => (simp only [List.getElem?_toArray, List.getElem?_cons_succ, List.getElem?_cons_zero]; try rfl)
      case ti13 =>
        intro KQ hKQ
        go_simp
        refine hKQ.out _ _ ?_
        clear hKQ KQ hHeld
        (try simp only [Act.put, List.setIfInBounds_toArray, List.set_cons_zero, List.set_cons_succ])
        refine wpAnyT_done (by kernel_rfl) ?_ _
        go_wp2
        refine bodyPost_ret (v := pv q) ?_ rfl ?_
        · simp [results, Try.results54, go_sem, ↓IntWalk.iteOmega, *]
        exact ⟨q, HQ.out, rfl, Ext.dr (((hE0.tr HE.out).st (p := ⟨bx, 0, none⟩) (Nat.le_of_eq hbx) _).st (p := ⟨bx, 1, none⟩) (Nat.le_of_eq hbx) _)⟩
    | succ g =>
      obtain ⟨e1, e2, e3, e4⟩ := HW.out
      obtain ⟨pb, c, hvk, hc, _⟩ := own_ne0 hnode.ok (by omega)
      obtain ⟨n, hn⟩ : ∃ n, t'.ks.length = n + 1 := ⟨t'.ps.length, by omega⟩
      obtain ⟨k, hk⟩ : ∃ k, t'.ks[n]? = some k := ⟨_, List.getElem?_eq_getElem (by omega)⟩
      have hkl : t'.ks.getLast? = some k := by rw [List.getLast?_eq_getElem?, hn]; simpa using hk
      have hkm := List.mem_of_getLast? hkl
      have HF2 : Hid ((flat g k).getLast? = (flat d t).getLast?) := Lib.hid (by rw [← HF.out, flat_last h2 HW.out hkl])
      have HGk : Hid (Good base Wb g k) := Lib.hid (HG.out.2 k hkm)
      have HWk : Hid (Wf m g (m / 2) m k) := Lib.hid (e4 k hkm)
      have hop := hnode.ok
      rw [hvk, hn] at hop
      obtain ⟨hpb, k0⟩ := ownQ_at hop hk
      have hp := hnode.hp
      rw [hvk, hn] at hp
      obtain ⟨rt, t0, t1, ft0, ft1⟩ := two_cells hp
      have hnn : (n : Int) < (n : Int) + 1 := by omega
      have hwn : IntKind.i64.wrap (n : Int) = (n : Int) := IntWalk.i64_in _ (by omega)
      have hn0 : 0 ≤ (n : Int) := by omega
      clear hnode hop hp hvk hk hn hc e1 e2 e3 e4 hkl hkm
      go_wp2
      go_quiet (fail)
      go_wp2
      go_roundg g
      case rel => exact ⟨k, m / 2, m, rfl, HGk, HWk, h2, by omega, HF2, HE.out.tr (by repeat (first | exact Ext.refl' _ | assumption | apply Ext.ex' | apply Ext.al | apply Ext.drN | apply Ext.dr))⟩
      case measure => omega

end Go.Proofs.Ytdmbgimehepfaaa
