/- Changed of package conflict. -/
import Derived.Test.YtpifjhoelnacgaaGreatCfE
import Derived.Deep.RegionHeld3
set_option linter.unusedSimpArgs false
set_option linter.unusedVariables false
namespace Go.Proofs.YtpifjhoelnacgaaGreat
open Go.RowKit


def vldB (p : VR) : Bool := pvB p.1.v && pvB p.1.s
def befF (l : List VR) (since : Int) : List VR := l.filter fun p => vldB p && inP p.1.s since
def nowF (l : List VR) : List VR := l.filter fun p => vldB p && (p.1.s.2 == 1099511627776)
def bndV (l : List VR) (since : Int) : List (Int × Int) := (l.filter fun p => vldB p && (inP p.1.s since != (p.1.s.2 == 1099511627776))).map (·.1.v)
/-- the slices in which the belief differs, as regions -/
def chgL (t : ByteArray) (l : List VR) (since : Int) : List Acc := ((slcF (bndV l since)).filter fun p => difB (atF (befF l since) p.1) (atF (nowF l) p.1)).map fun p => (t, p)
theorem filter_drop {α : Type} (f : α → Bool) {l : List α} {k : Nat} (h : k < l.length) : (l.drop k).filter f = (if f l[k] then [l[k]] else []) ++ (l.drop (k + 1)).filter f := by
  rw [List.drop_eq_getElem_cons h, List.filter_cons]; split <;> simp
theorem type_apart {w : World} {b b' e e' s s' n n' : Nat} {v v' : Value} {xs ys : List Value} (h : w.ownsRow b e s v n xs) (h' : w.ownsRow b' e' s' v' n' ys) (hne : e ≠ e') : v.ownBlock = none ∨ v.ownBlock ≠ v'.ownBlock := by
  cases hv : v.ownBlock with
  | none => exact .inl rfl
  | some g =>
    refine .inr fun e0 => ?_
    obtain ⟨_, _, c, f, h1⟩ := row_block h hv
    obtain ⟨_, _, c', f', h2⟩ := row_block h' e0.symm
    rw [h1] at h2
    simp at h2
    exact hne h2.2.1
theorem apart_of {v v' : Value} (h : ∀ g, v.ownBlock = some g → v'.ownBlock ≠ some g) : v'.ownBlock = none ∨ v'.ownBlock ≠ v.ownBlock := by
  cases hv : v'.ownBlock with
  | none => exact .inl rfl
  | some g => exact .inr fun e => h g e.symm hv
/-- the row of one version, appended to -/
theorem apart_new {v v' u : Value} {n : Nat} {w : World} {b e s m : Nat} {xs : List Value} (h : ∀ g, v.ownBlock = some g → u.ownBlock ≠ some g) (hu : w.ownsRow b e s u m xs) (hn : w.heap.size ≤ n) (k : ∀ g, v'.ownBlock = some g → v.ownBlock = some g ∨ n ≤ g) : ∀ g, v'.ownBlock = some g → u.ownBlock ≠ some g := by
  intro g e e'
  rcases k g e with h1 | h1
  · exact h g h1 e'
  · have := (row_block hu e').2.1; omega
theorem apart_symm {v u : Value} (h : ∀ g, v.ownBlock = some g → u.ownBlock ≠ some g) : ∀ g, u.ownBlock = some g → v.ownBlock ≠ some g := fun g e e' => h g e' e
/-- three rows and a box, under a growth of one of them -/
structure Trio (w0 : World) (W : World) (v7 v8 v9 : Value) (bs ns : List VR) (ps : List (Int × Int)) : Prop where
  r7 : W.ownsRow w0.heap.size 41 9 v7 bs.length (vev bs)
  r8 : W.ownsRow w0.heap.size 41 9 v8 ns.length (vev ns)
  r9 : W.ownsRow w0.heap.size 30 2 v9 ps.length (pc ps)
  ap : ∀ g, v7.ownBlock = some g → v8.ownBlock ≠ some g
  ex0 : Ext w0 W
theorem Trio.mono {w0 W W' : World} {v7 v8 v9 : Value} {bs ns : List VR} {ps : List (Int × Int)} (h : Trio w0 W v7 v8 v9 bs ns ps) (e : Ext W W') : Trio w0 W' v7 v8 v9 bs ns ps :=
  ⟨ownsRow_ext h.r7 e, ownsRow_ext h.r8 e, ownsRow_ext h.r9 e, h.ap, h.ex0.tr e⟩
theorem Trio.add7 {w0 W : World} {v7 v8 v9 v' : Value} {bs ns : List VR} {ps : List (Int × Int)} {x : Add} {p : VR} (h : Trio w0 W v7 v8 v9 bs ns ps) (ho : Own w0 x 41 9 v' (bs.length + 1) (vev bs ++ ev p.1)) (hg : W.grownBy (ext w0 x) v7.ownBlock) (hb : ∀ g, v'.ownBlock = some g → v7.ownBlock = some g ∨ W.heap.size ≤ g) : Trio w0 (ext w0 x) v' v8 v9 (bs ++ [p]) ns ps :=
  ⟨by rw [List.length_append, List.length_singleton, vev_append, vev_one]; exact ho, h.r8.kept hg (apart_of h.ap), h.r9.kept hg (type_apart h.r9 h.r7 (by decide)), apart_new h.ap h.r8 (Nat.le_refl _) hb, Ext.ex _ _⟩
theorem Trio.add8 {w0 W : World} {v7 v8 v9 v' : Value} {bs ns : List VR} {ps : List (Int × Int)} {x : Add} {p : VR} (h : Trio w0 W v7 v8 v9 bs ns ps) (ho : Own w0 x 41 9 v' (ns.length + 1) (vev ns ++ ev p.1)) (hg : W.grownBy (ext w0 x) v8.ownBlock) (hb : ∀ g, v'.ownBlock = some g → v8.ownBlock = some g ∨ W.heap.size ≤ g) : Trio w0 (ext w0 x) v7 v' v9 bs (ns ++ [p]) ps :=
  ⟨h.r7.kept hg (apart_of (apart_symm h.ap)), by rw [List.length_append, List.length_singleton, vev_append, vev_one]; exact ho, h.r9.kept hg (type_apart h.r9 h.r8 (by decide)), apart_symm (apart_new (apart_symm h.ap) h.r7 (Nat.le_refl _) hb), Ext.ex _ _⟩
theorem Trio.add9 {w0 W : World} {v7 v8 v9 v' : Value} {bs ns : List VR} {ps : List (Int × Int)} {x : Add} {p : Int × Int} (h : Trio w0 W v7 v8 v9 bs ns ps) (ho : Own w0 x 30 2 v' (ps.length + 1) (pc ps ++ [.int .i64 p.1, .int .i64 p.2])) (hg : W.grownBy (ext w0 x) v9.ownBlock) : Trio w0 (ext w0 x) v7 v8 v' bs ns (ps ++ [p]) :=
  ⟨h.r7.kept hg (type_apart h.r7 h.r9 (by decide)), h.r8.kept hg (type_apart h.r8 h.r9 (by decide)), by simpa [pc] using ho, h.ap, Ext.ex _ _⟩
theorem box_kept {W W' : World} {row : Option Nat} {b : Nat} {c : Array Value} {t : TypeId} {f : Nat × Nat} (hb : W.heap[b]? = some (.cells c t f)) (hg : W.grownBy W' row) (hr : row ≠ some b) : W'.heap[b]? = some (.cells c t f) :=
  (hg.block b (Array.getElem?_eq_some_iff.1 hb).1 (fun e => hr e.symm)).trans hb
theorem box9 {W : World} {b : Nat} {V : Ve} (h : W.heap[b]? = some (.cells #[.int .i64 V.id, .int .i64 V.sch, .slice V.rA V.rn V.rc, .int .i64 V.v.1, .int .i64 V.v.2, .int .i64 V.s.1, .int .i64 V.s.2, .int .i64 V.by_, .int .i64 V.un] 41)) : b < W.heap.size ∧ W.cell? ⟨b, 0, none⟩ = some (.int .i64 V.id) ∧ W.cell? ⟨b, 1, none⟩ = some (.int .i64 V.sch) ∧ W.cell? ⟨b, 2, none⟩ = some (.slice V.rA V.rn V.rc) ∧ W.cell? ⟨b, 3, none⟩ = some (.int .i64 V.v.1) ∧ W.cell? ⟨b, 4, none⟩ = some (.int .i64 V.v.2) ∧ W.cell? ⟨b, 5, none⟩ = some (.int .i64 V.s.1) ∧ W.cell? ⟨b, 6, none⟩ = some (.int .i64 V.s.2) ∧ W.cell? ⟨b, 7, none⟩ = some (.int .i64 V.by_) ∧ W.cell? ⟨b, 8, none⟩ = some (.int .i64 V.un) := by
  refine ⟨(Array.getElem?_eq_some_iff.1 h).1, ?_, ?_, ?_, ?_, ?_, ?_, ?_, ?_, ?_⟩ <;> simp [World.cell?, h]
theorem Ext.block_of {W W' : World} (e : Ext W W') {b : Nat} {o : Obj} (h : W.heap[b]? = some o) : W'.heap[b]? = some o := (e.block b (Array.getElem?_eq_some_iff.1 h).1).trans h


set_option maxRecDepth 100000 in
set_option maxHeartbeats 8000000 in
theorem changed_any (tn : ByteArray) (A : Option Addr) (n c : Nat) (l : List VR) (since : Int) (w : World) (hn : n = l.length) (hA : Rd w 9 A n (vev l)) (hok : ∀ p ∈ l, VROk w p) (hl : l.length ≤ 65536) (htn : tn.size ≤ maxLen) :
    Calls Tryz.prog 9 #[.string tn, .slice A n c, .int .i64 since] w fun e w' => ∃ A' c' r, e = .returned (.slice A' r.length c') ∧ Ext w w' ∧ Rd w' 3 A' r.length (acl r) ∧ Stands (chgL tn l since) r := by
  subst hn
  go_enter Tryz.func9, Tryz.ntmps9
  go_wp2
  go_loopw [7, 8, 9, 19] (fun v7 v8 v9 i wr => ∃ (k : Nat) (bs ns : List VR) (ps : List (Int × Int)), k ≤ l.length ∧ i = .int .i64 k ∧ bs.length ≤ k ∧ ns.length ≤ k ∧ ps.length ≤ k ∧ Hid (befF l since = bs ++ befF (l.drop k) since) ∧ Hid (nowF l = ns ++ nowF (l.drop k)) ∧ Hid (bndV l since = ps ++ bndV (l.drop k) since) ∧ Trio w wr v7 v8 v9 bs ns ps) (fun _ _ _ i _ => l.length - (intOf i).toNat)
  case atStart => exact ⟨0, [], [], [], Nat.zero_le _, rfl, Nat.le_refl _, Nat.le_refl _, Nat.le_refl _, Lib.hid (by simp), Lib.hid (by simp), Lib.hid (by simp), ⟨World.ownsRow_nil _ _ _ _, World.ownsRow_nil _ _ _ _, World.ownsRow_nil _ _ _ _, fun g e => by simp [Value.ownBlock] at e, Ext.refl' _⟩⟩
  case round =>
    obtain ⟨k, bs, ns, ps, hk, rfl, hbl, hnl, hpl, HB, HN, HP, hT⟩ := hrel
    obtain ⟨A7, d7, rfl, _⟩ := row_formG hT.r7
    obtain ⟨A8, d8, rfl, _⟩ := row_formG hT.r8
    obtain ⟨A9, d9, rfl, _⟩ := row_formG hT.r9
    have hE := hT.ex0
    by_cases hlt : k < l.length
    · obtain ⟨b, o, rfl, hbw, hc⟩ := ((show Rd w 9 A l.length (evl (l.map (·.1))) from hA).ext hE).ve (by simp) (k := k) (by simpa using hlt)
      simp only [List.getElem_map] at hc
      have HFB : Hid (befF (l.drop k) since = (if (vldB l[k] && inP l[k].1.s since) then [l[k]] else []) ++ befF (l.drop (k + 1)) since) := Lib.hid (filter_drop _ hlt)
      have HFN : Hid (nowF (l.drop k) = (if (vldB l[k] && (l[k].1.s.2 == 1099511627776)) then [l[k]] else []) ++ nowF (l.drop (k + 1))) := Lib.hid (filter_drop _ hlt)
      have HFP : Hid (bndV (l.drop k) since = (if (vldB l[k] && (inP l[k].1.s since != (l[k].1.s.2 == 1099511627776))) then [l[k].1.v] else []) ++ bndV (l.drop (k + 1)) since) := Lib.hid (by
        unfold bndV; rw [filter_drop _ hlt, List.map_append]; split <;> simp)
      generalize l[k] = p at hc HFB HFN HFP
      obtain ⟨V, r⟩ := p
      simp only at hc HFB HFN HFP
      have c0 := hc 0 _ rfl
      have c1 := hc 1 _ rfl
      have c2 := hc 2 _ rfl
      have c3 := hc 3 _ rfl
      have c4 := hc 4 _ rfl
      have c5 := hc 5 _ rfl
      have c6 := hc 6 _ rfl
      have c7 := hc 7 _ rfl
      have c8 := hc 8 _ rfl
      simp only [Nat.add_zero] at c0
      clear hc
      have HV1 := Lib.hid (fun w => pvalid_any V.v w)
      have HV2 := Lib.hid (fun w => pvalid_any V.s w)
      have HCN := Lib.hid (fun w => pcontP_any V.s since w)
      rcases hv1 : pvB V.v with _ | _
      · rw [hv1] at HV1
        have HB2 : Hid (befF l since = bs ++ befF (l.drop (k + 1)) since) := Lib.hid (by rw [HB.out, HFB.out]; simp [vldB, hv1])
        have HN2 : Hid (nowF l = ns ++ nowF (l.drop (k + 1))) := Lib.hid (by rw [HN.out, HFN.out]; simp [vldB, hv1])
        have HP2 : Hid (bndV l since = ps ++ bndV (l.drop (k + 1)) since) := Lib.hid (by rw [HP.out, HFP.out]; simp [vldB, hv1])
        clear hv1 HFB HFN HFP
        go_wp2_with (go_at_call 21; (with_reducible refine Calls.mono (HV1.out _) ?_); rintro e w1 ⟨rfl, hb1⟩; obtain ⟨y1, rfl⟩ := hb1.get; clear hb1)
        go_roundw
        case rel => exact ⟨k + 1, bs, ns, ps, by omega, by go_num, by omega, by omega, by omega, HB2, HN2, HP2, hT.mono (by repeat (first | exact Ext.refl' _ | assumption | apply Ext.ex' | apply Ext.al | apply Ext.drN | apply Ext.dr))⟩
        case measure => simp [intOf]; omega
      · rw [hv1] at HV1
        rcases hv2 : pvB V.s with _ | _
        · rw [hv2] at HV2
          have HB2 : Hid (befF l since = bs ++ befF (l.drop (k + 1)) since) := Lib.hid (by rw [HB.out, HFB.out]; simp [vldB, hv2])
          have HN2 : Hid (nowF l = ns ++ nowF (l.drop (k + 1))) := Lib.hid (by rw [HN.out, HFN.out]; simp [vldB, hv2])
          have HP2 : Hid (bndV l since = ps ++ bndV (l.drop (k + 1)) since) := Lib.hid (by rw [HP.out, HFP.out]; simp [vldB, hv2])
          clear hv1 hv2 HFB HFN HFP
          go_wp2_with (first | (go_at_call 21; (with_reducible refine Calls.mono (HV1.out _) ?_); rintro e w1 ⟨rfl, hb1⟩; obtain ⟨y1, rfl⟩ := hb1.get; clear hb1) | (go_at_call 21; (with_reducible refine Calls.mono (HV2.out _) ?_); rintro e w1 ⟨rfl, hb1⟩; obtain ⟨y2, rfl⟩ := hb1.get; clear hb1))
          go_roundw
          case rel => exact ⟨k + 1, bs, ns, ps, by omega, by go_num, by omega, by omega, by omega, HB2, HN2, HP2, hT.mono (by repeat (first | exact Ext.refl' _ | assumption | apply Ext.ex' | apply Ext.al | apply Ext.drN | apply Ext.dr))⟩
          case measure => simp [intOf]; omega
        · rw [hv2] at HV2
          rcases hw : inP V.s since with _ | _ <;> rcases hi : (V.s.2 == 1099511627776) with _ | _
          · rw [hw] at HCN
            have hq1 : (V.s.2 == 1099511627776) = false := hi
            have HB2 : Hid (befF l since = bs ++ befF (l.drop (k + 1)) since) := Lib.hid (by rw [HB.out, HFB.out]; simp [vldB, hv1, hv2, hw])
            have HN2 : Hid (nowF l = ns ++ nowF (l.drop (k + 1))) := Lib.hid (by rw [HN.out, HFN.out]; simp [vldB, hv1, hv2, hi])
            have HP2 : Hid (bndV l since = ps ++ bndV (l.drop (k + 1)) since) := Lib.hid (by rw [HP.out, HFP.out]; simp [vldB, hv1, hv2, hw, hi])
            clear hv1 hv2 hw hi HFB HFN HFP HB HN HP
            go_wp2_with (first | (go_at_call 21; (with_reducible refine Calls.mono (HV1.out _) ?_); rintro e w1 ⟨rfl, hb1⟩; obtain ⟨y1, rfl⟩ := hb1.get; clear hb1) | (go_at_call 21; (with_reducible refine Calls.mono (HV2.out _) ?_); rintro e w1 ⟨rfl, hb1⟩; obtain ⟨y2, rfl⟩ := hb1.get; clear hb1))
            refine wp_region_ext (by kernel_rfl) (by kernel_rfl) ?_
            repeat (first | go_big_quiet_step ((go_at_call 22; exact Calls.ext_of (HCN.out _))) | quiet_step ((go_at_call 22; exact Calls.ext_of (HCN.out _))))
            refine wpQuiet_nil ?_
            intro _ hw'
            obtain ⟨xq, hw''⟩ := hw'
            subst hw''
            obtain ⟨W4, hW4⟩ : ∃ W4, ext (ext (ext (wr.alloc (.cells #[.int .i64 V.id, .int .i64 V.sch, .slice V.rA V.rn V.rc, .int .i64 V.v.1, .int .i64 V.v.2, .int .i64 V.s.1, .int .i64 V.s.2, .int .i64 V.by_, .int .i64 V.un] 41)) y1) y2) xq = W4 := ⟨_, rfl⟩
            have hE4 : Ext wr W4 := by rw [← hW4]; exact (by repeat (first | exact Ext.refl' _ | assumption | apply Ext.ex' | apply Ext.al | apply Ext.drN | apply Ext.dr))
            have hbq : W4.heap[wr.heap.size]? = some (.cells #[.int .i64 V.id, .int .i64 V.sch, .slice V.rA V.rn V.rc, .int .i64 V.v.1, .int .i64 V.v.2, .int .i64 V.s.1, .int .i64 V.s.2, .int .i64 V.by_, .int .i64 V.un] 41) := by rw [← hW4]; exact Ext.block_of (show Ext (wr.alloc (.cells #[.int .i64 V.id, .int .i64 V.sch, .slice V.rA V.rn V.rc, .int .i64 V.v.1, .int .i64 V.v.2, .int .i64 V.s.1, .int .i64 V.s.2, .int .i64 V.by_, .int .i64 V.un] 41)) _ from (by repeat (first | exact Ext.refl' _ | assumption | apply Ext.ex' | apply Ext.al | apply Ext.drN | apply Ext.dr))) (World.alloc_heap_new _ _)
            have hn7 : Value.ownBlock (.slice A7 bs.length d7) ≠ some wr.heap.size := fun e => by have := (row_block hT.r7 e).2.1; omega
            have hn8 : Value.ownBlock (.slice A8 ns.length d8) ≠ some wr.heap.size := fun e => by have := (row_block hT.r8 e).2.1; omega
            have hT := hT.mono hE4
            rw [hW4]
            obtain ⟨hbl, z0, z1, z2, z3, z4, z5, z6, z7, z8⟩ := box9 hbq
            clear hW4 c0 c1 c2 c3 c4 c5 c6 c7 c8 hE4
            go_wp2
            go_roundw
            case rel => exact ⟨k + 1, bs, ns, ps, by omega, by go_num, by (try simp); omega, by (try simp); omega, by (try simp); omega, HB2, HN2, HP2, hT⟩
            case measure => simp [intOf]; omega
          · rw [hw] at HCN
            have hq1 : (V.s.2 == 1099511627776) = true := hi
            have HB2 : Hid (befF l since = bs ++ befF (l.drop (k + 1)) since) := Lib.hid (by rw [HB.out, HFB.out]; simp [vldB, hv1, hv2, hw])
            have HN2 : Hid (nowF l = ns ++ [(V, r)] ++ nowF (l.drop (k + 1))) := Lib.hid (by rw [HN.out, HFN.out]; simp [vldB, hv1, hv2, hi])
            have HP2 : Hid (bndV l since = ps ++ [V.v] ++ bndV (l.drop (k + 1)) since) := Lib.hid (by rw [HP.out, HFP.out]; simp [vldB, hv1, hv2, hw, hi])
            clear hv1 hv2 hw hi HFB HFN HFP HB HN HP
            go_wp2_with (first | (go_at_call 21; (with_reducible refine Calls.mono (HV1.out _) ?_); rintro e w1 ⟨rfl, hb1⟩; obtain ⟨y1, rfl⟩ := hb1.get; clear hb1) | (go_at_call 21; (with_reducible refine Calls.mono (HV2.out _) ?_); rintro e w1 ⟨rfl, hb1⟩; obtain ⟨y2, rfl⟩ := hb1.get; clear hb1))
            refine wp_region_ext (by kernel_rfl) (by kernel_rfl) ?_
            repeat (first | go_big_quiet_step ((go_at_call 22; exact Calls.ext_of (HCN.out _))) | quiet_step ((go_at_call 22; exact Calls.ext_of (HCN.out _))))
            refine wpQuiet_nil ?_
            intro _ hw'
            obtain ⟨xq, hw''⟩ := hw'
            subst hw''
            obtain ⟨W4, hW4⟩ : ∃ W4, ext (ext (ext (wr.alloc (.cells #[.int .i64 V.id, .int .i64 V.sch, .slice V.rA V.rn V.rc, .int .i64 V.v.1, .int .i64 V.v.2, .int .i64 V.s.1, .int .i64 V.s.2, .int .i64 V.by_, .int .i64 V.un] 41)) y1) y2) xq = W4 := ⟨_, rfl⟩
            have hE4 : Ext wr W4 := by rw [← hW4]; exact (by repeat (first | exact Ext.refl' _ | assumption | apply Ext.ex' | apply Ext.al | apply Ext.drN | apply Ext.dr))
            have hbq : W4.heap[wr.heap.size]? = some (.cells #[.int .i64 V.id, .int .i64 V.sch, .slice V.rA V.rn V.rc, .int .i64 V.v.1, .int .i64 V.v.2, .int .i64 V.s.1, .int .i64 V.s.2, .int .i64 V.by_, .int .i64 V.un] 41) := by rw [← hW4]; exact Ext.block_of (show Ext (wr.alloc (.cells #[.int .i64 V.id, .int .i64 V.sch, .slice V.rA V.rn V.rc, .int .i64 V.v.1, .int .i64 V.v.2, .int .i64 V.s.1, .int .i64 V.s.2, .int .i64 V.by_, .int .i64 V.un] 41)) _ from (by repeat (first | exact Ext.refl' _ | assumption | apply Ext.ex' | apply Ext.al | apply Ext.drN | apply Ext.dr))) (World.alloc_heap_new _ _)
            have hn7 : Value.ownBlock (.slice A7 bs.length d7) ≠ some wr.heap.size := fun e => by have := (row_block hT.r7 e).2.1; omega
            have hn8 : Value.ownBlock (.slice A8 ns.length d8) ≠ some wr.heap.size := fun e => by have := (row_block hT.r8 e).2.1; omega
            have hT := hT.mono hE4
            rw [hW4]
            obtain ⟨hbl, z0, z1, z2, z3, z4, z5, z6, z7, z8⟩ := box9 hbq
            clear hW4 c0 c1 c2 c3 c4 c5 c6 c7 c8 hE4
            go_wp2_with (first | (at_builtin; refine wpList_app2 _ rfl (.tmp 47) (.tmp 49) rfl elVe w (Ext.al hT.ex0 _) _ ns.length (vev ns) rfl (World.ownsRow.alloc hT.r8 _) _ 1 1 [.int .i64 V.id, .int .i64 V.sch, .slice V.rA V.rn V.rc, .int .i64 V.v.1, .int .i64 V.v.2, .int .i64 V.s.1, .int .i64 V.s.2, .int .i64 V.by_, .int .i64 V.un] rfl (Rd.lit _ #[.int .i64 V.id, .int .i64 V.sch, .slice V.rA V.rn V.rc, .int .i64 V.v.1, .int .i64 V.v.2, .int .i64 V.s.1, .int .i64 V.s.2, .int .i64 V.by_, .int .i64 V.un] _ 1 9 rfl (by simp [size_ext])) (by have := oneCell_evl [V]; rwa [evl_one] at this) (by unfold maxLen; omega) (by omega) ?_; intro v8 x8 o8 g8 k8; have hbq := box_kept (Ext.block_of (Ext.al1 _ (.cells #[.int .i64 V.id, .int .i64 V.sch, .slice V.rA V.rn V.rc, .int .i64 V.v.1, .int .i64 V.v.2, .int .i64 V.s.1, .int .i64 V.s.2, .int .i64 V.by_, .int .i64 V.un] 41)) hbq) g8 hn8; have hT := (hT.mono (Ext.al1 _ (.cells #[.int .i64 V.id, .int .i64 V.sch, .slice V.rA V.rn V.rc, .int .i64 V.v.1, .int .i64 V.v.2, .int .i64 V.s.1, .int .i64 V.s.2, .int .i64 V.by_, .int .i64 V.un] 41))).add8 (p := (V, r)) o8 g8 k8; obtain ⟨hbl, z0, z1, z2, z3, z4, z5, z6, z7, z8⟩ := box9 hbq) | (at_builtin; refine wpList_app2 _ rfl (.tmp 54) (.tmp 57) rfl elPeriod w (Ext.al hT.ex0 _) _ ps.length (pc ps) rfl (World.ownsRow.alloc hT.r9 _) _ 1 1 [.int .i64 V.v.1, .int .i64 V.v.2] rfl (Rd.lit _ #[.int .i64 V.v.1, .int .i64 V.v.2] _ 1 2 rfl (by simp [size_ext])) (oneCell_pc [V.v]) (by unfold maxLen; omega) (by omega) ?_; intro v9 x9 o9 g9 _; have hT := (hT.mono (Ext.al1 _ (.cells #[.int .i64 V.v.1, .int .i64 V.v.2] 30))).add9 (p := V.v) o9 g9))
            go_roundw
            case rel => exact ⟨k + 1, bs, ns ++ [(V, r)], ps ++ [V.v], by omega, by go_num, by (try simp); omega, by (try simp); omega, by (try simp); omega, HB2, HN2, HP2, hT⟩
            case measure => simp [intOf]; omega
          · rw [hw] at HCN
            have hq1 : (V.s.2 == 1099511627776) = false := hi
            have HB2 : Hid (befF l since = bs ++ [(V, r)] ++ befF (l.drop (k + 1)) since) := Lib.hid (by rw [HB.out, HFB.out]; simp [vldB, hv1, hv2, hw])
            have HN2 : Hid (nowF l = ns ++ nowF (l.drop (k + 1))) := Lib.hid (by rw [HN.out, HFN.out]; simp [vldB, hv1, hv2, hi])
            have HP2 : Hid (bndV l since = ps ++ [V.v] ++ bndV (l.drop (k + 1)) since) := Lib.hid (by rw [HP.out, HFP.out]; simp [vldB, hv1, hv2, hw, hi])
            clear hv1 hv2 hw hi HFB HFN HFP HB HN HP
            go_wp2_with (first | (go_at_call 21; (with_reducible refine Calls.mono (HV1.out _) ?_); rintro e w1 ⟨rfl, hb1⟩; obtain ⟨y1, rfl⟩ := hb1.get; clear hb1) | (go_at_call 21; (with_reducible refine Calls.mono (HV2.out _) ?_); rintro e w1 ⟨rfl, hb1⟩; obtain ⟨y2, rfl⟩ := hb1.get; clear hb1))
            refine wp_region_ext (by kernel_rfl) (by kernel_rfl) ?_
            repeat (first | go_big_quiet_step ((go_at_call 22; exact Calls.ext_of (HCN.out _))) | quiet_step ((go_at_call 22; exact Calls.ext_of (HCN.out _))))
            refine wpQuiet_nil ?_
            intro _ hw'
            obtain ⟨xq, hw''⟩ := hw'
            subst hw''
            obtain ⟨W4, hW4⟩ : ∃ W4, ext (ext (ext (wr.alloc (.cells #[.int .i64 V.id, .int .i64 V.sch, .slice V.rA V.rn V.rc, .int .i64 V.v.1, .int .i64 V.v.2, .int .i64 V.s.1, .int .i64 V.s.2, .int .i64 V.by_, .int .i64 V.un] 41)) y1) y2) xq = W4 := ⟨_, rfl⟩
            have hE4 : Ext wr W4 := by rw [← hW4]; exact (by repeat (first | exact Ext.refl' _ | assumption | apply Ext.ex' | apply Ext.al | apply Ext.drN | apply Ext.dr))
            have hbq : W4.heap[wr.heap.size]? = some (.cells #[.int .i64 V.id, .int .i64 V.sch, .slice V.rA V.rn V.rc, .int .i64 V.v.1, .int .i64 V.v.2, .int .i64 V.s.1, .int .i64 V.s.2, .int .i64 V.by_, .int .i64 V.un] 41) := by rw [← hW4]; exact Ext.block_of (show Ext (wr.alloc (.cells #[.int .i64 V.id, .int .i64 V.sch, .slice V.rA V.rn V.rc, .int .i64 V.v.1, .int .i64 V.v.2, .int .i64 V.s.1, .int .i64 V.s.2, .int .i64 V.by_, .int .i64 V.un] 41)) _ from (by repeat (first | exact Ext.refl' _ | assumption | apply Ext.ex' | apply Ext.al | apply Ext.drN | apply Ext.dr))) (World.alloc_heap_new _ _)
            have hn7 : Value.ownBlock (.slice A7 bs.length d7) ≠ some wr.heap.size := fun e => by have := (row_block hT.r7 e).2.1; omega
            have hn8 : Value.ownBlock (.slice A8 ns.length d8) ≠ some wr.heap.size := fun e => by have := (row_block hT.r8 e).2.1; omega
            have hT := hT.mono hE4
            rw [hW4]
            obtain ⟨hbl, z0, z1, z2, z3, z4, z5, z6, z7, z8⟩ := box9 hbq
            clear hW4 c0 c1 c2 c3 c4 c5 c6 c7 c8 hE4
            go_wp2_with (first | (at_builtin; refine wpList_app2 _ rfl (.tmp 42) (.tmp 44) rfl elVe w (Ext.al hT.ex0 _) _ bs.length (vev bs) rfl (World.ownsRow.alloc hT.r7 _) _ 1 1 [.int .i64 V.id, .int .i64 V.sch, .slice V.rA V.rn V.rc, .int .i64 V.v.1, .int .i64 V.v.2, .int .i64 V.s.1, .int .i64 V.s.2, .int .i64 V.by_, .int .i64 V.un] rfl (Rd.lit _ #[.int .i64 V.id, .int .i64 V.sch, .slice V.rA V.rn V.rc, .int .i64 V.v.1, .int .i64 V.v.2, .int .i64 V.s.1, .int .i64 V.s.2, .int .i64 V.by_, .int .i64 V.un] _ 1 9 rfl (by simp [size_ext])) (by have := oneCell_evl [V]; rwa [evl_one] at this) (by unfold maxLen; omega) (by omega) ?_; intro v7 x7 o7 g7 k7; have hbq := box_kept (Ext.block_of (Ext.al1 _ (.cells #[.int .i64 V.id, .int .i64 V.sch, .slice V.rA V.rn V.rc, .int .i64 V.v.1, .int .i64 V.v.2, .int .i64 V.s.1, .int .i64 V.s.2, .int .i64 V.by_, .int .i64 V.un] 41)) hbq) g7 hn7; have hT := (hT.mono (Ext.al1 _ (.cells #[.int .i64 V.id, .int .i64 V.sch, .slice V.rA V.rn V.rc, .int .i64 V.v.1, .int .i64 V.v.2, .int .i64 V.s.1, .int .i64 V.s.2, .int .i64 V.by_, .int .i64 V.un] 41))).add7 (p := (V, r)) o7 g7 k7; obtain ⟨hbl, z0, z1, z2, z3, z4, z5, z6, z7, z8⟩ := box9 hbq) | (at_builtin; refine wpList_app2 _ rfl (.tmp 54) (.tmp 57) rfl elPeriod w (Ext.al hT.ex0 _) _ ps.length (pc ps) rfl (World.ownsRow.alloc hT.r9 _) _ 1 1 [.int .i64 V.v.1, .int .i64 V.v.2] rfl (Rd.lit _ #[.int .i64 V.v.1, .int .i64 V.v.2] _ 1 2 rfl (by simp [size_ext])) (oneCell_pc [V.v]) (by unfold maxLen; omega) (by omega) ?_; intro v9 x9 o9 g9 _; have hT := (hT.mono (Ext.al1 _ (.cells #[.int .i64 V.v.1, .int .i64 V.v.2] 30))).add9 (p := V.v) o9 g9))
            go_roundw
            case rel => exact ⟨k + 1, bs ++ [(V, r)], ns, ps ++ [V.v], by omega, by go_num, by (try simp); omega, by (try simp); omega, by (try simp); omega, HB2, HN2, HP2, hT⟩
            case measure => simp [intOf]; omega
          · rw [hw] at HCN
            have hq1 : (V.s.2 == 1099511627776) = true := hi
            have HB2 : Hid (befF l since = bs ++ [(V, r)] ++ befF (l.drop (k + 1)) since) := Lib.hid (by rw [HB.out, HFB.out]; simp [vldB, hv1, hv2, hw])
            have HN2 : Hid (nowF l = ns ++ [(V, r)] ++ nowF (l.drop (k + 1))) := Lib.hid (by rw [HN.out, HFN.out]; simp [vldB, hv1, hv2, hi])
            have HP2 : Hid (bndV l since = ps ++ bndV (l.drop (k + 1)) since) := Lib.hid (by rw [HP.out, HFP.out]; simp [vldB, hv1, hv2, hw, hi])
            clear hv1 hv2 hw hi HFB HFN HFP HB HN HP
            go_wp2_with (first | (go_at_call 21; (with_reducible refine Calls.mono (HV1.out _) ?_); rintro e w1 ⟨rfl, hb1⟩; obtain ⟨y1, rfl⟩ := hb1.get; clear hb1) | (go_at_call 21; (with_reducible refine Calls.mono (HV2.out _) ?_); rintro e w1 ⟨rfl, hb1⟩; obtain ⟨y2, rfl⟩ := hb1.get; clear hb1))
            refine wp_region_ext (by kernel_rfl) (by kernel_rfl) ?_
            repeat (first | go_big_quiet_step ((go_at_call 22; exact Calls.ext_of (HCN.out _))) | quiet_step ((go_at_call 22; exact Calls.ext_of (HCN.out _))))
            refine wpQuiet_nil ?_
            intro _ hw'
            obtain ⟨xq, hw''⟩ := hw'
            subst hw''
            obtain ⟨W4, hW4⟩ : ∃ W4, ext (ext (ext (wr.alloc (.cells #[.int .i64 V.id, .int .i64 V.sch, .slice V.rA V.rn V.rc, .int .i64 V.v.1, .int .i64 V.v.2, .int .i64 V.s.1, .int .i64 V.s.2, .int .i64 V.by_, .int .i64 V.un] 41)) y1) y2) xq = W4 := ⟨_, rfl⟩
            have hE4 : Ext wr W4 := by rw [← hW4]; exact (by repeat (first | exact Ext.refl' _ | assumption | apply Ext.ex' | apply Ext.al | apply Ext.drN | apply Ext.dr))
            have hbq : W4.heap[wr.heap.size]? = some (.cells #[.int .i64 V.id, .int .i64 V.sch, .slice V.rA V.rn V.rc, .int .i64 V.v.1, .int .i64 V.v.2, .int .i64 V.s.1, .int .i64 V.s.2, .int .i64 V.by_, .int .i64 V.un] 41) := by rw [← hW4]; exact Ext.block_of (show Ext (wr.alloc (.cells #[.int .i64 V.id, .int .i64 V.sch, .slice V.rA V.rn V.rc, .int .i64 V.v.1, .int .i64 V.v.2, .int .i64 V.s.1, .int .i64 V.s.2, .int .i64 V.by_, .int .i64 V.un] 41)) _ from (by repeat (first | exact Ext.refl' _ | assumption | apply Ext.ex' | apply Ext.al | apply Ext.drN | apply Ext.dr))) (World.alloc_heap_new _ _)
            have hn7 : Value.ownBlock (.slice A7 bs.length d7) ≠ some wr.heap.size := fun e => by have := (row_block hT.r7 e).2.1; omega
            have hn8 : Value.ownBlock (.slice A8 ns.length d8) ≠ some wr.heap.size := fun e => by have := (row_block hT.r8 e).2.1; omega
            have hT := hT.mono hE4
            rw [hW4]
            obtain ⟨hbl, z0, z1, z2, z3, z4, z5, z6, z7, z8⟩ := box9 hbq
            clear hW4 c0 c1 c2 c3 c4 c5 c6 c7 c8 hE4
            go_wp2_with (first | (at_builtin; refine wpList_app2 _ rfl (.tmp 42) (.tmp 44) rfl elVe w (Ext.al hT.ex0 _) _ bs.length (vev bs) rfl (World.ownsRow.alloc hT.r7 _) _ 1 1 [.int .i64 V.id, .int .i64 V.sch, .slice V.rA V.rn V.rc, .int .i64 V.v.1, .int .i64 V.v.2, .int .i64 V.s.1, .int .i64 V.s.2, .int .i64 V.by_, .int .i64 V.un] rfl (Rd.lit _ #[.int .i64 V.id, .int .i64 V.sch, .slice V.rA V.rn V.rc, .int .i64 V.v.1, .int .i64 V.v.2, .int .i64 V.s.1, .int .i64 V.s.2, .int .i64 V.by_, .int .i64 V.un] _ 1 9 rfl (by simp [size_ext])) (by have := oneCell_evl [V]; rwa [evl_one] at this) (by unfold maxLen; omega) (by omega) ?_; intro v7 x7 o7 g7 k7; have hbq := box_kept (Ext.block_of (Ext.al1 _ (.cells #[.int .i64 V.id, .int .i64 V.sch, .slice V.rA V.rn V.rc, .int .i64 V.v.1, .int .i64 V.v.2, .int .i64 V.s.1, .int .i64 V.s.2, .int .i64 V.by_, .int .i64 V.un] 41)) hbq) g7 hn7; have hT := (hT.mono (Ext.al1 _ (.cells #[.int .i64 V.id, .int .i64 V.sch, .slice V.rA V.rn V.rc, .int .i64 V.v.1, .int .i64 V.v.2, .int .i64 V.s.1, .int .i64 V.s.2, .int .i64 V.by_, .int .i64 V.un] 41))).add7 (p := (V, r)) o7 g7 k7; obtain ⟨hbl, z0, z1, z2, z3, z4, z5, z6, z7, z8⟩ := box9 hbq) | (at_builtin; refine wpList_app2 _ rfl (.tmp 47) (.tmp 49) rfl elVe w (Ext.al hT.ex0 _) _ ns.length (vev ns) rfl (World.ownsRow.alloc hT.r8 _) _ 1 1 [.int .i64 V.id, .int .i64 V.sch, .slice V.rA V.rn V.rc, .int .i64 V.v.1, .int .i64 V.v.2, .int .i64 V.s.1, .int .i64 V.s.2, .int .i64 V.by_, .int .i64 V.un] rfl (Rd.lit _ #[.int .i64 V.id, .int .i64 V.sch, .slice V.rA V.rn V.rc, .int .i64 V.v.1, .int .i64 V.v.2, .int .i64 V.s.1, .int .i64 V.s.2, .int .i64 V.by_, .int .i64 V.un] _ 1 9 rfl (by simp [size_ext])) (by have := oneCell_evl [V]; rwa [evl_one] at this) (by unfold maxLen; omega) (by omega) ?_; intro v8 x8 o8 g8 k8; have hbq := box_kept (Ext.block_of (Ext.al1 _ (.cells #[.int .i64 V.id, .int .i64 V.sch, .slice V.rA V.rn V.rc, .int .i64 V.v.1, .int .i64 V.v.2, .int .i64 V.s.1, .int .i64 V.s.2, .int .i64 V.by_, .int .i64 V.un] 41)) hbq) g8 hn8; have hT := (hT.mono (Ext.al1 _ (.cells #[.int .i64 V.id, .int .i64 V.sch, .slice V.rA V.rn V.rc, .int .i64 V.v.1, .int .i64 V.v.2, .int .i64 V.s.1, .int .i64 V.s.2, .int .i64 V.by_, .int .i64 V.un] 41))).add8 (p := (V, r)) o8 g8 k8; obtain ⟨hbl, z0, z1, z2, z3, z4, z5, z6, z7, z8⟩ := box9 hbq))
            go_roundw
            case rel => exact ⟨k + 1, bs ++ [(V, r)], ns ++ [(V, r)], ps, by omega, by go_num, by (try simp); omega, by (try simp); omega, by (try simp); omega, HB2, HN2, HP2, hT⟩
            case measure => simp [intOf]; omega
    · have hkl : k = l.length := by omega
      subst hkl
      have h1 : befF l since = bs := by have := HB.out; rw [List.drop_length] at this; rw [this]; exact List.append_nil _
      have h2 : nowF l = ns := by have := HN.out; rw [List.drop_length] at this; rw [this]; exact List.append_nil _
      have h3 : bndV l since = ps := by have := HP.out; rw [List.drop_length] at this; rw [this]; exact List.append_nil _
      have HCH : Hid (chgL tn l since = ((slcF ps).filter fun p => difB (atF bs p.1) (atF ns p.1)).map fun p => (tn, p)) := Lib.hid (by unfold chgL; rw [h1, h2, h3])
      have hokb : ∀ p ∈ bs, VROk w p := by rw [← h1]; intro p hp; exact hok p (List.mem_filter.1 hp).1
      have hokn : ∀ p ∈ ns, VROk w p := by rw [← h2]; intro p hp; exact hok p (List.mem_filter.1 hp).1
      clear h1 h2 h3 HB HN HP
      have HOKB := Lib.hid hokb
      have HOKN := Lib.hid hokn
      clear hokb hokn
      have HSL := Lib.hid (sslices_any A9 d9 ps wr (Rd.of_own hT.r9) (by omega))
      have hS := slcF_length ps
      have RB := Rd.of_own hT.r7
      have RN := Rd.of_own hT.r8
      generalize slcF ps = S at HSL HCH hS
      clear hT hlt
      go_wp2_with (go_at_call 23; refine Calls.mono HSL.out ?_; rintro e W1 ⟨A1, c1, rfl, hb1, hS1⟩)
      have hE1 : Ext w W1 := hE.tr hb1
      replace RB := RB.ext hb1
      replace RN := RN.ext hb1
      clear hb1 HSL hE
      go_loopw [14, 63] (fun v i wr2 => ∃ (k : Nat) (acc : List Acc), k ≤ S.length ∧ i = .int .i64 k ∧ acc.length ≤ k ∧ Hid (chgL tn l since = acc ++ ((S.drop k).filter fun p => difB (atF bs p.1) (atF ns p.1)).map fun p => (tn, p)) ∧ Ext W1 wr2 ∧ wr2.ownsRow W1.heap.size 32 3 v acc.length (acl acc)) (fun _ i _ => S.length - (intOf i).toNat)
      case atStart => exact ⟨0, [], Nat.zero_le _, rfl, Nat.le_refl _, HCH, Ext.refl' _, World.ownsRow_nil _ _ _ _⟩
      case round =>
        obtain ⟨k, acc, hk, rfl, hal, HC, hE2, hrow⟩ := hrel
        obtain ⟨A6, d6, rfl, _⟩ := row_formG hrow
        by_cases hlt : k < S.length
        · obtain ⟨b2, o2, rfl, hb2, f0, f1⟩ := (hS1.ext hE2).pair rfl hlt
          have HD : Hid (((S.drop k).filter fun p => difB (atF bs p.1) (atF ns p.1)).map (fun p => (tn, p)) = (if difB (atF bs S[k].1) (atF ns S[k].1) then [(tn, S[k])] else []) ++ ((S.drop (k + 1)).filter fun p => difB (atF bs p.1) (atF ns p.1)).map fun p => (tn, p)) := Lib.hid (by
            rw [filter_drop _ hlt, List.map_append]; split <;> simp)
          generalize S[k] = p at f0 f1 HD
          obtain ⟨p1, p2⟩ := p
          simp only at f0 f1 HD
          have hab : (atF bs p1).length ≤ 262144 := by have := List.length_filter_le (fun p : VR => inP p.1.v p1) bs; unfold atF; omega
          have han : (atF ns p1).length ≤ 262144 := by have := List.length_filter_le (fun p : VR => inP p.1.v p1) ns; unfold atF; omega
          have HAB := Lib.hid (fun w h => at_any A7 bs.length d7 bs p1 w rfl h (by omega))
          have HAN := Lib.hid (fun w h => at_any A8 ns.length d8 ns p1 w rfl h (by omega))
          have HDI := Lib.hid (fun A B ca cb w' hA hB ha hb => differ_any A B ca cb (atF bs p1) (atF ns p1) w' hA hB ha hb hab han)
          have HOB : Hid (∀ p ∈ atF bs p1, VROk w p) := Lib.hid (fun p hp => HOKB.out p (List.mem_filter.1 hp).1)
          have HON : Hid (∀ p ∈ atF ns p1, VROk w p) := Lib.hid (fun p hp => HOKN.out p (List.mem_filter.1 hp).1)
          rcases hd : difB (atF bs p1) (atF ns p1) with _ | _
          · rw [hd] at HDI
            have HN2 : Hid (chgL tn l since = acc ++ ((S.drop (k + 1)).filter fun p => difB (atF bs p.1) (atF ns p.1)).map fun p => (tn, p)) := Lib.hid (by rw [HC.out, HD.out, hd]; simp)
            clear hd HD HC
            generalize atF bs p1 = lB at HAB HDI HOB hab
            generalize atF ns p1 = lN at HAN HDI HON han
            go_wp2_with fail
            refine wp_region_held_drew (S := (fun w' => w'.cell? ⟨wr.heap.size, 0, none⟩ = some (.int .i64 p1) ∧ w'.cell? ⟨wr.heap.size, 1, none⟩ = some (.int .i64 p2))) (by kernel_rfl) (by simp [go_sem, ↓IntWalk.iteOmega, *]) (fun hHeld => ?_)
            refine wpAnyH_take (i := 0) (oi := ?oi1) (v := ?v1) ?hi1 (by kernel_rfl) (by kernel_rfl) (by kernel_rfl) ?hQ1 ?hy1 (by assumption) ?_
            case hi1 => (simp only [List.getElem?_toArray, List.getElem?_cons_succ, List.getElem?_cons_zero]; try rfl)
            case hQ1 => exact fun _ _ _ h => h
            case hy1 => (refine Or.inl ⟨by rfl, ?_⟩; intro wq hSw; (try dsimp only at hSw); go_simp; (try with_reducible rfl))
            (try simp only [Act.put, List.setIfInBounds_toArray, List.set_cons_zero, List.set_cons_succ])
            refine wpAnyH_take (i := 1) (oi := ?oi2) (v := ?v2) ?hi2 (by kernel_rfl) (by kernel_rfl) (by kernel_rfl) ?hQ2 ?hy2 (by assumption) ?_
            case hi2 => (simp only [List.getElem?_toArray, List.getElem?_cons_succ, List.getElem?_cons_zero]; try rfl)
            case hQ2 => exact fun _ _ _ h => h
            case hy2 => (refine Or.inl ⟨by rfl, ?_⟩; intro wq hSw; (try dsimp only at hSw); go_simp; (try with_reducible rfl))
            (try simp only [Act.put, List.setIfInBounds_toArray, List.set_cons_zero, List.set_cons_succ])
            refine wpAnyH_take (i := 2) (oi := ?oi3) (v := ?v3) ?hi3 (by kernel_rfl) (by kernel_rfl) (by kernel_rfl) ?hQ3 ?hy3 (by assumption) ?_
            case hi3 => (simp only [List.getElem?_toArray, List.getElem?_cons_succ, List.getElem?_cons_zero]; try rfl)
            case hQ3 => exact fun _ _ _ h => h
            case hy3 => (refine Or.inl ⟨by rfl, ?_⟩; intro wq hSw; (try dsimp only at hSw); go_simp; (try with_reducible rfl))
            (try simp only [Act.put, List.setIfInBounds_toArray, List.set_cons_zero, List.set_cons_succ])
            refine wpAnyH_take (i := 4) (oi := ?oi4) (v := ?v4) ?hi4 (by kernel_rfl) (by kernel_rfl) (by kernel_rfl) ?hQ4 ?hy4 (by assumption) ?_
            case hi4 => (simp only [List.getElem?_toArray, List.getElem?_cons_succ, List.getElem?_cons_zero]; try rfl)
            case hQ4 => exact fun _ _ _ h => h
            case hy4 => (refine Or.inl ⟨by rfl, ?_⟩; intro wq hSw; (try dsimp only at hSw); go_simp; (try with_reducible rfl))
            (try simp only [Act.put, List.setIfInBounds_toArray, List.set_cons_zero, List.set_cons_succ])
            refine wpAnyH_take (i := 5) (oi := ?oi5) (v := ?v5) ?hi5 (by kernel_rfl) (by kernel_rfl) (by kernel_rfl) ?hQ5 ?hy5 (by assumption) ?_
            case hi5 => (simp only [List.getElem?_toArray, List.getElem?_cons_succ, List.getElem?_cons_zero]; try rfl)
            case hQ5 => exact fun _ _ _ h => h
            case hy5 => (refine Or.inl ⟨by rfl, ?_⟩; intro wq hSw; (try dsimp only at hSw); go_simp; (try with_reducible rfl))
            (try simp only [Act.put, List.setIfInBounds_toArray, List.set_cons_zero, List.set_cons_succ])
            refine wpAnyH_take (i := 6) (oi := ?oi6) (v := ?v6) ?hi6 (by kernel_rfl) (by kernel_rfl) (by kernel_rfl) ?hQ6 ?hy6 (by assumption) ?_
            case hi6 => (simp only [List.getElem?_toArray, List.getElem?_cons_succ, List.getElem?_cons_zero]; try rfl)
            case hQ6 => exact fun _ _ _ h => h
            case hy6 => (refine Or.inl ⟨by rfl, ?_⟩; intro wq hSw; (try dsimp only at hSw); go_simp; (try with_reducible rfl))
            (try simp only [Act.put, List.setIfInBounds_toArray, List.set_cons_zero, List.set_cons_succ])
            refine wpAnyH_ready (rs := [3]) (by kernel_rfl) (by simp) ?_
            refine AllReadyH.cons (o := ?oi7) ?hi7 ?ti7 AllReadyH.nil
            case hi7 => (simp only [List.getElem?_toArray, List.getElem?_cons_succ, List.getElem?_cons_zero]; try rfl)
            case ti7 =>
              intro KQ hKQ
              go_simp
              go_at_call 25
              refine Calls.mono (HAB.out _ (RB.ext (hE2.tr (by repeat (first | exact Ext.refl' _ | assumption | apply Ext.ex' | apply Ext.al | apply Ext.drN | apply Ext.dr))))) ?_
              rintro e w1 ⟨A4, c4, rfl, hb1, hR4⟩
              obtain ⟨x4, rfl⟩ := hb1.get
              clear hb1
              refine hKQ.out _ _ (by simp [go_sem, ↓IntWalk.iteOmega, *]) (fun hHeld2 => ?_)
              clear hHeld hKQ KQ; have hHeld := hHeld2; clear hHeld2
              (try simp only [Act.put, List.setIfInBounds_toArray, List.set_cons_zero, List.set_cons_succ])
              refine wpAnyH_ready (rs := [7]) (by kernel_rfl) (by simp) ?_
              refine AllReadyH.cons (o := ?oi8) ?hi8 ?ti8 AllReadyH.nil
              case hi8 => (simp only [List.getElem?_toArray, List.getElem?_cons_succ, List.getElem?_cons_zero]; try rfl)
              case ti8 =>
                intro KQ hKQ
                go_simp
                go_at_call 25
                refine Calls.mono (HAN.out _ (RN.ext (hE2.tr (by repeat (first | exact Ext.refl' _ | assumption | apply Ext.ex' | apply Ext.al | apply Ext.drN | apply Ext.dr))))) ?_
                rintro e w1 ⟨A5, c5, rfl, hb1, hR5⟩
                obtain ⟨x5, rfl⟩ := hb1.get
                clear hb1
                refine hKQ.out _ _ (by simp [go_sem, ↓IntWalk.iteOmega, *]) (fun hHeld2 => ?_)
                clear hHeld hKQ KQ; have hHeld := hHeld2; clear hHeld2
                (try simp only [Act.put, List.setIfInBounds_toArray, List.set_cons_zero, List.set_cons_succ])
                refine wpAnyH_ready (rs := [8]) (by kernel_rfl) (by simp) ?_
                refine AllReadyH.cons (o := ?oi9) ?hi9 ?ti9 AllReadyH.nil
                case hi9 => (simp only [List.getElem?_toArray, List.getElem?_cons_succ, List.getElem?_cons_zero]; try rfl)
                case ti9 =>
                  intro KQ hKQ
                  go_simp
                  go_at_call 24
                  refine Calls.mono (HDI.out A4 A5 c4 c5 _ (hR4.ext (by repeat (first | exact Ext.refl' _ | assumption | apply Ext.ex' | apply Ext.al | apply Ext.drN | apply Ext.dr))) (hR5.ext (by repeat (first | exact Ext.refl' _ | assumption | apply Ext.ex' | apply Ext.al | apply Ext.drN | apply Ext.dr))) (fun p hp => (HOB.out p hp).ext (hE1.tr (hE2.tr (by repeat (first | exact Ext.refl' _ | assumption | apply Ext.ex' | apply Ext.al | apply Ext.drN | apply Ext.dr))))) (fun p hp => (HON.out p hp).ext (hE1.tr (hE2.tr (by repeat (first | exact Ext.refl' _ | assumption | apply Ext.ex' | apply Ext.al | apply Ext.drN | apply Ext.dr)))))) ?_
                  rintro e w1 ⟨rfl, hb1⟩
                  obtain ⟨x6, rfl⟩ := hb1.get
                  clear hb1
                  refine hKQ.out _ _ (by simp [go_sem, ↓IntWalk.iteOmega, *]) (fun hHeld2 => ?_)
                  clear hHeld hKQ KQ; have hHeld := hHeld2; clear hHeld2
                  (try simp only [Act.put, List.setIfInBounds_toArray, List.set_cons_zero, List.set_cons_succ])
                  refine wpAnyH_done (by kernel_rfl) ?_ _
                  try dsimp only at hHeld
                  obtain ⟨f0, f1⟩ := hHeld
                  go_wp2
                  go_roundw
                  case rel => exact ⟨k + 1, acc, by omega, by go_num, by omega, HN2, hE2.tr (by repeat (first | exact Ext.refl' _ | assumption | apply Ext.ex' | apply Ext.al | apply Ext.drN | apply Ext.dr)), ownsRow_ext hrow (by repeat (first | exact Ext.refl' _ | assumption | apply Ext.ex' | apply Ext.al | apply Ext.drN | apply Ext.dr))⟩
                  case measure => simp [intOf]; omega
          · rw [hd] at HDI
            have HN2 : Hid (chgL tn l since = acc ++ [(tn, (p1, p2))] ++ ((S.drop (k + 1)).filter fun p => difB (atF bs p.1) (atF ns p.1)).map fun p => (tn, p)) := Lib.hid (by rw [HC.out, HD.out, hd]; simp)
            clear hd HD HC
            generalize atF bs p1 = lB at HAB HDI HOB hab
            generalize atF ns p1 = lN at HAN HDI HON han
            go_wp2_with fail
            refine wp_region_held_drew (S := (fun w' => w'.cell? ⟨wr.heap.size, 0, none⟩ = some (.int .i64 p1) ∧ w'.cell? ⟨wr.heap.size, 1, none⟩ = some (.int .i64 p2))) (by kernel_rfl) (by simp [go_sem, ↓IntWalk.iteOmega, *]) (fun hHeld => ?_)
            refine wpAnyH_take (i := 0) (oi := ?oi1) (v := ?v1) ?hi1 (by kernel_rfl) (by kernel_rfl) (by kernel_rfl) ?hQ1 ?hy1 (by assumption) ?_
            case hi1 => (simp only [List.getElem?_toArray, List.getElem?_cons_succ, List.getElem?_cons_zero]; try rfl)
            case hQ1 => exact fun _ _ _ h => h
            case hy1 => (refine Or.inl ⟨by rfl, ?_⟩; intro wq hSw; (try dsimp only at hSw); go_simp; (try with_reducible rfl))
            (try simp only [Act.put, List.setIfInBounds_toArray, List.set_cons_zero, List.set_cons_succ])
            refine wpAnyH_take (i := 1) (oi := ?oi2) (v := ?v2) ?hi2 (by kernel_rfl) (by kernel_rfl) (by kernel_rfl) ?hQ2 ?hy2 (by assumption) ?_
            case hi2 => (simp only [List.getElem?_toArray, List.getElem?_cons_succ, List.getElem?_cons_zero]; try rfl)
            case hQ2 => exact fun _ _ _ h => h
            case hy2 => (refine Or.inl ⟨by rfl, ?_⟩; intro wq hSw; (try dsimp only at hSw); go_simp; (try with_reducible rfl))
            (try simp only [Act.put, List.setIfInBounds_toArray, List.set_cons_zero, List.set_cons_succ])
            refine wpAnyH_take (i := 2) (oi := ?oi3) (v := ?v3) ?hi3 (by kernel_rfl) (by kernel_rfl) (by kernel_rfl) ?hQ3 ?hy3 (by assumption) ?_
            case hi3 => (simp only [List.getElem?_toArray, List.getElem?_cons_succ, List.getElem?_cons_zero]; try rfl)
            case hQ3 => exact fun _ _ _ h => h
            case hy3 => (refine Or.inl ⟨by rfl, ?_⟩; intro wq hSw; (try dsimp only at hSw); go_simp; (try with_reducible rfl))
            (try simp only [Act.put, List.setIfInBounds_toArray, List.set_cons_zero, List.set_cons_succ])
            refine wpAnyH_take (i := 4) (oi := ?oi4) (v := ?v4) ?hi4 (by kernel_rfl) (by kernel_rfl) (by kernel_rfl) ?hQ4 ?hy4 (by assumption) ?_
            case hi4 => (simp only [List.getElem?_toArray, List.getElem?_cons_succ, List.getElem?_cons_zero]; try rfl)
            case hQ4 => exact fun _ _ _ h => h
            case hy4 => (refine Or.inl ⟨by rfl, ?_⟩; intro wq hSw; (try dsimp only at hSw); go_simp; (try with_reducible rfl))
            (try simp only [Act.put, List.setIfInBounds_toArray, List.set_cons_zero, List.set_cons_succ])
            refine wpAnyH_take (i := 5) (oi := ?oi5) (v := ?v5) ?hi5 (by kernel_rfl) (by kernel_rfl) (by kernel_rfl) ?hQ5 ?hy5 (by assumption) ?_
            case hi5 => (simp only [List.getElem?_toArray, List.getElem?_cons_succ, List.getElem?_cons_zero]; try rfl)
            case hQ5 => exact fun _ _ _ h => h
            case hy5 => (refine Or.inl ⟨by rfl, ?_⟩; intro wq hSw; (try dsimp only at hSw); go_simp; (try with_reducible rfl))
            (try simp only [Act.put, List.setIfInBounds_toArray, List.set_cons_zero, List.set_cons_succ])
            refine wpAnyH_take (i := 6) (oi := ?oi6) (v := ?v6) ?hi6 (by kernel_rfl) (by kernel_rfl) (by kernel_rfl) ?hQ6 ?hy6 (by assumption) ?_
            case hi6 => (simp only [List.getElem?_toArray, List.getElem?_cons_succ, List.getElem?_cons_zero]; try rfl)
            case hQ6 => exact fun _ _ _ h => h
            case hy6 => (refine Or.inl ⟨by rfl, ?_⟩; intro wq hSw; (try dsimp only at hSw); go_simp; (try with_reducible rfl))
            (try simp only [Act.put, List.setIfInBounds_toArray, List.set_cons_zero, List.set_cons_succ])
            refine wpAnyH_ready (rs := [3]) (by kernel_rfl) (by simp) ?_
            refine AllReadyH.cons (o := ?oi7) ?hi7 ?ti7 AllReadyH.nil
            case hi7 => (simp only [List.getElem?_toArray, List.getElem?_cons_succ, List.getElem?_cons_zero]; try rfl)
            case ti7 =>
              intro KQ hKQ
              go_simp
              go_at_call 25
              refine Calls.mono (HAB.out _ (RB.ext (hE2.tr (by repeat (first | exact Ext.refl' _ | assumption | apply Ext.ex' | apply Ext.al | apply Ext.drN | apply Ext.dr))))) ?_
              rintro e w1 ⟨A4, c4, rfl, hb1, hR4⟩
              obtain ⟨x4, rfl⟩ := hb1.get
              clear hb1
              refine hKQ.out _ _ (by simp [go_sem, ↓IntWalk.iteOmega, *]) (fun hHeld2 => ?_)
              clear hHeld hKQ KQ; have hHeld := hHeld2; clear hHeld2
              (try simp only [Act.put, List.setIfInBounds_toArray, List.set_cons_zero, List.set_cons_succ])
              refine wpAnyH_ready (rs := [7]) (by kernel_rfl) (by simp) ?_
              refine AllReadyH.cons (o := ?oi8) ?hi8 ?ti8 AllReadyH.nil
              case hi8 => (simp only [List.getElem?_toArray, List.getElem?_cons_succ, List.getElem?_cons_zero]; try rfl)
              case ti8 =>
                intro KQ hKQ
                go_simp
                go_at_call 25
                refine Calls.mono (HAN.out _ (RN.ext (hE2.tr (by repeat (first | exact Ext.refl' _ | assumption | apply Ext.ex' | apply Ext.al | apply Ext.drN | apply Ext.dr))))) ?_
                rintro e w1 ⟨A5, c5, rfl, hb1, hR5⟩
                obtain ⟨x5, rfl⟩ := hb1.get
                clear hb1
                refine hKQ.out _ _ (by simp [go_sem, ↓IntWalk.iteOmega, *]) (fun hHeld2 => ?_)
                clear hHeld hKQ KQ; have hHeld := hHeld2; clear hHeld2
                (try simp only [Act.put, List.setIfInBounds_toArray, List.set_cons_zero, List.set_cons_succ])
                refine wpAnyH_ready (rs := [8]) (by kernel_rfl) (by simp) ?_
                refine AllReadyH.cons (o := ?oi9) ?hi9 ?ti9 AllReadyH.nil
                case hi9 => (simp only [List.getElem?_toArray, List.getElem?_cons_succ, List.getElem?_cons_zero]; try rfl)
                case ti9 =>
                  intro KQ hKQ
                  go_simp
                  go_at_call 24
                  refine Calls.mono (HDI.out A4 A5 c4 c5 _ (hR4.ext (by repeat (first | exact Ext.refl' _ | assumption | apply Ext.ex' | apply Ext.al | apply Ext.drN | apply Ext.dr))) (hR5.ext (by repeat (first | exact Ext.refl' _ | assumption | apply Ext.ex' | apply Ext.al | apply Ext.drN | apply Ext.dr))) (fun p hp => (HOB.out p hp).ext (hE1.tr (hE2.tr (by repeat (first | exact Ext.refl' _ | assumption | apply Ext.ex' | apply Ext.al | apply Ext.drN | apply Ext.dr))))) (fun p hp => (HON.out p hp).ext (hE1.tr (hE2.tr (by repeat (first | exact Ext.refl' _ | assumption | apply Ext.ex' | apply Ext.al | apply Ext.drN | apply Ext.dr)))))) ?_
                  rintro e w1 ⟨rfl, hb1⟩
                  obtain ⟨x6, rfl⟩ := hb1.get
                  clear hb1
                  refine hKQ.out _ _ (by simp [go_sem, ↓IntWalk.iteOmega, *]) (fun hHeld2 => ?_)
                  clear hHeld hKQ KQ; have hHeld := hHeld2; clear hHeld2
                  (try simp only [Act.put, List.setIfInBounds_toArray, List.set_cons_zero, List.set_cons_succ])
                  refine wpAnyH_done (by kernel_rfl) ?_ _
                  try dsimp only at hHeld
                  obtain ⟨f0, f1⟩ := hHeld
                  go_wp2_with (at_builtin; refine wpList_app _ rfl (.tmp 76) (.tmp 80) rfl elAcc W1 (hE2.tr (by repeat (first | exact Ext.refl' _ | assumption | apply Ext.ex' | apply Ext.al | apply Ext.drN | apply Ext.dr))) _ acc.length (acl acc) rfl (World.ownsRow.alloc (by exact ownsRow_ext hrow (by repeat (first | exact Ext.refl' _ | assumption | apply Ext.ex' | apply Ext.al | apply Ext.drN | apply Ext.dr))) _) _ 1 1 (ac (tn, (p1, p2))) rfl (Rd.lit _ #[.string tn, .int .i64 p1, .int .i64 p2] _ 1 3 rfl (by simp [size_ext])) (by have := oneCell_acl [(tn, (p1, p2))]; rwa [acl_one] at this) (by unfold maxLen; omega) (by omega) ?_; intro v' x' hown' _)
                  go_roundw
                  case rel => exact ⟨k + 1, acc ++ [(tn, (p1, p2))], by omega, by go_num, by simp; omega, HN2, Ext.ex _ _, by rw [List.length_append, List.length_singleton, acl_append, acl_one]; exact hown'⟩
                  case measure => simp [intOf]; omega
        · have HX : Hid (chgL tn l since = acc) := Lib.hid (by rw [HC.out, List.drop_eq_nil_of_le (Nat.le_of_not_lt hlt)]; simp)
          have hRo := Rd.of_own hrow
          have HMG := Lib.hid (merge_any A6 acc.length d6 acc wr rfl hRo (by omega) (fun a ha => by
            have : a ∈ chgL tn l since := by rw [HX.out]; exact ha
            unfold chgL at this
            obtain ⟨p, _, rfl⟩ := List.mem_map.1 this
            exact htn))
          go_wp2_with (go_at_call 13; refine Calls.mono HMG.out ?_; rintro e w1 ⟨A', c', r, rfl, hb1, hR, hst⟩)
          go_ret
          exact ⟨A', c', r, rfl, hE1.tr (hE2.tr hb1), hR, by rw [HX.out]; exact hst⟩

end Go.Proofs.YtpifjhoelnacgaaGreat
