/- Check. -/
import Derived.Test.YtdmbgimehepfaaaBtCl
set_option linter.unusedSimpArgs false
set_option linter.unusedVariables false
namespace Go.Proofs.Ytdmbgimehepfaaa
open Go.RowKit


/-- the boxes of Check's closure: ascending, n, before -/
def ICk (w : World) (b1 b2 b3 : Nat) (ds : List MP) (W : World) : Prop :=
  (∃ a : Bool, (a = true ↔ Srt ds) ∧ W.heap[b1]? = some (.cells #[.bool a] 4 (0, 0))) ∧ W.heap[b2]? = some (.cells #[.int .i64 ds.length] 3 (0, 0)) ∧
  (∃ z : MP, W.heap[b3]? = some (.cells #[.slice z.A z.n z.c, .int .i64 z.id] TP (0, 0)) ∧ (ds = [] ∨ (ds.getLast? = some z ∧ KR W z)))
def MCk (b1 b2 b3 : Nat) (b : Nat) (_ : TypeId) : Prop := b = b1 ∨ b = b2 ∨ b = b3
theorem ICk.ext {w W W' : World} {b1 b2 b3 : Nat} {ds : List MP} (h : ICk w b1 b2 b3 ds W) (e : Ext W W') : ICk w b1 b2 b3 ds W' := by
  obtain ⟨⟨a, h1, h2⟩, h3, z, h4, h5⟩ := h
  exact ⟨⟨a, h1, e.at h2⟩, e.at h3, z, e.at h4, h5.imp id fun h => ⟨h.1, h.2.ext e⟩⟩
theorem srt_snoc {ds : List MP} {q : MP} : Srt (ds ++ [q]) ↔ Srt ds ∧ (ds = [] ∨ ∃ z, ds.getLast? = some z ∧ ltP z.kp q.kp) := by
  unfold Srt
  rw [List.pairwise_append]
  constructor
  · rintro ⟨h1, _, h3⟩
    refine ⟨h1, ?_⟩
    rcases List.eq_nil_or_concat ds with rfl | ⟨Y, z, rfl⟩
    · exact .inl rfl
    · exact .inr ⟨z, by simp, h3 z (by simp) q (by simp)⟩
  · rintro ⟨h1, h2⟩
    refine ⟨h1, by simp, fun x hx y hy => ?_⟩
    simp at hy
    subst hy
    rcases h2 with rfl | ⟨z, hz, hlt⟩
    · cases hx
    · rcases List.eq_nil_or_concat ds with rfl | ⟨Y, z', rfl⟩
      · cases hx
      · simp at hz
        subst hz
        rw [List.concat_eq_append] at hx h1
        rcases List.mem_append.1 hx with hx | hx
        · exact ltP_trans ((List.pairwise_append.1 h1).2.2 x hx z' (by simp)) hlt
        · simp at hx; subst hx; exact hlt
set_option maxRecDepth 100000 in
set_option maxHeartbeats 8000000 in
theorem ck1_any (base b1 b2 b3 : Nat) (w : World) (h12 : b1 ≠ b2) (h13 : b1 ≠ b3) (h23 : b2 ≠ b3) (hb : w.heap.size ≤ b1 ∧ w.heap.size ≤ b2 ∧ w.heap.size ≤ b3) : ∀ q ds W, KOk base w q → Ext w W → ds.length + 1 ≤ 1048576 → ICk w b1 b2 b3 ds W →
    Calls Try.prog 39 #[pv q, pt b1, pt b2, pt b3] W fun e W' => e = .returned (.bool true) ∧ Trn (MCk b1 b2 b3) W W' ∧ ICk w b1 b2 b3 (ds ++ [q]) W' := by
  intro q ds W hq hE hds hI
  obtain ⟨⟨a, ha, hh1⟩, hh2, z, hh3, hz⟩ := hI
  obtain ⟨r1, c1, f1⟩ := one_cell hh1
  obtain ⟨r2, c2, f2⟩ := one_cell hh2
  obtain ⟨r3, c3, c4, f3, f4⟩ := two_cells hh3
  have HQ := Lib.hid (hq.kr.ext hE)
  have H1 := Lib.hid hh1
  have H2 := Lib.hid hh2
  have H3 := Lib.hid hh3
  obtain ⟨n, hn⟩ : ∃ n, ds.length = n := ⟨_, rfl⟩
  rw [hn] at c2 hds
  have HN := Lib.hid hn
  have hwn : IntKind.i64.wrap ((n : Int) + 1) = (n : Int) + 1 := IntWalk.i64_in _ (by omega)
  have HA := Lib.hid ha
  have FIN : Hid (∀ (W' : World) (a' : Bool), Ext ((((W.setCell ⟨b1, 0, none⟩ (.bool a')).setCell ⟨b3, 0, none⟩ (.slice q.A q.n q.c)).setCell ⟨b3, 1, none⟩ (.int .i64 q.id)).setCell ⟨b2, 0, none⟩ (.int .i64 ((n : Int) + 1))) W' → (a' = true ↔ Srt (ds ++ [q])) → Trn (MCk b1 b2 b3) W W' ∧ ICk w b1 b2 b3 (ds ++ [q]) W') := Lib.hid fun W' a' e ha' => by
    have t1 : Trn (MCk b1 b2 b3) W (W.setCell ⟨b1, 0, none⟩ (.bool a')) := Trn.set H1.out (.inl rfl)
    have g1 := set_heap H1.out 0 (.bool a')
    have g2 : (W.setCell ⟨b1, 0, none⟩ (.bool a')).heap[b2]? = _ := (set_other (fun e => h12 e.symm)).trans H2.out
    have g3 : (W.setCell ⟨b1, 0, none⟩ (.bool a')).heap[b3]? = _ := (set_other (fun e => h13 e.symm)).trans H3.out
    generalize W.setCell ⟨b1, 0, none⟩ (.bool a') = V1 at t1 g1 g2 g3 e
    have t2 : Trn (MCk b1 b2 b3) V1 (V1.setCell ⟨b3, 0, none⟩ (.slice q.A q.n q.c)) := Trn.set g3 (.inr (.inr rfl))
    have g1' : (V1.setCell ⟨b3, 0, none⟩ (.slice q.A q.n q.c)).heap[b1]? = _ := (set_other h13).trans g1
    have g2' : (V1.setCell ⟨b3, 0, none⟩ (.slice q.A q.n q.c)).heap[b2]? = _ := (set_other h23).trans g2
    have g3' := set_heap g3 0 (.slice q.A q.n q.c)
    generalize V1.setCell ⟨b3, 0, none⟩ (.slice q.A q.n q.c) = V2 at t2 g1' g2' g3' e
    have t3 : Trn (MCk b1 b2 b3) V2 (V2.setCell ⟨b3, 1, none⟩ (.int .i64 q.id)) := Trn.set g3' (.inr (.inr rfl))
    have k1 : (V2.setCell ⟨b3, 1, none⟩ (.int .i64 q.id)).heap[b1]? = _ := (set_other h13).trans g1'
    have k2 : (V2.setCell ⟨b3, 1, none⟩ (.int .i64 q.id)).heap[b2]? = _ := (set_other h23).trans g2'
    have k3 := set_heap g3' 1 (.int .i64 q.id)
    generalize V2.setCell ⟨b3, 1, none⟩ (.int .i64 q.id) = V3 at t3 k1 k2 k3 e
    have t4 : Trn (MCk b1 b2 b3) V3 (V3.setCell ⟨b2, 0, none⟩ (.int .i64 ((n : Int) + 1))) := Trn.set k2 (.inr (.inl rfl))
    have m1 : (V3.setCell ⟨b2, 0, none⟩ (.int .i64 ((n : Int) + 1))).heap[b1]? = _ := (set_other h12).trans k1
    have m2 := set_heap k2 0 (.int .i64 ((n : Int) + 1))
    have m3 : (V3.setCell ⟨b2, 0, none⟩ (.int .i64 ((n : Int) + 1))).heap[b3]? = _ := (set_other (fun e => h23 e.symm)).trans k3
    generalize V3.setCell ⟨b2, 0, none⟩ (.int .i64 ((n : Int) + 1)) = V4 at t4 m1 m2 m3 e
    have tt : Trn (MCk b1 b2 b3) W V4 := t1.trans (t2.trans (t3.trans t4))
    have hq2 : KR V4 q := hq.kr.ext (tt.ext hE (fun b _ h => by rcases h with rfl | rfl | rfl; exact hb.1; exact hb.2.1; exact hb.2.2))
    refine ⟨tt.trans (Trn.ofExt e), ICk.ext ⟨⟨a', ha', m1⟩, ?_, q, m3, .inr ⟨by simp, hq2⟩⟩ e⟩
    rw [show ((ds ++ [q]).length : Int) = (n : Int) + 1 by rw [List.length_append, HN.out]; simp]
    exact m2
  have HZ := Lib.hid hz
  clear hh1 hh2 hh3 hq hE hn ha hz
  cases a with
  | false =>
    have HS : Hid ((false = true) ↔ Srt (ds ++ [q])) := Lib.hid ⟨fun h => (by cases h), fun h => (by have := HA.out.2 (srt_snoc.1 h).1; cases this)⟩
    go_enter Try.func39, Try.ntmps39
    go_wp2
    go_ret
    exact ⟨rfl, FIN.out _ false (by repeat (first | exact Ext.refl' _ | assumption | apply Ext.ex' | apply Ext.al | apply Ext.drN | apply Ext.dr)) (by simpa using HS.out)⟩
  | true =>
    by_cases hn0 : n = 0
    · subst hn0
      have HS : Hid ((true = true) ↔ Srt (ds ++ [q])) := Lib.hid ⟨fun _ => by rw [List.eq_nil_of_length_eq_zero HN.out]; exact List.pairwise_singleton _ _, fun _ => rfl⟩
      go_enter Try.func39, Try.ntmps39
      go_wp2
      go_ret
      exact ⟨rfl, FIN.out _ true (by repeat (first | exact Ext.refl' _ | assumption | apply Ext.ex' | apply Ext.al | apply Ext.drN | apply Ext.dr)) (by simpa using HS.out)⟩
    · have hzz : ds.getLast? = some z ∧ KR W z := HZ.out.resolve_left (fun e => hn0 (by rw [← HN.out, e]; rfl))
      have HCP : Hid (∀ W', Ext W W' → Calls Try.prog 40 #[pv z, pv q] W' fun e w' => e = .returned (.int .i64 (cmpP z.kp q.kp)) ∧ Ext W' w') := Lib.hid fun W' hE' => cmpp_any z q W' (hzz.2.ext hE') (HQ.out.ext hE')
      have HS0 : Hid (cmpP z.kp q.kp < 0 ↔ Srt (ds ++ [q])) := Lib.hid (by
        rw [srt_snoc, cmpP_lt]
        refine ⟨fun h => ⟨HA.out.1 rfl, .inr ⟨z, hzz.1, h⟩⟩, fun h => ?_⟩
        rcases h.2 with h | ⟨z', h1, h2⟩
        · rw [h] at hzz; simp at hzz
        · rw [hzz.1] at h1; cases h1; exact h2)
      have hnz : ¬ ((n : Int) = 0) := by omega
      generalize cmpP z.kp q.kp = y at HCP HS0
      clear hzz
      by_cases hy : y < 0
      · have HS : Hid ((true = true) ↔ Srt (ds ++ [q])) := Lib.hid ⟨fun _ => HS0.out.1 hy, fun _ => rfl⟩
        go_enter Try.func39, Try.ntmps39
        go_wp2_with (go_at_call 40; refine Calls.mono (HCP.out _ (by repeat (first | exact Ext.refl' _ | assumption | apply Ext.ex' | apply Ext.al | apply Ext.drN | apply Ext.dr))) ?_; rintro e w1 ⟨rfl, hb1⟩; obtain ⟨x1, rfl⟩ := hb1.get; clear hb1)
        go_ret
        exact ⟨rfl, FIN.out _ true (by repeat (first | exact Ext.refl' _ | assumption | apply Ext.ex' | apply Ext.al | apply Ext.drN | apply Ext.dr)) (by simpa using HS.out)⟩
      · have HS : Hid ((false = true) ↔ Srt (ds ++ [q])) := Lib.hid ⟨fun h => (by cases h), fun h => absurd (HS0.out.2 h) hy⟩
        go_enter Try.func39, Try.ntmps39
        go_wp2_with (go_at_call 40; refine Calls.mono (HCP.out _ (by repeat (first | exact Ext.refl' _ | assumption | apply Ext.ex' | apply Ext.al | apply Ext.drN | apply Ext.dr))) ?_; rintro e w1 ⟨rfl, hb1⟩; obtain ⟨x1, rfl⟩ := hb1.get; clear hb1)
        go_ret
        have he : (((n : Int) == 0) || decide (y < 0)) = false := by rw [show decide (y < 0) = false from decide_eq_false (by omega), Bool.or_false]; simp; omega
        first
        | exact ⟨rfl, FIN.out _ (((n : Int) == 0) || decide (y < 0)) (by repeat (first | exact Ext.refl' _ | assumption | apply Ext.ex' | apply Ext.al | apply Ext.drN | apply Ext.dr)) (by rw [he]; exact HS.out)⟩
        | exact ⟨rfl, FIN.out _ false (by repeat (first | exact Ext.refl' _ | assumption | apply Ext.ex' | apply Ext.al | apply Ext.drN | apply Ext.dr)) (by simpa using HS.out)⟩


set_option maxHeartbeats 2000000 in
theorem Check_nil (w : World) : Calls Try.prog 17 #[.pointer none] w fun e w' => e = .returned (.bool false) ∧ Ext w w' := by
  go_enter Try.func17, Try.ntmps17
  go_wp2
  go_ret
  exact ⟨rfl, by repeat (first | exact Ext.refl' _ | assumption | apply Ext.ex' | apply Ext.al | apply Ext.drN | apply Ext.dr)⟩
theorem geB_all (l : List MP) (id : Int) (h : ∀ q ∈ l, id ≤ q.id) : l.filter (geB ([], id)) = l := by
  rw [List.filter_eq_self]
  intro q hq
  refine geB_true fun e => ?_
  rcases e with e | ⟨e, e2⟩
  · cases hk : q.key with
    | nil => rw [show q.kp.1 = [] from hk] at e; exact e
    | cons a r => rw [show q.kp.1 = a :: r from hk] at e; exact e
  · have := h q hq
    have e2 : q.id < id := e2
    omega
set_option maxRecDepth 100000 in
set_option maxHeartbeats 8000000 in
theorem Check_any (base m tb : Nat) (l : List MP) (F : List Nat) (w : World) (hm : 2 ≤ m) (hm2 : m ≤ 64) (hT : TreeIs base w tb m l F) (hid : ∀ q ∈ l, -9223372036854775808 ≤ q.id) : Calls Try.prog 17 #[pt tb] w fun e w' => e = .returned (.bool true) ∧ Ext w w' := by
  have HT := Lib.hid hT
  have HID := Lib.hid hid
  rcases hT.root with ⟨h1, _, h0⟩ | ⟨d, t, h0, hG, _, hW, hfl, _⟩
  · obtain ⟨rb, k0, k1, k2, _, _, _⟩ := three_cells h0
    clear hT h1 h0 hid
    go_enter Try.func17, Try.ntmps17
    go_wp2
    go_ret
    exact ⟨rfl, by repeat (first | exact Ext.refl' _ | assumption | apply Ext.ex' | apply Ext.al | apply Ext.drN | apply Ext.dr)⟩
  · have hd := flat_depth (m := m) (by omega) hW (Nat.le_refl _)
    have hdl : d ≤ 1048576 := by have := hT.len; rw [hfl] at hd; omega
    have H0 := Lib.hid h0
    have HG := Lib.hid hG
    have HW := Lib.hid hW
    have HFL := Lib.hid hfl
    have hw0 : w.heap.size < w.heap.size + 1 := Nat.lt_succ_self _
    obtain ⟨rb, k0, k1, k2, _, _, _⟩ := three_cells h0
    clear hT h0 hG hW hfl hd hid
    go_enter Try.func17, Try.ntmps17
    have HV : Hid (∀ W, Ext (((w.alloc (.cells #[.int .i64 0] 3)).alloc (.cells #[.bool true] 4)).alloc (.cells #[.slice none 0 0, .int .i64 0] TP)) W → Calls Try.prog 38 #[pt t.r, pv (⟨none, 0, 0, [], -9223372036854775808⟩ : MP), .func (.func 39) #[] #[pt (w.heap.size + 1), pt w.heap.size, pt (w.heap.size + 1 + 1)]] W (VisP (MCk (w.heap.size + 1) w.heap.size (w.heap.size + 1 + 1)) (fun _ => true) (ICk w (w.heap.size + 1) w.heap.size (w.heap.size + 1 + 1)) W [] ((flat d t).filter (geB ([], -9223372036854775808))))) := Lib.hid fun W hE => by
      have hE2 : Ext w (((w.alloc (.cells #[.int .i64 0] 3)).alloc (.cells #[.bool true] 4)).alloc (.cells #[.slice none 0 0, .int .i64 0] TP)) := Ext.al (Ext.al (Ext.al1 _ _) _) _
      have hs : (((w.alloc (.cells #[.int .i64 0] 3)).alloc (.cells #[.bool true] 4)).alloc (.cells #[.slice none 0 0, .int .i64 0] TP)).heap.size = w.heap.size + 3 := by simp
      refine visitC_any base m (w.heap.size + 1) w.heap.size (w.heap.size + 1 + 1) (MCk (w.heap.size + 1) w.heap.size (w.heap.size + 1 + 1)) (fun _ => true) 1048576 (ICk w (w.heap.size + 1) w.heap.size (w.heap.size + 1 + 1)) (⟨none, 0, 0, [], -9223372036854775808⟩ : MP) w hm hm2 (fun b ty h => by rcases h with rfl | rfl | rfl <;> omega) _ hE2 (fun b hb h => by rw [hs] at hb; rcases h with rfl | rfl | rfl <;> omega) (fun ds W W' h e => h.ext e) ⟨rfl, Rd.nil, by simp⟩ (fun q ds W hq hE _ hd hI => ck1_any base (w.heap.size + 1) w.heap.size (w.heap.size + 1 + 1) w (by omega) (by omega) (by omega) ⟨by omega, by omega, by omega⟩ q ds W hq hE hd hI) d 1 t [] W HG.out HW.out (HFL.out ▸ HT.out.srt) (fun q hq => HT.out.key q (HFL.out ▸ hq)) (hE2.tr hE) hE.size ?_ ?_
      · have h1 := List.length_filter_le (geB (⟨none, 0, 0, [], -9223372036854775808⟩ : MP).kp) (flat d t)
        have h2 := HT.out.len
        rw [← HFL.out] at h2
        simp only [List.length_nil, Nat.zero_add]
        omega
      · have e1 := hE.at (((Ext.al (Ext.al1 (w.alloc (.cells #[.int .i64 0] 3)) (.cells #[.bool true] 4)) (.cells #[.slice none 0 0, .int .i64 0] TP))).at (heap_alloc_new w (.cells #[.int .i64 0] 3)))
        have e2 := hE.at ((Ext.al1 ((w.alloc (.cells #[.int .i64 0] 3)).alloc (.cells #[.bool true] 4)) (.cells #[.slice none 0 0, .int .i64 0] TP)).at (heap_alloc_new (w.alloc (.cells #[.int .i64 0] 3)) (.cells #[.bool true] 4)))
        have e3 := hE.at (heap_alloc_new ((w.alloc (.cells #[.int .i64 0] 3)).alloc (.cells #[.bool true] 4)) (.cells #[.slice none 0 0, .int .i64 0] TP))
        rw [show (w.alloc (.cells #[.int .i64 0] 3)).heap.size = w.heap.size + 1 by simp] at e2
        rw [show ((w.alloc (.cells #[.int .i64 0] 3)).alloc (.cells #[.bool true] 4)).heap.size = w.heap.size + 1 + 1 by simp] at e3
        exact ⟨⟨true, ⟨fun _ => List.Pairwise.nil, fun _ => rfl⟩, e2⟩, e1, ⟨none, 0, 0, [], 0⟩, e3, .inl rfl⟩
    go_wp2_with fail
    refine Calls.mono (HV.out _ (by repeat (first | exact Ext.refl' _ | assumption | apply Ext.ex' | apply Ext.al | apply Ext.drN | apply Ext.dr))) ?_
    rintro e w3 ⟨b, rfl, hK3, hV⟩
    have hE3 : Ext w w3 := hK3.ext (w := w) (Ext.al (Ext.al (Ext.al1 _ _) _) _) (fun b ty h => by rcases h with rfl | rfl | rfl <;> omega)
    have hall := geB_all l (-9223372036854775808) HID.out
    rw [HFL.out, hall] at hV
    have hI : ICk w (w.heap.size + 1) w.heap.size (w.heap.size + 1 + 1) l w3 := by
      rcases hV with ⟨_, _, h⟩ | ⟨_, _, _, _, _, _, h, _⟩
      · simpa using h
      · cases h
    obtain ⟨⟨a, ha, h1⟩, h2, _⟩ := hI
    obtain rfl : a = true := ha.2 HT.out.srt
    obtain ⟨r1, c1, _⟩ := one_cell h1
    obtain ⟨r2, c2, _⟩ := one_cell h2
    obtain ⟨rb, k0, k1, k2, _, _, _⟩ := three_cells (hE3.at H0.out)
    have HDP : Hid (∀ W, Ext w3 W → Calls Try.prog 16 #[pt tb] W fun e w' => e = .returned (.int .i64 ((1 + d : Nat) : Int)) ∧ Ext W w') := Lib.hid fun W hE => by
      rw [Nat.add_comm 1 d]
      exact Depth_at base m tb d _ _ t W hm hm2 ((hE3.tr hE).at H0.out) (HG.out.ext (hE3.tr hE)) HW.out hdl
    have HSO : Hid (∀ W, Ext w3 W → Calls Try.prog 41 #[pt tb, pt t.r, .int .i64 1, .int .i64 ((1 + d : Nat) : Int)] W fun e w' => e = .returned (.bool true) ∧ Ext W w') := Lib.hid fun W hE => by
      have := sound_any base m tb hm hm2 w (three_cells H0.out).2.2.1 d t 1 W HG.out (by rw [if_pos rfl]; exact HW.out) (Nat.le_refl _) (by omega) (hE3.tr hE)
      exact this
    obtain ⟨dd, hdd⟩ : ∃ dd : Int, ((1 + d : Nat) : Int) = dd := ⟨_, rfl⟩
    rw [hdd] at HDP HSO
    obtain ⟨nl, hnl⟩ : ∃ n, l.length = n := ⟨_, rfl⟩
    rw [hnl] at c2 k2
    obtain ⟨bn, hbn⟩ : ∃ b, w.heap.size = b := ⟨_, rfl⟩
    rw [hbn] at c1 c2 r1 r2 ⊢
    have HE3 := Lib.hid hE3
    clear hK3 hV hall ha h1 h2 hdd hdl hnl hw0 hbn
    go_wp2
    refine wp_region_held_drew (S := (fun w' => w'.cell? ⟨tb, 0, none⟩ = some (pt t.r) ∧ w'.cell? ⟨tb, 2, none⟩ = some (.int .i64 nl) ∧ w'.cell? ⟨bn, 0, none⟩ = some (.int .i64 nl) ∧ w'.cell? ⟨bn + 1, 0, none⟩ = some (.bool true))) (by kernel_rfl) (by simp [go_sem, ↓IntWalk.iteOmega, *]) (fun hHeld => ?_)
    refine wpAnyH_take (i := 0) (oi := ?oi1) (v := ?v1) ?hi1 (by kernel_rfl) (by kernel_rfl) (by kernel_rfl) ?hQ1 ?hy1 (by assumption) ?_
    case hi1 => (simp only [List.getElem?_toArray, List.getElem?_cons_succ, List.getElem?_cons_zero]; try rfl)
    case hQ1 => exact fun _ _ _ h => h
    case hy1 => (refine Or.inl ⟨by rfl, ?_⟩; intro wq hSw; (try dsimp only at hSw); go_simp; (try with_reducible rfl))
    (try simp only [Act.put, List.setIfInBounds_toArray, List.set_cons_zero, List.set_cons_succ])
    refine wpAnyH_take (i := 1) (oi := ?oi2) (v := ?v2) ?hi2 (by kernel_rfl) (by kernel_rfl) (by kernel_rfl) ?hQ2 ?hy2 (by assumption) ?_
    case hi2 => (simp only [List.getElem?_toArray, List.getElem?_cons_succ, List.getElem?_cons_zero]; try rfl)
    case hQ2 => exact fun _ _ _ h => h
    case hy2 => (refine Or.inl ⟨by rfl, ?_⟩; intro wq hSw; (try dsimp only at hSw); go_simp; (try with_reducible rfl))
    (try simp only [Act.put, List.setIfInBounds_toArray, List.set_cons_zero, List.set_cons_succ])
    refine wpAnyH_take (i := 2) (oi := ?oi3) (v := ?v3) ?hi3 (by kernel_rfl) (by kernel_rfl) (by kernel_rfl) ?hQ3 ?hy3 (by assumption) ?_
    case hi3 => (simp only [List.getElem?_toArray, List.getElem?_cons_succ, List.getElem?_cons_zero]; try rfl)
    case hQ3 => exact fun _ _ _ h => h
    case hy3 => (refine Or.inl ⟨by rfl, ?_⟩; intro wq hSw; (try dsimp only at hSw); go_simp; (try with_reducible rfl))
    (try simp only [Act.put, List.setIfInBounds_toArray, List.set_cons_zero, List.set_cons_succ])
    refine wpAnyH_take (i := 3) (oi := ?oi4) (v := ?v4) ?hi4 (by kernel_rfl) (by kernel_rfl) (by kernel_rfl) ?hQ4 ?hy4 (by assumption) ?_
    case hi4 => (simp only [List.getElem?_toArray, List.getElem?_cons_succ, List.getElem?_cons_zero]; try rfl)
    case hQ4 => exact fun _ _ _ h => h
    case hy4 => (refine Or.inl ⟨by rfl, ?_⟩; intro wq hSw; (try dsimp only at hSw); go_simp; (try with_reducible rfl))
    (try simp only [Act.put, List.setIfInBounds_toArray, List.set_cons_zero, List.set_cons_succ])
    refine wpAnyH_take (i := 4) (oi := ?oi5) (v := ?v5) ?hi5 (by kernel_rfl) (by kernel_rfl) (by kernel_rfl) ?hQ5 ?hy5 (by assumption) ?_
    case hi5 => (simp only [List.getElem?_toArray, List.getElem?_cons_succ, List.getElem?_cons_zero]; try rfl)
    case hQ5 => exact fun _ _ _ h => h
    case hy5 => (refine Or.inl ⟨by rfl, ?_⟩; intro wq hSw; (try dsimp only at hSw); go_simp; (try with_reducible rfl))
    (try simp only [Act.put, List.setIfInBounds_toArray, List.set_cons_zero, List.set_cons_succ])
    refine wpAnyH_take (i := 5) (oi := ?oi6) (v := ?v6) ?hi6 (by kernel_rfl) (by kernel_rfl) (by kernel_rfl) ?hQ6 ?hy6 (by assumption) ?_
    case hi6 => (simp only [List.getElem?_toArray, List.getElem?_cons_succ, List.getElem?_cons_zero]; try rfl)
    case hQ6 => exact fun _ _ _ h => h
    case hy6 => (refine Or.inl ⟨by rfl, ?_⟩; intro wq hSw; (try dsimp only at hSw); go_simp; (try with_reducible rfl))
    (try simp only [Act.put, List.setIfInBounds_toArray, List.set_cons_zero, List.set_cons_succ])
    refine wpAnyH_take (i := 6) (oi := ?oi7) (v := ?v7) ?hi7 (by kernel_rfl) (by kernel_rfl) (by kernel_rfl) ?hQ7 ?hy7 (by assumption) ?_
    case hi7 => (simp only [List.getElem?_toArray, List.getElem?_cons_succ, List.getElem?_cons_zero]; try rfl)
    case hQ7 => exact fun _ _ _ h => h
    case hy7 => (refine Or.inl ⟨by rfl, ?_⟩; intro wq hSw; (try dsimp only at hSw); go_simp; (try with_reducible rfl))
    (try simp only [Act.put, List.setIfInBounds_toArray, List.set_cons_zero, List.set_cons_succ])
    refine wpAnyH_take (i := 7) (oi := ?oi8) (v := ?v8) ?hi8 (by kernel_rfl) (by kernel_rfl) (by kernel_rfl) ?hQ8 ?hy8 (by assumption) ?_
    case hi8 => (simp only [List.getElem?_toArray, List.getElem?_cons_succ, List.getElem?_cons_zero]; try rfl)
    case hQ8 => exact fun _ _ _ h => h
    case hy8 => (refine Or.inl ⟨by rfl, ?_⟩; intro wq hSw; (try dsimp only at hSw); go_simp; (try with_reducible rfl))
    (try simp only [Act.put, List.setIfInBounds_toArray, List.set_cons_zero, List.set_cons_succ])
    refine wpAnyH_take (i := 8) (oi := ?oi9) (v := ?v9) ?hi9 (by kernel_rfl) (by kernel_rfl) (by kernel_rfl) ?hQ9 ?hy9 (by assumption) ?_
    case hi9 => (simp only [List.getElem?_toArray, List.getElem?_cons_succ, List.getElem?_cons_zero]; try rfl)
    case hQ9 => exact fun _ _ _ h => h
    case hy9 => (refine Or.inl ⟨by rfl, ?_⟩; intro wq hSw; (try dsimp only at hSw); go_simp; (try with_reducible rfl))
    (try simp only [Act.put, List.setIfInBounds_toArray, List.set_cons_zero, List.set_cons_succ])
    refine wpAnyH_take (i := 9) (oi := ?oi10) (v := ?v10) ?hi10 (by kernel_rfl) (by kernel_rfl) (by kernel_rfl) ?hQ10 ?hy10 (by assumption) ?_
    case hi10 => (simp only [List.getElem?_toArray, List.getElem?_cons_succ, List.getElem?_cons_zero]; try rfl)
    case hQ10 => exact fun _ _ _ h => h
    case hy10 => (refine Or.inl ⟨by rfl, ?_⟩; intro wq hSw; (try dsimp only at hSw); go_simp; (try with_reducible rfl))
    (try simp only [Act.put, List.setIfInBounds_toArray, List.set_cons_zero, List.set_cons_succ])
    refine wpAnyH_take (i := 10) (oi := ?oi11) (v := ?v11) ?hi11 (by kernel_rfl) (by kernel_rfl) (by kernel_rfl) ?hQ11 ?hy11 (by assumption) ?_
    case hi11 => (simp only [List.getElem?_toArray, List.getElem?_cons_succ, List.getElem?_cons_zero]; try rfl)
    case hQ11 => exact fun _ _ _ h => h
    case hy11 => (refine Or.inl ⟨by rfl, ?_⟩; intro wq hSw; (try dsimp only at hSw); go_simp; (try with_reducible rfl))
    (try simp only [Act.put, List.setIfInBounds_toArray, List.set_cons_zero, List.set_cons_succ])
    refine wpAnyH_take (i := 11) (oi := ?oi12) (v := ?v12) ?hi12 (by kernel_rfl) (by kernel_rfl) (by kernel_rfl) ?hQ12 ?hy12 (by assumption) ?_
    case hi12 => (simp only [List.getElem?_toArray, List.getElem?_cons_succ, List.getElem?_cons_zero]; try rfl)
    case hQ12 => exact fun _ _ _ h => h
    case hy12 => (refine Or.inl ⟨by rfl, ?_⟩; intro wq hSw; (try dsimp only at hSw); go_simp; (try with_reducible rfl))
    (try simp only [Act.put, List.setIfInBounds_toArray, List.set_cons_zero, List.set_cons_succ])
    refine wpAnyH_take (i := 12) (oi := ?oi13) (v := ?v13) ?hi13 (by kernel_rfl) (by kernel_rfl) (by kernel_rfl) ?hQ13 ?hy13 (by assumption) ?_
    case hi13 => (simp only [List.getElem?_toArray, List.getElem?_cons_succ, List.getElem?_cons_zero]; try rfl)
    case hQ13 => exact fun _ _ _ h => h
    case hy13 => (refine Or.inl ⟨by rfl, ?_⟩; intro wq hSw; (try dsimp only at hSw); go_simp; (try with_reducible rfl))
    (try simp only [Act.put, List.setIfInBounds_toArray, List.set_cons_zero, List.set_cons_succ])
    refine wpAnyH_take (i := 13) (oi := ?oi14) (v := ?v14) ?hi14 (by kernel_rfl) (by kernel_rfl) (by kernel_rfl) ?hQ14 ?hy14 (by assumption) ?_
    case hi14 => (simp only [List.getElem?_toArray, List.getElem?_cons_succ, List.getElem?_cons_zero]; try rfl)
    case hQ14 => exact fun _ _ _ h => h
    case hy14 => (refine Or.inl ⟨by rfl, ?_⟩; intro wq hSw; (try dsimp only at hSw); go_simp; (try with_reducible rfl))
    (try simp only [Act.put, List.setIfInBounds_toArray, List.set_cons_zero, List.set_cons_succ])
    refine wpAnyH_take (i := 14) (oi := ?oi15) (v := ?v15) ?hi15 (by kernel_rfl) (by kernel_rfl) (by kernel_rfl) ?hQ15 ?hy15 (by assumption) ?_
    case hi15 => (simp only [List.getElem?_toArray, List.getElem?_cons_succ, List.getElem?_cons_zero]; try rfl)
    case hQ15 => exact fun _ _ _ h => h
    case hy15 => (refine Or.inl ⟨by rfl, ?_⟩; intro wq hSw; (try dsimp only at hSw); go_simp; (try with_reducible rfl))
    (try simp only [Act.put, List.setIfInBounds_toArray, List.set_cons_zero, List.set_cons_succ])
    refine wpAnyH_take (i := 15) (oi := ?oi16) (v := ?v16) ?hi16 (by kernel_rfl) (by kernel_rfl) (by kernel_rfl) ?hQ16 ?hy16 (by assumption) ?_
    case hi16 => (simp only [List.getElem?_toArray, List.getElem?_cons_succ, List.getElem?_cons_zero]; try rfl)
    case hQ16 => exact fun _ _ _ h => h
    case hy16 => (refine Or.inl ⟨by rfl, ?_⟩; intro wq hSw; (try dsimp only at hSw); go_simp; (try with_reducible rfl))
    (try simp only [Act.put, List.setIfInBounds_toArray, List.set_cons_zero, List.set_cons_succ])
    refine wpAnyH_ready (rs := [16]) (by kernel_rfl) (by simp) ?_
    refine AllReadyH.cons (o := ?oi17) ?hi17 ?ti17 AllReadyH.nil
    case hi17 => (simp only [List.getElem?_toArray, List.getElem?_cons_succ, List.getElem?_cons_zero]; try rfl)
    case ti17 =>
      intro KQ hKQ
      go_simp
      go_at_call 16
      refine Calls.mono (HDP.out _ (by repeat (first | exact Ext.refl' _ | assumption | apply Ext.ex' | apply Ext.al | apply Ext.drN | apply Ext.dr))) ?_
      rintro e w4 ⟨rfl, hb4⟩
      obtain ⟨x4, rfl⟩ := hb4.get
      clear hb4
      refine hKQ.out _ _ (by simp [go_sem, ↓IntWalk.iteOmega, *]) (fun hHeld2 => ?_)
      clear hHeld hKQ KQ; have hHeld := hHeld2; clear hHeld2
      (try simp only [Act.put, List.setIfInBounds_toArray, List.set_cons_zero, List.set_cons_succ])
      refine wpAnyH_ready (rs := [17]) (by kernel_rfl) (by simp) ?_
      refine AllReadyH.cons (o := ?oi18) ?hi18 ?ti18 AllReadyH.nil
      case hi18 => (simp only [List.getElem?_toArray, List.getElem?_cons_succ, List.getElem?_cons_zero]; try rfl)
      case ti18 =>
        intro KQ hKQ
        go_simp
        go_at_call 41
        refine Calls.mono (HSO.out _ (by repeat (first | exact Ext.refl' _ | assumption | apply Ext.ex' | apply Ext.al | apply Ext.drN | apply Ext.dr))) ?_
        rintro e w5 ⟨rfl, hb5⟩
        obtain ⟨x5, rfl⟩ := hb5.get
        clear hb5
        refine hKQ.out _ _ (by simp [go_sem, ↓IntWalk.iteOmega, *]) (fun hHeld2 => ?_)
        clear hHeld hKQ KQ; have hHeld := hHeld2; clear hHeld2
        (try simp only [Act.put, List.setIfInBounds_toArray, List.set_cons_zero, List.set_cons_succ])
        refine wpAnyH_take (i := 18) (oi := ?oi19) (v := ?v19) ?hi19 (by kernel_rfl) (by kernel_rfl) (by kernel_rfl) ?hQ19 ?hy19 (by assumption) ?_
        case hi19 => (simp only [List.getElem?_toArray, List.getElem?_cons_succ, List.getElem?_cons_zero]; try rfl)
        case hQ19 => exact fun _ _ _ h => h
        case hy19 => (refine Or.inl ⟨by rfl, ?_⟩; intro wq hSw; (try dsimp only at hSw); go_simp; (try with_reducible rfl))
        (try simp only [Act.put, List.setIfInBounds_toArray, List.set_cons_zero, List.set_cons_succ])
        refine wpAnyH_take (i := 19) (oi := ?oi20) (v := ?v20) ?hi20 (by kernel_rfl) (by kernel_rfl) (by kernel_rfl) ?hQ20 ?hy20 (by assumption) ?_
        case hi20 => (simp only [List.getElem?_toArray, List.getElem?_cons_succ, List.getElem?_cons_zero]; try rfl)
        case hQ20 => exact fun _ _ _ h => h
        case hy20 => (refine Or.inl ⟨by rfl, ?_⟩; intro wq hSw; (try dsimp only at hSw); go_simp; (try with_reducible rfl))
        (try simp only [Act.put, List.setIfInBounds_toArray, List.set_cons_zero, List.set_cons_succ])
        refine wpAnyH_done (by kernel_rfl) ?_ _
        go_wp2
        go_ret
        exact ⟨rfl, HE3.out.tr (by repeat (first | exact Ext.refl' _ | assumption | apply Ext.ex' | apply Ext.al | apply Ext.drN | apply Ext.dr))⟩

end Go.Proofs.Ytdmbgimehepfaaa
