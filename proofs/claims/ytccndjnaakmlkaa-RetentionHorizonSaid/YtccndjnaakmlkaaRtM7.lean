/- Chapter 33: large inputs; points. The reference of retention: Prune, Like, Same. The reference of retention: At, count, Alike, Horizon. The walk of the law RetentionHorizon. -/
import Derived.Test.YtccndjnaakmlkaaRtH
import Derived.Deep.DeepCutAuto
import Derived.Test.YtccndjnaakmlkaaRtG
set_option linter.unusedSimpArgs false
set_option linter.unusedVariables false
namespace Go.Proofs.Ytccndjnaakmlkaa
open Go.RowKit


theorem rlargeZ_any (L H : Option Addr) (cl ch : Nat) (Z : List VP) (hs : List Rct) (w : World) (hl : Rd w 9 L Z.length (verc (vsOf Z))) (nl : Z.length ≤ 9223372036854775807) (nh : hs.length ≤ 9223372036854775807) (nr : ∀ z ∈ Z, z.1.rn ≤ 9223372036854775807) :
    Calls Try.prog 6 #[.slice L Z.length cl, .slice H hs.length ch] w fun e w' => e = .returned (.bool (largeB (vsOf Z) hs)) ∧ Ext w w' := by
  have e : (vsOf Z).length = Z.length := by simp
  have h := rlarge_any L H cl ch (vsOf Z) hs w (by rw [e]; exact hl) (by omega) nh (fun v hv => by obtain ⟨z, hz, rfl⟩ := List.mem_map.1 hv; exact nr z hz)
  rwa [e] at h
theorem large_no {Z : List VP} {hs : List Rct} (h : largeB (vsOf Z) hs = false) : Z.length ≤ 30 ∧ hs.length ≤ 12 ∧ ∀ z ∈ Z, z.1.rn ≤ 20 := by
  unfold largeB at h
  simp only [Bool.or_eq_false_iff, decide_eq_false_iff_not, List.any_eq_false, decide_eq_true_eq, List.length_map, List.mem_map, vsOf] at h
  refine ⟨by omega, by omega, fun z hz => ?_⟩
  have := h.2 z.1 ⟨z, hz, rfl⟩
  omega
theorem rret_eq (h : Int) (l : List Rct) (r : Rct) : rretainedF h l r = tretainedF h l r := by
  unfold rretainedF tretainedF
  rw [retained_eq]
theorem inR_drop1 {R : List Rct} {i : Nat} (hi : i < R.length) (v t : Int) : inR (R.drop i) v t = (inR [R[i]] v t || inR (R.drop (i + 1)) v t) := by rw [List.drop_eq_getElem_cons hi, inR_cons]


end Go.Proofs.Ytccndjnaakmlkaa

namespace Go.Proofs.Ytccndjnaakmlkaa
open Go.RowKit


def cutZ (z : VP) (r : Rct) : VP := (⟨z.1.id, z.1.sch, z.1.rA, z.1.rn, z.1.rc, r, z.1.by_, z.1.un⟩, z.2.cut r)
def partsZ (h : Int) (hs : List Rct) (Z : List VP) : List VP := Z.flatMap fun z => (tretainedF h hs z.1.r).map (cutZ z)
theorem partsZ_ps {w : World} (h : Int) (hs : List Rct) : ∀ (Z : List VP), (∀ z ∈ Z, VerIs w z.1 z.2) → psOf (partsZ h hs Z) = pruneL h hs (psOf Z)
  | [], _ => rfl
  | z :: Z, hz => by
    have ih := partsZ_ps h hs Z fun y hy => hz y (by simp [hy])
    have h1 := (hz z (by simp)).r
    show psOf ((tretainedF h hs z.1.r).map (cutZ z) ++ partsZ h hs Z) = partsF h hs z.2 ++ pruneL h hs (psOf Z)
    rw [show psOf ((tretainedF h hs z.1.r).map (cutZ z) ++ partsZ h hs Z) = psOf ((tretainedF h hs z.1.r).map (cutZ z)) ++ psOf (partsZ h hs Z) from List.map_append, ih, h1]
    congr 1
    unfold partsF psOf
    rw [List.map_map]
    rfl
theorem partsZ_is {w : World} {h : Int} {hs : List Rct} {Z : List VP} (hz : ∀ z ∈ Z, VerIs w z.1 z.2) : ∀ z ∈ partsZ h hs Z, VerIs w z.1 z.2 := fun z hm => by
  obtain ⟨y, hy, hm⟩ := List.mem_flatMap.1 hm
  obtain ⟨r, _, rfl⟩ := List.mem_map.1 hm
  have h1 := hz y hy
  exact ⟨h1.id, h1.sch, rfl, h1.by_, h1.un, h1.rn, h1.row⟩
theorem partsZ_cons (h : Int) (hs : List Rct) (z : VP) (Z : List VP) : partsZ h hs (z :: Z) = (tretainedF h hs z.1.r).map (cutZ z) ++ partsZ h hs Z := rfl
theorem rret_eq' (h : Int) (l : List Rct) (r : Rct) : rretainedF h l r = tretainedF h l r := by
  unfold rretainedF tretainedF
  rw [retained_eq]

set_option maxHeartbeats 4000000 in
theorem rlike_any (x y : Ver) (p q : PV) (w : World) (hx : VerIs w x p) (hy : VerIs w y q) (n1 : x.rn ≤ 9223372036854775807) (n2 : y.rn ≤ 9223372036854775807) :
    Calls Try.prog 34 #[vg x, vg y] w fun e w' => e = .returned (.bool (decide (key5 p = key5 q))) ∧ Ext w w' := by
  obtain ⟨i1, s1, A1, m1, c1, r1, b1, u1⟩ := x
  obtain ⟨i2, s2, A2, m2, c2, r2, b2, u2⟩ := y
  obtain ⟨e1, e2, e3, e4, e5, e6, h1⟩ := hx
  obtain ⟨f1, f2, f3, f4, f5, f6, h2⟩ := hy
  dsimp only at e1 e2 e3 e4 e5 e6 f1 f2 f3 f4 f5 f6 h1 h2 n1 n2
  have HR := Lib.hid (fun w h1 h2 => rrow_any A1 A2 c1 c2 p.row q.row w h1 h2 (by omega) (by omega))
  have HK : Hid (decide (key5 p = key5 q) = (decide (i1 = i2) && decide (s1 = s2) && decide (b1 = b2) && decide (u1 = u2) && decide (p.row = q.row))) := Lib.hid (by
    rw [e1, e2, e4, e5, f1, f2, f4, f5]
    unfold key5
    simp only [Prod.mk.injEq, Bool.decide_and]
    cases decide (p.id = q.id) <;> cases decide (p.sch = q.sch) <;> cases decide (p.by_ = q.by_) <;> cases decide (p.un = q.un) <;> cases decide (p.row = q.row) <;> rfl)
  subst e6 f6
  generalize decide (key5 p = key5 q) = b at HK ⊢
  generalize decide (p.row = q.row) = d at HK HR
  clear e1 e2 e3 e4 e5 f1 f2 f3 f4 f5
  by_cases g1 : i1 = i2
  · by_cases g2 : s1 = s2
    · by_cases g3 : b1 = b2
      · by_cases g4 : u1 = u2
        · have q1 : (i1 == i2) = true := by simp [g1]
          have q2 : (s1 == s2) = true := by simp [g2]
          have q3 : (b1 == b2) = true := by simp [g3]
          have q4 : (u1 == u2) = true := by simp [g4]
          have HB : Hid (b = d) := Lib.hid (by rw [HK.out]; simp [g1, g2, g3, g4])
          clear HK g1 g2 g3 g4
          go_enter Try.func34, Try.ntmps34
          go_wp2_with (go_at_call 42; refine (HR.out _ (h1.ext (by repeat (first | exact Ext.refl' _ | assumption | apply Ext.ex' | apply Ext.al | apply Ext.drN | apply Ext.dr))) (h2.ext (by repeat (first | exact Ext.refl' _ | assumption | apply Ext.ex' | apply Ext.al | apply Ext.drN | apply Ext.dr)))).mono ?_; rintro e w1 ⟨rfl, hb1⟩; obtain ⟨x1, rfl⟩ := hb1.get; clear hb1)
          go_ret
          exact ⟨by rw [HB.out]; rfl, by repeat (first | exact Ext.refl' _ | assumption | apply Ext.ex' | apply Ext.al | apply Ext.drN | apply Ext.dr)⟩
        · have q1 : (i1 == i2) = true := by simp [g1]
          have q2 : (s1 == s2) = true := by simp [g2]
          have q3 : (b1 == b2) = true := by simp [g3]
          have q4 : (u1 == u2) = false := by simp [g4]
          have HB : Hid (b = false) := Lib.hid (by rw [HK.out]; simp [g4])
          clear HK g1 g2 g3 g4
          go_enter Try.func34, Try.ntmps34
          go_wp2
          go_ret
          exact ⟨by rw [HB.out]; rfl, by repeat (first | exact Ext.refl' _ | assumption | apply Ext.ex' | apply Ext.al | apply Ext.drN | apply Ext.dr)⟩
      · have q1 : (i1 == i2) = true := by simp [g1]
        have q2 : (s1 == s2) = true := by simp [g2]
        have q3 : (b1 == b2) = false := by simp [g3]
        have HB : Hid (b = false) := Lib.hid (by rw [HK.out]; simp [g3])
        clear HK g1 g2 g3
        go_enter Try.func34, Try.ntmps34
        go_wp2
        go_ret
        exact ⟨by rw [HB.out]; rfl, by repeat (first | exact Ext.refl' _ | assumption | apply Ext.ex' | apply Ext.al | apply Ext.drN | apply Ext.dr)⟩
    · have q1 : (i1 == i2) = true := by simp [g1]
      have q2 : (s1 == s2) = false := by simp [g2]
      have HB : Hid (b = false) := Lib.hid (by rw [HK.out]; simp [g2])
      clear HK g1 g2
      go_enter Try.func34, Try.ntmps34
      go_wp2
      go_ret
      exact ⟨by rw [HB.out]; rfl, by repeat (first | exact Ext.refl' _ | assumption | apply Ext.ex' | apply Ext.al | apply Ext.drN | apply Ext.dr)⟩
  · have q1 : (i1 == i2) = false := by simp [g1]
    have HB : Hid (b = false) := Lib.hid (by rw [HK.out]; simp [g1])
    clear HK g1
    go_enter Try.func34, Try.ntmps34
    go_wp2
    go_ret
    exact ⟨by rw [HB.out]; rfl, by repeat (first | exact Ext.refl' _ | assumption | apply Ext.ex' | apply Ext.al | apply Ext.drN | apply Ext.dr)⟩


end Go.Proofs.Ytccndjnaakmlkaa

namespace Go.Proofs.Ytccndjnaakmlkaa
open Go.RowKit


def atZ (v t : Int) (Z : List VP) : List VP := Z.filter fun z => inR [z.1.r] v t
theorem atZ_cons (v t : Int) (z : VP) (Z : List VP) : atZ v t (z :: Z) = (if inR [z.1.r] v t then [z] else []) ++ atZ v t Z := by
  unfold atZ; rw [List.filter_cons]; split <;> simp
theorem atZ_is {w : World} {v t : Int} {Z : List VP} (hz : ∀ z ∈ Z, VerIs w z.1 z.2) : ∀ z ∈ atZ v t Z, VerIs w z.1 z.2 := fun z hm => hz z (List.mem_filter.1 hm).1
theorem atZ_ps {w : World} {v t : Int} : ∀ {Z : List VP}, (∀ z ∈ Z, VerIs w z.1 z.2) → psOf (atZ v t Z) = atF v t (psOf Z)
  | [], _ => rfl
  | z :: Z, hz => by
    have ih := atZ_ps (v := v) (t := t) fun y hy => hz y (List.mem_cons_of_mem _ hy)
    have h1 := (hz z List.mem_cons_self).r
    have e : atF v t (psOf (z :: Z)) = (if inR [z.2.r] v t then [z.2] else []) ++ atF v t (psOf Z) := by
      show atF v t (z.2 :: psOf Z) = _
      unfold atF; rw [List.filter_cons]; split <;> rfl
    rw [atZ_cons, e, ← ih, h1]
    show List.map _ _ = _
    rw [List.map_append]
    split <;> rfl
theorem atZ_length (v t : Int) (Z : List VP) : (atZ v t Z).length ≤ Z.length := List.length_filter_le _ _

set_option maxHeartbeats 4000000 in
theorem rat_any (A : Option Addr) (c : Nat) (Z : List VP) (v t : Int) (w : World) (hl : Rd w 9 A Z.length (verc (vsOf Z))) (nl : Z.length ≤ 100000000) :
    Calls Try.prog 9 #[.slice A Z.length c, .int .i64 v, .int .i64 t] w (RdP 9 (atZ v t Z).length (verc (vsOf (atZ v t Z))) w) := by
  go_enter Try.func9, Try.ntmps9
  go_wp2
  go_loopw [7, 8] (fun s7 s8 wr => ∃ (k : Nat) (acc : List VP) (x : Add), k ≤ Z.length ∧ acc.length ≤ k ∧ s8 = .int .i64 k ∧ Hid (atZ v t Z = acc ++ atZ v t (Z.drop k)) ∧ wr = ext w x ∧ Own w x 41 9 s7 acc.length (verc (vsOf acc))) (fun _ s8 _ => Z.length - (intOf s8).toNat)
  case atStart =>
    obtain ⟨x, hx⟩ := (Ext.refl' w).get
    exact ⟨0, [], x, by omega, by simp, rfl, Lib.hid rfl, hx, own_nil _ _ _ _⟩
  case round =>
    obtain ⟨k, acc, x, hk, hal, rfl, HC, rfl, hown⟩ := hrel
    by_cases hlt : k < Z.length
    · obtain ⟨vx, HVX, g, oo, rfl, hg, c0, c1, c2, c3, c4, c5, c6, c7, c8⟩ := hl.verAt rfl hlt
      have HD : Hid (atZ v t Z = acc ++ ((if inR [vx.r] v t then [Z[k]] else []) ++ atZ v t (Z.drop (k + 1)))) := Lib.hid (by rw [HC.out, List.drop_eq_getElem_cons hlt, atZ_cons, HVX.out])
      generalize Z[k] = z at HVX HD
      have HI := Lib.hid (fun w => rin_any vx.r v t w)
      clear HC
      rcases hin : inR [vx.r] v t with _ | _
      · have HE : Hid (atZ v t Z = acc ++ atZ v t (Z.drop (k + 1))) := Lib.hid (by rw [HD.out, hin]; rfl)
        rw [hin] at HI
        clear HD hin
        go_wp2_with (first | (go_at_call 24; refine (rrect33_any vx _).mono ?_; rintro e w1 ⟨rfl, hb1⟩; obtain ⟨x1, rfl⟩ := hb1.get; clear hb1) | (go_at_call 23; refine (HI.out _).mono ?_; rintro e w1 ⟨rfl, hb1⟩; obtain ⟨x2, rfl⟩ := hb1.get; clear hb1))
        go_roundw
        case rel => exact rel_same hown (by repeat (first | exact Ext.refl' _ | assumption | apply Ext.ex' | apply Ext.al | apply Ext.drN | apply Ext.dr)) fun x' hx' ho' => ⟨k + 1, acc, x', by omega, by omega, by go_num, HE, hx', ho'⟩
        case measure => simp [intOf]; omega
      · have HE : Hid (atZ v t Z = acc ++ [z] ++ atZ v t (Z.drop (k + 1))) := Lib.hid (by rw [HD.out, hin]; simp)
        rw [hin] at HI
        clear HD hin
        go_wp2_with (first | (go_at_call 24; refine (rrect33_any vx _).mono ?_; rintro e w1 ⟨rfl, hb1⟩; obtain ⟨x1, rfl⟩ := hb1.get; clear hb1) | (go_at_call 23; refine (HI.out _).mono ?_; rintro e w1 ⟨rfl, hb1⟩; obtain ⟨x2, rfl⟩ := hb1.get; clear hb1) | (at_builtin; refine wpList_app _ rfl (.tmp 23) (.tmp 28) rfl elVer w (by repeat (first | exact Ext.refl' _ | assumption | apply Ext.ex' | apply Ext.al | apply Ext.drN | apply Ext.dr)) _ _ _ rfl (by repeat (first | exact hown | apply World.ownsRow.alloc | apply own_ext)) _ 1 1 [.int .i64 vx.id, .int .i64 vx.sch, .slice vx.rA vx.rn vx.rc, .int .i64 vx.r.1.1, .int .i64 vx.r.1.2, .int .i64 vx.r.2.1, .int .i64 vx.r.2.2, .int .i64 vx.by_, .int .i64 vx.un] rfl (Rd.lit _ _ _ 1 9 rfl (by simp [size_ext])) (oneCell_encV vx) (by unfold maxLen; omega) (by omega) ?_; intro v' x' hown' _; have HOWN := Lib.hid hown'; clear hown'))
        go_roundw
        case rel => exact ⟨k + 1, acc ++ [z], x', by omega, by simp; omega, by go_num, HE, rfl, by rw [vsOf_snoc, ← HVX.out, List.length_append]; exact HOWN.out⟩
        case measure => simp [intOf]; omega
    · have H0 : Hid (atZ v t Z = acc) := Lib.hid (by rw [HC.out, List.drop_eq_nil_of_le (Nat.le_of_not_lt hlt)]; simp [atZ])
      obtain ⟨A7, c7, rfl, _, _⟩ := Own.form hown
      go_wp2
      go_ret
      exact ⟨A7, c7, by rw [H0.out]; rfl, Ext.ex _ _, by rw [H0.out]; exact Rd.of_own hown⟩

theorem cntF_cons (q : PV) (l : List PV) (p : PV) : cntF (q :: l) p = (if key5 q = key5 p then 1 else 0) + cntF l p := by
  unfold cntF; rw [List.filter_cons]; split <;> simp_all <;> omega
theorem cntF_le (l : List PV) (p : PV) : cntF l p ≤ l.length := List.length_filter_le _ _

set_option maxRecDepth 100000 in
set_option maxHeartbeats 4000000 in
theorem rcount_any (A : Option Addr) (c : Nat) (Z : List VP) (vx : Ver) (p : PV) (w : World) (hl : Rd w 9 A Z.length (verc (vsOf Z))) (hz : ∀ z ∈ Z, VerIs w z.1 z.2) (hx : VerIs w vx p) (nl : Z.length ≤ 100000000) (nx : vx.rn ≤ 1000000) (nr : ∀ z ∈ Z, z.2.row.length ≤ 1000000) :
    Calls Try.prog 25 #[.slice A Z.length c, vg vx] w fun e w' => e = .returned (.int .i64 (cntF (psOf Z) p)) ∧ Ext w w' := by
  have HZ := Lib.hid hz
  have HX := Lib.hid hx
  clear hz hx
  have HC0 : Hid (cntF (psOf Z) p = 0 + cntF (psOf (Z.drop 0)) p) := Lib.hid (by simp)
  generalize cntF (psOf Z) p = N at HC0 ⊢
  go_enter Try.func25, Try.ntmps25
  go_wp2
  go_loopw [5, 6] (fun s5 s6 wr => ∃ (k m : Nat), k ≤ Z.length ∧ m ≤ k ∧ s6 = .int .i64 k ∧ s5 = .int .i64 m ∧ Hid (N = m + cntF (psOf (Z.drop k)) p) ∧ Ext (w.alloc (.cells (encV vx).toArray 41)) wr) (fun _ s6 _ => Z.length - (intOf s6).toNat)
  case atStart => exact ⟨0, 0, by omega, by omega, rfl, rfl, HC0, Ext.refl' _⟩
  case round =>
    obtain ⟨k, m, hk, hm, rfl, rfl, HC, hex⟩ := hrel
    obtain ⟨x, rfl⟩ := hex.get
    clear hex HC0
    have HBX : Hid ((encV vx).toArray = #[.int .i64 vx.id, .int .i64 vx.sch, .slice vx.rA vx.rn vx.rc, .int .i64 vx.r.1.1, .int .i64 vx.r.1.2, .int .i64 vx.r.2.1, .int .i64 vx.r.2.2, .int .i64 vx.by_, .int .i64 vx.un]) := Lib.hid rfl
    rw [HBX.out]
    by_cases hlt : k < Z.length
    · obtain ⟨vz, HVZ, g, oo, rfl, hg, c0, c1, c2, c3, c4, c5, c6, c7, c8⟩ := hl.verAt rfl hlt
      have hv1 := HZ.out _ (List.getElem_mem hlt)
      have hrl := nr _ (List.getElem_mem hlt)
      rw [← HVZ.out] at hv1
      have HD : Hid (N = m + ((if key5 Z[k].2 = key5 p then 1 else 0) + cntF (psOf (Z.drop (k + 1))) p)) := Lib.hid (by rw [HC.out, List.drop_eq_getElem_cons hlt]; rw [show psOf (Z[k] :: Z.drop (k + 1)) = Z[k].2 :: psOf (Z.drop (k + 1)) from rfl, cntF_cons])
      generalize Z[k].2 = q at hv1 hrl HD
      have n1 : vz.rn ≤ 9223372036854775807 := by have := hv1.rn; omega
      have HLK := Lib.hid (fun (xx : Add) => rlike_any vz vx q p (ext (ext (w.alloc (.cells #[.int .i64 vx.id, .int .i64 vx.sch, .slice vx.rA vx.rn vx.rc, .int .i64 vx.r.1.1, .int .i64 vx.r.1.2, .int .i64 vx.r.2.1, .int .i64 vx.r.2.2, .int .i64 vx.by_, .int .i64 vx.un] 41)) x) xx) (hv1.ext (by repeat (first | exact Ext.refl' _ | assumption | apply Ext.ex' | apply Ext.al | apply Ext.drN | apply Ext.dr))) (HX.out.ext (by repeat (first | exact Ext.refl' _ | assumption | apply Ext.ex' | apply Ext.al | apply Ext.drN | apply Ext.dr))) n1 (by omega))
      clear HVZ hv1 HC
      by_cases hq : key5 q = key5 p
      · have HE : Hid (N = m + 1 + cntF (psOf (Z.drop (k + 1))) p) := Lib.hid (by rw [HD.out, if_pos hq]; omega)
        rw [decide_eq_true hq] at HLK
        clear hq HD
        go_wp2_with fail
        refine wp_region_ext (by kernel_rfl) (by kernel_rfl) ?_
        repeat (first | go_big_quiet_step ((go_at_call 34; exact Calls.ext_of (HLK.out _))) | quiet_step ((go_at_call 34; exact Calls.ext_of (HLK.out _))))
        refine wpQuiet_nil ?_
        intro _ hw'
        obtain ⟨xq, hw''⟩ := hw'
        subst hw''
        go_wp2
        go_roundw
        case rel => exact ⟨k + 1, m + 1, by omega, by omega, by go_num, by go_num, HE, by repeat (first | exact Ext.refl' _ | assumption | apply Ext.ex' | apply Ext.al | apply Ext.drN | apply Ext.dr)⟩
        case measure => simp [intOf]; omega
      · have HE : Hid (N = m + cntF (psOf (Z.drop (k + 1))) p) := Lib.hid (by rw [HD.out, if_neg hq]; omega)
        rw [decide_eq_false hq] at HLK
        clear hq HD
        go_wp2_with fail
        refine wp_region_ext (by kernel_rfl) (by kernel_rfl) ?_
        repeat (first | go_big_quiet_step ((go_at_call 34; exact Calls.ext_of (HLK.out _))) | quiet_step ((go_at_call 34; exact Calls.ext_of (HLK.out _))))
        refine wpQuiet_nil ?_
        intro _ hw'
        obtain ⟨xq, hw''⟩ := hw'
        subst hw''
        go_wp2
        go_roundw
        case rel => exact ⟨k + 1, m, by omega, by omega, by go_num, rfl, HE, by repeat (first | exact Ext.refl' _ | assumption | apply Ext.ex' | apply Ext.al | apply Ext.drN | apply Ext.dr)⟩
        case measure => simp [intOf]; omega
    · have H0 : Hid (N = m) := Lib.hid (by rw [HC.out, List.drop_eq_nil_of_le (Nat.le_of_not_lt hlt)]; simp [cntF])
      go_wp2
      go_ret
      exact ⟨by rw [H0.out]; rfl, by repeat (first | exact Ext.refl' _ | assumption | apply Ext.ex' | apply Ext.al | apply Ext.drN | apply Ext.dr)⟩


theorem alikeF_at {a b : List PV} (h : alikeF a b = true) : a.length = b.length ∧ ∀ p ∈ a, cntF a p = cntF b p := by
  unfold alikeF at h
  rw [Bool.and_eq_true, decide_eq_true_eq, List.all_eq_true] at h
  exact ⟨h.1, fun p hp => by simpa using h.2 p hp⟩
set_option maxRecDepth 100000 in
set_option maxHeartbeats 4000000 in
theorem alike_yes (A B : Option Addr) (c d : Nat) (Z Y : List VP) (w : World) (hA : Rd w 9 A Z.length (verc (vsOf Z))) (hB : Rd w 9 B Y.length (verc (vsOf Y))) (hZ : ∀ z ∈ Z, VerIs w z.1 z.2) (hY : ∀ z ∈ Y, VerIs w z.1 z.2) (he : alikeF (psOf Z) (psOf Y) = true) (nl : Z.length ≤ 100000000) (nr : ∀ z ∈ Z, z.2.row.length ≤ 1000000) (ns : ∀ z ∈ Y, z.2.row.length ≤ 1000000) :
    Calls Try.prog 11 #[.slice A Z.length c, .slice B Y.length d] w fun e w' => e = .returned (.bool true) ∧ Ext w w' := by
  obtain ⟨h1, h2⟩ := alikeF_at he
  have hlen : Z.length = Y.length := by simpa [psOf] using h1
  have HE := Lib.hid h2
  have HZ := Lib.hid hZ
  have HY := Lib.hid hY
  clear he hZ hY h1 h2
  obtain ⟨n, hn⟩ : ∃ n, n = Z.length := ⟨_, rfl⟩
  have hn2 : Y.length = n := by omega
  have HZN := Lib.hid hn
  have HYN := Lib.hid hn2
  have nl2 : Y.length ≤ 100000000 := by omega
  have HCA := Lib.hid (fun vx p w h1 h2 h3 h4 => rcount_any A c Z vx p w h1 h2 h3 nl h4 nr)
  have HCB := Lib.hid (fun vx p w h1 h2 h3 h4 => rcount_any B d Y vx p w h1 h2 h3 nl2 h4 ns)
  have HA := Lib.hid hA
  have HB := Lib.hid hB
  rw [← hn] at hA nl HCA HA ⊢
  rw [hn2] at hB HCB HB ⊢
  clear hlen hn hn2 nl2 hB
  go_enter Try.func11, Try.ntmps11
  go_wp2
  go_loopw [5] (fun s5 wr => ∃ i : Nat, i ≤ n ∧ s5 = .int .i64 i ∧ Ext w wr) (fun s5 _ => n - (intOf s5).toNat)
  case atStart => exact ⟨0, by omega, rfl, Ext.refl' _⟩
  case round =>
    obtain ⟨i, hi, rfl, hex⟩ := hrel
    obtain ⟨x, rfl⟩ := hex.get
    clear hex
    by_cases hlt : i < n
    · have hz1 : i < Z.length := by have := HZN.out; omega
      obtain ⟨vx, HVX, ga, oa, rfl, hga, c0, c1, c2, c3, c4, c5, c6, c7, c8⟩ := hA.verAt HZN.out.symm hz1
      have hv1 := HZ.out _ (List.getElem_mem hz1)
      have hrl := nr _ (List.getElem_mem hz1)
      rw [← HVX.out] at hv1
      have hcc := HE.out Z[i].2 (List.mem_map_of_mem (List.getElem_mem hz1))
      generalize Z[i].2 = p at hv1 hrl hcc
      have n1 : vx.rn ≤ 1000000 := by have := hv1.rn; omega
      have HC1 := Lib.hid (fun (xx : Add) => HCA.out vx p (ext (ext w x) xx) (HA.out.ext (by repeat (first | exact Ext.refl' _ | assumption | apply Ext.ex' | apply Ext.al | apply Ext.drN | apply Ext.dr))) (fun z hz => (HZ.out z hz).ext (by repeat (first | exact Ext.refl' _ | assumption | apply Ext.ex' | apply Ext.al | apply Ext.drN | apply Ext.dr))) (hv1.ext (by repeat (first | exact Ext.refl' _ | assumption | apply Ext.ex' | apply Ext.al | apply Ext.drN | apply Ext.dr))) n1)
      have HC2 := Lib.hid (fun (xx : Add) => HCB.out vx p (ext (ext w x) xx) (HB.out.ext (by repeat (first | exact Ext.refl' _ | assumption | apply Ext.ex' | apply Ext.al | apply Ext.drN | apply Ext.dr))) (fun z hz => (HY.out z hz).ext (by repeat (first | exact Ext.refl' _ | assumption | apply Ext.ex' | apply Ext.al | apply Ext.drN | apply Ext.dr))) (hv1.ext (by repeat (first | exact Ext.refl' _ | assumption | apply Ext.ex' | apply Ext.al | apply Ext.drN | apply Ext.dr))) n1)
      have hb1 : cntF (psOf Z) p ≤ 9223372036854775807 := by have h8 := cntF_le (psOf Z) p; have h9 := HZN.out; rw [show (psOf Z).length = Z.length by simp [psOf]] at h8; omega
      rw [← hcc] at HC2
      generalize cntF (psOf Z) p = N at HC1 HC2 hb1
      clear hcc hv1 HVX
      go_wp2_with fail
      refine wp_region_ext (by kernel_rfl) (by kernel_rfl) ?_
      repeat (first | go_big_quiet_step ((first | (go_at_call 25; (with_reducible exact Calls.ext_of (HC1.out _))) | (go_at_call 25; (with_reducible exact Calls.ext_of (HC2.out _))))) | quiet_step ((first | (go_at_call 25; (with_reducible exact Calls.ext_of (HC1.out _))) | (go_at_call 25; (with_reducible exact Calls.ext_of (HC2.out _))))))
      refine wpQuiet_nil ?_
      intro _ hw'
      obtain ⟨xq, hw''⟩ := hw'
      subst hw''
      go_wp2
      go_roundw
      case rel => exact ⟨i + 1, by omega, by go_num, by repeat (first | exact Ext.refl' _ | assumption | apply Ext.ex' | apply Ext.al | apply Ext.drN | apply Ext.dr)⟩
      case measure => simp [intOf]; omega
    · go_wp2
      go_ret
      exact ⟨rfl, by repeat (first | exact Ext.refl' _ | assumption | apply Ext.ex' | apply Ext.al | apply Ext.drN | apply Ext.dr)⟩

theorem rhorizon_any (now keep last : Int) (w : World) (h1 : -9223372036854775808 ≤ now) (h2 : now ≤ 9223372036854775807) (h3 : -9223372036854775808 ≤ keep) (h4 : keep ≤ 9223372036854775807) :
    Calls Try.prog 13 #[.int .i64 now, .int .i64 keep, .int .i64 last] w fun e w' => e = .returned (.int .i64 (horF now keep last)) ∧ w = w' := by
  rcases (show now < 0 ∨ (¬ now < 0 ∧ keep < 0) ∨ (0 ≤ now ∧ 0 ≤ keep) from by omega) with h | ⟨h, h'⟩ | ⟨h, h'⟩
  · have H : Hid (horF now keep last = max 0 last) := Lib.hid (by unfold horF; rw [if_pos (.inl h)])
    generalize horF now keep last = z at H ⊢
    go_enter Try.func13, Try.ntmps13
    go_wp2
    go_ret
    exact ⟨by rw [H.out]; rfl, rfl⟩
  · have H : Hid (horF now keep last = max 0 last) := Lib.hid (by unfold horF; rw [if_pos (.inr h')])
    generalize horF now keep last = z at H ⊢
    go_enter Try.func13, Try.ntmps13
    go_wp2
    go_ret
    exact ⟨by rw [H.out]; rfl, rfl⟩
  · have H : Hid (horF now keep last = max (max 0 last) (now - keep)) := Lib.hid (by unfold horF; rw [if_neg (by omega)])
    generalize horF now keep last = z at H ⊢
    have h5 : ¬ now < 0 := by omega
    have h6 : ¬ keep < 0 := by omega
    by_cases hl : 0 < last
    all_goals go_enter Try.func13, Try.ntmps13
    all_goals go_wp2
    all_goals go_ret
    all_goals exact ⟨by rw [H.out]; exact ret_i (by omega), rfl⟩

end Go.Proofs.Ytccndjnaakmlkaa

namespace Go.Proofs.Ytccndjnaakmlkaa
open Go.RowKit


theorem lawHorizon_any (now keep last : Int) (w : World) (h1 : -9223372036854775808 ≤ now) (h2 : now ≤ 9223372036854775807) (h3 : -9223372036854775808 ≤ keep) (h4 : keep ≤ 9223372036854775807) :
    Calls Try.prog 5 #[.int .i64 now, .int .i64 keep, .int .i64 last] w fun e w' => e = .returned (.bool true) ∧ Ext w w' := by
  have H1 := Lib.hid (fun w => thorizon_any now keep last w h1 h2 h3 h4)
  have H2 := Lib.hid (fun w => rhorizon_any now keep last w h1 h2 h3 h4)
  generalize horF now keep last = z at H1 H2
  clear h1 h2 h3 h4
  go_enter Try.func5, Try.ntmps5
  go_wp2_with (first | (go_at_call 12; refine (H1.out _).mono ?_; rintro e w1 ⟨rfl, rfl⟩) | (go_at_call 13; refine (H2.out _).mono ?_; rintro e w1 ⟨rfl, rfl⟩) | (go_at_call 7; refine (awake33_any _).mono ?_; rintro e w1 ⟨rfl, hb1⟩; obtain ⟨xaw, rfl⟩ := hb1.get; clear hb1))
  go_ret
  exact ⟨rfl, by repeat (first | exact Ext.refl' _ | assumption | apply Ext.ex' | apply Ext.al | apply Ext.drN | apply Ext.dr)⟩

end Go.Proofs.Ytccndjnaakmlkaa
