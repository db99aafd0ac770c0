/- access.Matches and the reference Matches. -/
import Derived.Test.YtflhikpihbenaaaGreatVpk
import Derived.Test.YtflhikpihbenaaaGreatAwk
set_option linter.unusedSimpArgs false
set_option linter.unusedVariables false
namespace Go.Proofs.YtflhikpihbenaaaGreat
open Go.RowKit


def povB (p q : Int × Int) : Bool := pvB p && pvB q && decide (p.1 < q.2) && decide (q.1 < p.2)
set_option maxHeartbeats 400000 in
theorem rval1_any (p : Int × Int) (w : World) : Calls Tryz.prog 15 #[pr p] w fun e w' => e = .returned (.bool (pvB p)) ∧ Ext w w' := by
  go_enter Tryz.func15, Tryz.ntmps15
  go_wp2
  all_goals go_ret
  all_goals refine ⟨?_, Ext.al1 _ _⟩
  all_goals simp_all [pvB]
  all_goals omega


set_option maxHeartbeats 800000 in
theorem aov_any (p q : Int × Int) (w : World) : Calls Tryz.prog 99 #[pr p, pr q] w fun e w' => e = .returned (.bool (povB p q)) ∧ Ext w w' := by
  have H1 := Lib.hid (fun w => pvalid_any p w)
  have H2 := Lib.hid (fun w => pvalid_any q w)
  have HB : Hid (povB p q = (pvB p && pvB q && decide (p.1 < q.2) && decide (q.1 < p.2))) := Lib.hid rfl
  generalize povB p q = b at HB ⊢
  generalize pvB p = b1 at H1 HB
  generalize pvB q = b2 at H2 HB
  by_cases h3 : p.1 < q.2 <;> by_cases h4 : q.1 < p.2 <;> rcases b1 with _ | _ <;> rcases b2 with _ | _
  all_goals go_enter Tryz.func99, Tryz.ntmps99
  all_goals go_wp2_with (first | (go_at_call 24; (with_reducible refine (H1.out _).mono ?_); rintro e w1 ⟨rfl, hb1⟩; obtain ⟨x1, rfl⟩ := hb1.get; clear hb1) | (go_at_call 24; (with_reducible refine (H2.out _).mono ?_); rintro e w1 ⟨rfl, hb1⟩; obtain ⟨x2, rfl⟩ := hb1.get; clear hb1))
  all_goals go_ret
  all_goals exact ⟨by rw [HB.out]; simp_all, by repeat (first | exact Ext.refl' _ | assumption | apply Ext.ex' | apply Ext.al | apply Ext.drN | apply Ext.dr)⟩


set_option maxHeartbeats 800000 in
theorem rov_any (p q : Int × Int) (w : World) : Calls Tryz.prog 8 #[pr p, pr q] w fun e w' => e = .returned (.bool (povB p q)) ∧ Ext w w' := by
  have H1 := Lib.hid (fun w => rval1_any p w)
  have H2 := Lib.hid (fun w => rval1_any q w)
  have HB : Hid (povB p q = (pvB p && pvB q && decide (p.1 < q.2) && decide (q.1 < p.2))) := Lib.hid rfl
  generalize povB p q = b at HB ⊢
  generalize pvB p = b1 at H1 HB
  generalize pvB q = b2 at H2 HB
  by_cases h3 : p.1 < q.2 <;> by_cases h4 : q.1 < p.2 <;> rcases b1 with _ | _ <;> rcases b2 with _ | _
  all_goals go_enter Tryz.func8, Tryz.ntmps8
  all_goals go_wp2_with (first | (go_at_call 15; (with_reducible refine (H1.out _).mono ?_); rintro e w1 ⟨rfl, hb1⟩; obtain ⟨x1, rfl⟩ := hb1.get; clear hb1) | (go_at_call 15; (with_reducible refine (H2.out _).mono ?_); rintro e w1 ⟨rfl, hb1⟩; obtain ⟨x2, rfl⟩ := hb1.get; clear hb1))
  all_goals go_ret
  all_goals exact ⟨by rw [HB.out]; simp_all, by repeat (first | exact Ext.refl' _ | assumption | apply Ext.ex' | apply Ext.al | apply Ext.drN | apply Ext.dr)⟩


def keyB (key picked : List Va) : Bool := decide (key.length ≤ picked.length) && (cmpR (picked.take key.length) key == 0)
theorem has_scan (s0 : ByteArray) (a1 a3 a4 K : Option Addr) (n1 m1 n3 m3 n4 m4 kc : Nat) (ks : List Int) (id sch : Int) (RA : Option Addr) (rc : Nat) (row : List Va) (vv vs : Int × Int) (by_ un : Int) (w : World) : Calls Tryz.prog 118 #[.agg #[], .agg #[.string s0, .slice a1 n1 m1, .slice K ks.length kc, .slice a3 n3 m3, .slice a4 n4 m4], .agg #[.int .i64 id, .int .i64 sch, .slice RA row.length rc, .int .i64 vv.1, .int .i64 vv.2, .int .i64 vs.1, .int .i64 vs.2, .int .i64 by_, .int .i64 un]] w fun e w' => e = .returned (.bool true) ∧ Ext w w' := by
  go_enter Tryz.func118, Tryz.ntmps118
  go_wp2
  go_ret
  exact ⟨rfl, by repeat (first | exact Ext.refl' _ | assumption | apply Ext.ex' | apply Ext.al | apply Ext.drN | apply Ext.dr)⟩
set_option maxHeartbeats 800000 in
theorem has_valid (s0 : ByteArray) (a1 a3 a4 K : Option Addr) (n1 m1 n3 m3 n4 m4 kc : Nat) (ks : List Int) (id sch : Int) (RA : Option Addr) (rc : Nat) (row : List Va) (vv vs : Int × Int) (by_ un : Int) (p : Int × Int) (w : World) : Calls Tryz.prog 98 #[.agg #[.int .i64 p.1, .int .i64 p.2], .agg #[.string s0, .slice a1 n1 m1, .slice K ks.length kc, .slice a3 n3 m3, .slice a4 n4 m4], .agg #[.int .i64 id, .int .i64 sch, .slice RA row.length rc, .int .i64 vv.1, .int .i64 vv.2, .int .i64 vs.1, .int .i64 vs.2, .int .i64 by_, .int .i64 un]] w fun e w' => e = .returned (.bool (povB vv p)) ∧ Ext w w' := by
  have H1 := Lib.hid (fun w => aov_any vv p w)
  generalize povB vv p = b at H1 ⊢
  go_enter Tryz.func98, Tryz.ntmps98
  go_wp2_with (go_at_call 99; refine (H1.out _).mono ?_; rintro e w1 ⟨rfl, hb1⟩; obtain ⟨x1, rfl⟩ := hb1.get; clear hb1)
  go_ret
  exact ⟨rfl, by repeat (first | exact Ext.refl' _ | assumption | apply Ext.ex' | apply Ext.al | apply Ext.drN | apply Ext.dr)⟩
set_option maxHeartbeats 1600000 in
theorem has_rect (s0 : ByteArray) (a1 a3 a4 K : Option Addr) (n1 m1 n3 m3 n4 m4 kc : Nat) (ks : List Int) (id sch : Int) (RA : Option Addr) (rc : Nat) (row : List Va) (vv vs : Int × Int) (by_ un : Int) (p q : Int × Int) (w : World) : Calls Tryz.prog 101 #[.agg #[.int .i64 p.1, .int .i64 p.2, .int .i64 q.1, .int .i64 q.2], .agg #[.string s0, .slice a1 n1 m1, .slice K ks.length kc, .slice a3 n3 m3, .slice a4 n4 m4], .agg #[.int .i64 id, .int .i64 sch, .slice RA row.length rc, .int .i64 vv.1, .int .i64 vv.2, .int .i64 vs.1, .int .i64 vs.2, .int .i64 by_, .int .i64 un]] w fun e w' => e = .returned (.bool (povB vv p && povB vs q)) ∧ Ext w w' := by
  have H1 := Lib.hid (fun w => aov_any vv p w)
  have H2 := Lib.hid (fun w => aov_any vs q w)
  generalize povB vv p = b at H1 ⊢
  generalize povB vs q = d at H2 ⊢
  rcases b with _ | _
  · go_enter Tryz.func101, Tryz.ntmps101
    go_wp2_with fail
    refine Calls.mono (H1.out _) ?_
    rintro e w1 ⟨rfl, hb1⟩
    obtain ⟨x1, rfl⟩ := hb1.get
    go_wp2
    go_ret
    exact ⟨rfl, by repeat (first | exact Ext.refl' _ | assumption | apply Ext.ex' | apply Ext.al | apply Ext.drN | apply Ext.dr)⟩
  · go_enter Tryz.func101, Tryz.ntmps101
    go_wp2_with fail
    refine Calls.mono (H1.out _) ?_
    rintro e w1 ⟨rfl, hb1⟩
    obtain ⟨x1, rfl⟩ := hb1.get
    clear hb1
    go_wp2_with fail
    refine Calls.mono (H2.out _) ?_
    rintro e w1 ⟨rfl, hb1⟩
    obtain ⟨x2, rfl⟩ := hb1.get
    clear hb1
    go_wp2
    go_ret
    exact ⟨by simp, by repeat (first | exact Ext.refl' _ | assumption | apply Ext.ex' | apply Ext.al | apply Ext.drN | apply Ext.dr)⟩
set_option maxRecDepth 100000 in
set_option maxHeartbeats 2000000 in
theorem has_keyed (s0 : ByteArray) (a1 a3 a4 K : Option Addr) (n1 m1 n3 m3 n4 m4 kc : Nat) (ks : List Int) (id sch : Int) (RA : Option Addr) (rc : Nat) (row : List Va) (vv vs : Int × Int) (by_ un : Int) (PK : Option Addr) (pc : Nat) (key : List Va) (w : World) (hR : Rd w 3 RA row.length (vcl row)) (hK : Rd w 1 K ks.length (ic ks)) (hP : Rd w 3 PK key.length (vcl key)) (nr : row.length ≤ 9223372036854775807) (nk : ks.length ≤ 1048576) (np : key.length ≤ 9223372036854775807) :
    Calls Tryz.prog 103 #[.agg #[.slice PK key.length pc], .agg #[.string s0, .slice a1 n1 m1, .slice K ks.length kc, .slice a3 n3 m3, .slice a4 n4 m4], .agg #[.int .i64 id, .int .i64 sch, .slice RA row.length rc, .int .i64 vv.1, .int .i64 vv.2, .int .i64 vs.1, .int .i64 vs.2, .int .i64 by_, .int .i64 un]] w fun e w' => e = .returned (.bool (keyB key (ks.map (atV row)))) ∧ Ext w w' := by
  have HT := Lib.hid (fun w h1 h2 => tkey_any s0 a1 a3 a4 K n1 m1 n3 m3 n4 m4 kc ks RA rc row w h1 h2 nr nk)
  have hpk : (ks.map (atV row)).length = ks.length := by simp
  generalize ks.map (atV row) = pk at HT hpk ⊢
  by_cases hle : key.length ≤ ks.length
  · have HB : Hid (keyB key pk = (cmpR (pk.take key.length) key == 0)) := Lib.hid (by unfold keyB; rw [decide_eq_true (by omega)]; rfl)
    generalize keyB key pk = b at HB ⊢
    go_enter Tryz.func103, Tryz.ntmps103
    go_wp2_with fail
    refine Calls.mono (HT.out _ (hR.ext (by repeat (first | exact Ext.refl' _ | assumption | apply Ext.ex' | apply Ext.al | apply Ext.drN | apply Ext.dr))) (hK.ext (by repeat (first | exact Ext.refl' _ | assumption | apply Ext.ex' | apply Ext.al | apply Ext.drN | apply Ext.dr)))) ?_
    rintro e w1 ⟨B, q, rfl, hb1, hq, hRk⟩
    obtain ⟨x1, rfl⟩ := hb1.get
    clear hb1
    have hTk := Rd.takeV (l := pk) (by rw [hpk]; exact hRk) (n := key.length) (by omega)
    have htl : (pk.take key.length).length = key.length := by simp; omega
    rw [htl] at hTk
    have HCM := Lib.hid (fun (w : World) (h : Ext _ w) => (show (pk.take key.length).length = key.length from htl) ▸ tcmp_any B PK q pc (pk.take key.length) key w (by rw [htl]; exact hTk.ext h) (hP.ext ((show Ext _ _ from by repeat (first | exact Ext.refl' _ | assumption | apply Ext.ex' | apply Ext.al | apply Ext.drN | apply Ext.dr)).tr h)) (by omega) np)
    generalize cmpR (pk.take key.length) key = z at HB HCM
    go_wp2_with fail
    refine wp_region_ext (by kernel_rfl) (by kernel_rfl) ?_
    repeat (first | go_big_quiet_step ((go_at_call 105; exact Calls.ext_of (HCM.out _ (by repeat (first | exact Ext.refl' _ | assumption | apply Ext.ex' | apply Ext.al | apply Ext.drN | apply Ext.dr))))) | quiet_step ((go_at_call 105; exact Calls.ext_of (HCM.out _ (by repeat (first | exact Ext.refl' _ | assumption | apply Ext.ex' | apply Ext.al | apply Ext.drN | apply Ext.dr))))))
    refine wpQuiet_nil ?_
    intro _ hw'
    obtain ⟨xq, hw''⟩ := hw'
    subst hw''
    go_wp2
    go_ret
    exact ⟨by rw [HB.out]; rfl, by repeat (first | exact Ext.refl' _ | assumption | apply Ext.ex' | apply Ext.al | apply Ext.drN | apply Ext.dr)⟩
  · have HB : Hid (keyB key pk = false) := Lib.hid (by unfold keyB; rw [decide_eq_false (by omega)]; rfl)
    generalize keyB key pk = b at HB ⊢
    go_enter Tryz.func103, Tryz.ntmps103
    go_wp2_with fail
    refine Calls.mono (HT.out _ (hR.ext (by repeat (first | exact Ext.refl' _ | assumption | apply Ext.ex' | apply Ext.al | apply Ext.drN | apply Ext.dr))) (hK.ext (by repeat (first | exact Ext.refl' _ | assumption | apply Ext.ex' | apply Ext.al | apply Ext.drN | apply Ext.dr)))) ?_
    rintro e w1 ⟨B, q, rfl, hb1, hq, hRk⟩
    obtain ⟨x1, rfl⟩ := hb1.get
    clear hb1
    go_wp2_with fail
    refine wp_region_ext (by kernel_rfl) (by kernel_rfl) ?_
    repeat (first | go_big_quiet_step (fail) | quiet_step (fail))
    refine wpQuiet_nil ?_
    intro _ hw'
    obtain ⟨xq, hw''⟩ := hw'
    subst hw''
    go_wp2
    go_ret
    exact ⟨by rw [HB.out]; rfl, by repeat (first | exact Ext.refl' _ | assumption | apply Ext.ex' | apply Ext.al | apply Ext.drN | apply Ext.dr)⟩

end Go.Proofs.YtflhikpihbenaaaGreat
