/- Lemmas for the rows: Mat Mat2 Frq Frs. -/
import Derived.Test.YtdiaecgpjgdkdaaGreatThS11
import Derived.Test.YtdiaecgpjgdkdaaGreatThS15
import Derived.Test.YtdiaecgpjgdkdaaGreatThS05
import Derived.Test.YtdiaecgpjgdkdaaGreatThS08
import Derived.Test.YtdiaecgpjgdkdaaGreatThS13
import Derived.Test.YtdiaecgpjgdkdaaGreatThS12
import Derived.Deep.LoopGhost
set_option linter.unusedSimpArgs false
set_option linter.unusedVariables false
namespace Go.Proofs.YtdiaecgpjgdkdaaGreat
open Go.RowKit

set_option maxHeartbeats 400000 in
theorem rval1_any (p : Int × Int) (w : World) : Calls Tryz.prog 39 #[pr p] w fun e w' => e = .returned (.bool (pvB p)) ∧ Ext w w' := by
 go_enter Tryz.func39, Tryz.ntmps39
 go_wp2
 all_goals go_ret
 all_goals refine ⟨?_, Ext.al1 _ _⟩
 all_goals simp_all [pvB]
 all_goals omega

set_option maxHeartbeats 800000 in
theorem aov_any (p q : Int × Int) (w : World) : Calls Tryz.prog 203 #[pr p, pr q] w fun e w' => e = .returned (.bool (povB p q)) ∧ Ext w w' := by
 have H1 := Lib.hid (fun w => pvalid_any p w)
 have H2 := Lib.hid (fun w => pvalid_any q w)
 have HB : Hid (povB p q = (pvB p && pvB q && decide (p.1 < q.2) && decide (q.1 < p.2))) := Lib.hid rfl
 generalize povB p q = b at HB ⊢
 generalize pvB p = b1 at H1 HB
 generalize pvB q = b2 at H2 HB
 by_cases h3 : p.1 < q.2 <;> by_cases h4 : q.1 < p.2 <;> rcases b1 with _ | _ <;> rcases b2 with _ | _
 all_goals go_enter Tryz.func203, Tryz.ntmps203
 all_goals go_wp2_with (first | (go_at_call 42; (with_reducible refine (H1.out _).mono ?_); rintro e w1 ⟨rfl, hb1⟩; obtain ⟨x1, rfl⟩ := hb1.get; clear hb1) | (go_at_call 42; (with_reducible refine (H2.out _).mono ?_); rintro e w1 ⟨rfl, hb1⟩; obtain ⟨x2, rfl⟩ := hb1.get; clear hb1))
 all_goals go_ret
 all_goals exact ⟨by rw [HB.out]; simp_all, ex_⟩

set_option maxHeartbeats 800000 in
theorem rov_any (p q : Int × Int) (w : World) : Calls Tryz.prog 63 #[pr p, pr q] w fun e w' => e = .returned (.bool (povB p q)) ∧ Ext w w' := by
 have H1 := Lib.hid (fun w => rval1_any p w)
 have H2 := Lib.hid (fun w => rval1_any q w)
 have HB : Hid (povB p q = (pvB p && pvB q && decide (p.1 < q.2) && decide (q.1 < p.2))) := Lib.hid rfl
 generalize povB p q = b at HB ⊢
 generalize pvB p = b1 at H1 HB
 generalize pvB q = b2 at H2 HB
 by_cases h3 : p.1 < q.2 <;> by_cases h4 : q.1 < p.2 <;> rcases b1 with _ | _ <;> rcases b2 with _ | _
 all_goals go_enter Tryz.func63, Tryz.ntmps63
 all_goals go_wp2_with (first | (go_at_call 39; (with_reducible refine (H1.out _).mono ?_); rintro e w1 ⟨rfl, hb1⟩; obtain ⟨x1, rfl⟩ := hb1.get; clear hb1) | (go_at_call 39; (with_reducible refine (H2.out _).mono ?_); rintro e w1 ⟨rfl, hb1⟩; obtain ⟨x2, rfl⟩ := hb1.get; clear hb1))
 all_goals go_ret
 all_goals exact ⟨by rw [HB.out]; simp_all, ex_⟩

def keyB (key picked : List Va) : Bool := decide (key.length ≤ picked.length) && (cmpR (picked.take key.length) key == 0)
theorem has_scan (s0 : ByteArray) (a1 a3 a4 K : Option Addr) (n1 m1 n3 m3 n4 m4 kc : Nat) (ks : List Int) (id sch : Int) (RA : Option Addr) (rc : Nat) (row : List Va) (vv vs : Int × Int) (by_ un : Int) (w : World) : Calls Tryz.prog 189 #[.agg #[], .agg #[.string s0, .slice a1 n1 m1, .slice K ks.length kc, .slice a3 n3 m3, .slice a4 n4 m4], .agg #[.int .i64 id, .int .i64 sch, .slice RA row.length rc, .int .i64 vv.1, .int .i64 vv.2, .int .i64 vs.1, .int .i64 vs.2, .int .i64 by_, .int .i64 un]] w fun e w' => e = .returned (.bool true) ∧ Ext w w' := by
 go_enter Tryz.func189, Tryz.ntmps189
 go_wp2
 go_ret
 exact ⟨rfl, ex_⟩
set_option maxHeartbeats 800000 in
theorem has_valid (s0 : ByteArray) (a1 a3 a4 K : Option Addr) (n1 m1 n3 m3 n4 m4 kc : Nat) (ks : List Int) (id sch : Int) (RA : Option Addr) (rc : Nat) (row : List Va) (vv vs : Int × Int) (by_ un : Int) (p : Int × Int) (w : World) : Calls Tryz.prog 201 #[.agg #[.int .i64 p.1, .int .i64 p.2], .agg #[.string s0, .slice a1 n1 m1, .slice K ks.length kc, .slice a3 n3 m3, .slice a4 n4 m4], .agg #[.int .i64 id, .int .i64 sch, .slice RA row.length rc, .int .i64 vv.1, .int .i64 vv.2, .int .i64 vs.1, .int .i64 vs.2, .int .i64 by_, .int .i64 un]] w fun e w' => e = .returned (.bool (povB vv p)) ∧ Ext w w' := by
 have H1 := Lib.hid (fun w => aov_any vv p w)
 generalize povB vv p = b at H1 ⊢
 go_enter Tryz.func201, Tryz.ntmps201
 go_wp2_with (go_at_call 203; refine (H1.out _).mono ?_; rintro e w1 ⟨rfl, hb1⟩; obtain ⟨x1, rfl⟩ := hb1.get; clear hb1)
 go_ret
 exact ⟨rfl, ex_⟩
set_option maxHeartbeats 1600000 in
theorem has_rect (s0 : ByteArray) (a1 a3 a4 K : Option Addr) (n1 m1 n3 m3 n4 m4 kc : Nat) (ks : List Int) (id sch : Int) (RA : Option Addr) (rc : Nat) (row : List Va) (vv vs : Int × Int) (by_ un : Int) (p q : Int × Int) (w : World) : Calls Tryz.prog 206 #[.agg #[.int .i64 p.1, .int .i64 p.2, .int .i64 q.1, .int .i64 q.2], .agg #[.string s0, .slice a1 n1 m1, .slice K ks.length kc, .slice a3 n3 m3, .slice a4 n4 m4], .agg #[.int .i64 id, .int .i64 sch, .slice RA row.length rc, .int .i64 vv.1, .int .i64 vv.2, .int .i64 vs.1, .int .i64 vs.2, .int .i64 by_, .int .i64 un]] w fun e w' => e = .returned (.bool (povB vv p && povB vs q)) ∧ Ext w w' := by
 have H1 := Lib.hid (fun w => aov_any vv p w)
 have H2 := Lib.hid (fun w => aov_any vs q w)
 generalize povB vv p = b at H1 ⊢
 generalize povB vs q = d at H2 ⊢
 rcases b with _ | _
 ·
  go_enter Tryz.func206, Tryz.ntmps206
  go_wp2_with fail
  refine Calls.mono (H1.out _) ?_
  rintro e w1 ⟨rfl, hb1⟩
  obtain ⟨x1, rfl⟩ := hb1.get
  go_wp2
  go_ret
  exact ⟨rfl, ex_⟩
 ·
  go_enter Tryz.func206, Tryz.ntmps206
  go_wp2_with fail
  refine Calls.mono (H1.out _) ?_
  rintro e w1 ⟨rfl, hb1⟩
  obtain ⟨x1, rfl⟩ := hb1.get
  clear hb1
  go_wp2_with fail
  refine Calls.mono (H2.out _) ?_
  rintro e w1 ⟨rfl, hb1⟩
  obtain ⟨x2, rfl⟩ := hb1.get
  clear hb1
  go_wp2
  go_ret
  exact ⟨by simp, ex_⟩
set_option maxRecDepth 100000 in
set_option maxHeartbeats 2000000 in
theorem has_keyed (s0 : ByteArray) (a1 a3 a4 K : Option Addr) (n1 m1 n3 m3 n4 m4 kc : Nat) (ks : List Int) (id sch : Int) (RA : Option Addr) (rc : Nat) (row : List Va) (vv vs : Int × Int) (by_ un : Int) (PK : Option Addr) (pc : Nat) (key : List Va) (w : World) (hR : Rd w 3 RA row.length (vcl row)) (hK : Rd w 1 K ks.length (ic ks)) (hP : Rd w 3 PK key.length (vcl key)) (nr : row.length ≤ 9223372036854775807) (nk : ks.length ≤ 1048576) (np : key.length ≤ 9223372036854775807) :
  Calls Tryz.prog 191 #[.agg #[.slice PK key.length pc], .agg #[.string s0, .slice a1 n1 m1, .slice K ks.length kc, .slice a3 n3 m3, .slice a4 n4 m4], .agg #[.int .i64 id, .int .i64 sch, .slice RA row.length rc, .int .i64 vv.1, .int .i64 vv.2, .int .i64 vs.1, .int .i64 vs.2, .int .i64 by_, .int .i64 un]] w fun e w' => e = .returned (.bool (keyB key (ks.map (atV row)))) ∧ Ext w w' := by
 have HT := Lib.hid (fun w h1 h2 => tkey_any s0 a1 a3 a4 K n1 m1 n3 m3 n4 m4 kc ks RA rc row w h1 h2 nr nk)
 have hpk : (ks.map (atV row)).length = ks.length := by simp
 generalize ks.map (atV row) = pk at HT hpk ⊢
 by_cases hle : key.length ≤ ks.length
 ·
  have HB : Hid (keyB key pk = (cmpR (pk.take key.length) key == 0)) := Lib.hid (by unfold keyB; rw [decide_eq_true (by omega)]; rfl)
  generalize keyB key pk = b at HB ⊢
  go_enter Tryz.func191, Tryz.ntmps191
  go_wp2_with fail
  refine Calls.mono (HT.out _ (hR.ext (ex_)) (hK.ext (ex_))) ?_
  rintro e w1 ⟨B, q, rfl, hb1, hq, hRk⟩
  obtain ⟨x1, rfl⟩ := hb1.get
  clear hb1
  have hTk := Rd.takeV (l := pk) (by rw [hpk]; exact hRk) (n := key.length) (by omega)
  have htl : (pk.take key.length).length = key.length := by simp; omega
  rw [htl] at hTk
  have HCM := Lib.hid (fun (w : World) (h : Ext _ w) => (show (pk.take key.length).length = key.length from htl) ▸ tcmp_any B PK q pc (pk.take key.length) key w (by rw [htl]; exact hTk.ext h) (hP.ext ((show Ext _ _ from ex_).tr h)) (by omega) np)
  generalize cmpR (pk.take key.length) key = z at HB HCM
  go_wp2_with fail
  refine wp_region_ext (by kernel_rfl) (by kernel_rfl) ?_
  repeat (first | go_big_quiet_step ((go_at_call 146; exact Calls.ext_of (HCM.out _ (ex_)))) | quiet_step ((go_at_call 146; exact Calls.ext_of (HCM.out _ (ex_)))))
  refine wpQuiet_nil ?_
  intro _ hw'
  obtain ⟨xq, hw''⟩ := hw'
  subst hw''
  go_wp2
  go_ret
  exact ⟨by rw [HB.out]; rfl, ex_⟩
 ·
  have HB : Hid (keyB key pk = false) := Lib.hid (by unfold keyB; rw [decide_eq_false (by omega)]; rfl)
  generalize keyB key pk = b at HB ⊢
  go_enter Tryz.func191, Tryz.ntmps191
  go_wp2_with fail
  refine Calls.mono (HT.out _ (hR.ext (ex_)) (hK.ext (ex_))) ?_
  rintro e w1 ⟨B, q, rfl, hb1, hq, hRk⟩
  obtain ⟨x1, rfl⟩ := hb1.get
  clear hb1
  go_wp2_with fail
  refine wp_region_ext (by kernel_rfl) (by kernel_rfl) ?_
  repeat (first | go_big_quiet_step (fail) | quiet_step (fail))
  refine wpQuiet_nil ?_
  intro _ hw'
  obtain ⟨xq, hw''⟩ := hw'
  subst hw''
  go_wp2
  go_ret
  exact ⟨by rw [HB.out]; rfl, ex_⟩

end Go.Proofs.YtdiaecgpjgdkdaaGreat

namespace Go.Proofs.YtdiaecgpjgdkdaaGreat
open Go.RowKit

@[go_sem] theorem meth_scan_272 (v : Value) (w : World) : (method 272 94 v "bitemporal/access.has").run Tryz.prog w = .ok (189, v) w := by kernel_rfl

@[go_sem] theorem meth_scan_284 (v : Value) (w : World) : (method 284 94 v "bitemporal/access.has").run Tryz.prog w = .ok (189, v) w := by kernel_rfl

@[go_sem] theorem meth_scan_380 (v : Value) (w : World) : (method 380 94 v "bitemporal/access.has").run Tryz.prog w = .ok (189, v) w := by kernel_rfl

@[go_sem] theorem meth_keyed_272 (v : Value) (w : World) : (method 272 96 v "bitemporal/access.has").run Tryz.prog w = .ok (191, v) w := by kernel_rfl

@[go_sem] theorem meth_keyed_284 (v : Value) (w : World) : (method 284 96 v "bitemporal/access.has").run Tryz.prog w = .ok (191, v) w := by kernel_rfl

@[go_sem] theorem meth_keyed_380 (v : Value) (w : World) : (method 380 96 v "bitemporal/access.has").run Tryz.prog w = .ok (191, v) w := by kernel_rfl

@[go_sem] theorem meth_valid_272 (v : Value) (w : World) : (method 272 98 v "bitemporal/access.has").run Tryz.prog w = .ok (201, v) w := by kernel_rfl

@[go_sem] theorem meth_valid_284 (v : Value) (w : World) : (method 284 98 v "bitemporal/access.has").run Tryz.prog w = .ok (201, v) w := by kernel_rfl

@[go_sem] theorem meth_valid_380 (v : Value) (w : World) : (method 380 98 v "bitemporal/access.has").run Tryz.prog w = .ok (201, v) w := by kernel_rfl

@[go_sem] theorem meth_rect_272 (v : Value) (w : World) : (method 272 100 v "bitemporal/access.has").run Tryz.prog w = .ok (206, v) w := by kernel_rfl

@[go_sem] theorem meth_rect_284 (v : Value) (w : World) : (method 284 100 v "bitemporal/access.has").run Tryz.prog w = .ok (206, v) w := by kernel_rfl

@[go_sem] theorem meth_rect_380 (v : Value) (w : World) : (method 380 100 v "bitemporal/access.has").run Tryz.prog w = .ok (206, v) w := by kernel_rfl

def matB (k : Int) (key pk : List Va) (vv vs p q : Int × Int) : Bool := if k = 0 then true else if k = 1 then keyB key pk else if k = 2 then povB vv p else if k = 3 then povB vv p && povB vs q else false
set_option maxRecDepth 100000 in
set_option maxHeartbeats 4000000 in
theorem amatches_any (s0 : ByteArray) (a1 a3 a4 K : Option Addr) (n1 m1 n3 m3 n4 m4 kc : Nat) (ks : List Int) (id sch : Int) (RA : Option Addr) (rc : Nat) (row : List Va) (vv vs : Int × Int) (by_ un : Int) (k : Int) (PK : Option Addr) (pc : Nat) (key : List Va) (p q : Int × Int) (w : World) (hR : Rd w 3 RA row.length (vcl row)) (hK : Rd w 1 K ks.length (ic ks)) (hP : Rd w 3 PK key.length (vcl key)) (nr : row.length ≤ 9223372036854775807) (nk : ks.length ≤ 1048576) (np : key.length ≤ 9223372036854775807) :
  Calls Tryz.prog 12 #[.agg #[.string s0, .slice a1 n1 m1, .slice K ks.length kc, .slice a3 n3 m3, .slice a4 n4 m4], .agg #[.int .i64 k, .slice PK key.length pc, .int .i64 p.1, .int .i64 p.2, .int .i64 q.1, .int .i64 q.2], .agg #[.int .i64 id, .int .i64 sch, .slice RA row.length rc, .int .i64 vv.1, .int .i64 vv.2, .int .i64 vs.1, .int .i64 vs.2, .int .i64 by_, .int .i64 un]] w fun e w' => e = .returned (.bool (matB k key (ks.map (atV row)) vv vs p q)) ∧ Ext w w' := by
 rcases (show k = 0 ∨ k = 1 ∨ k = 2 ∨ k = 3 ∨ (k ≠ 0 ∧ k ≠ 1 ∧ k ≠ 2 ∧ k ≠ 3) from by omega) with rfl | rfl | rfl | rfl | ⟨h0, h1, h2, h3⟩
 ·
  have HM : Hid (matB 0 key (ks.map (atV row)) vv vs p q = true) := Lib.hid (by simp [matB])
  generalize matB 0 key (ks.map (atV row)) vv vs p q = b at HM ⊢
  have HO := Lib.hid (fun w => of_any 0 PK key.length pc p.1 p.2 q.1 q.2 w)
  rw [show ofV 0 PK key.length pc p.1 p.2 q.1 q.2 = .iface 94 (.agg #[]) from by simp [ofV]] at HO
  go_enter Tryz.func12, Tryz.ntmps12
  go_wp2_with (first | (go_at_call 13; refine (HO.out _).mono ?_; rintro e w1 ⟨rfl, hb1⟩; obtain ⟨xo, rfl⟩ := hb1.get; clear hb1) | (go_at_call 189; refine (has_scan s0 a1 a3 a4 K n1 m1 n3 m3 n4 m4 kc ks id sch RA rc row vv vs by_ un _).mono ?_; rintro e w1 ⟨rfl, hb1⟩; obtain ⟨xm, rfl⟩ := hb1.get; clear hb1))
  go_ret
  exact ⟨by rw [HM.out]; rfl, ex_⟩
 ·
  have HM : Hid (matB 1 key (ks.map (atV row)) vv vs p q = keyB key (ks.map (atV row))) := Lib.hid (by simp [matB])
  have HH := Lib.hid (fun w h1 h2 h3 => has_keyed s0 a1 a3 a4 K n1 m1 n3 m3 n4 m4 kc ks id sch RA rc row vv vs by_ un PK pc key w h1 h2 h3 nr nk np)
  generalize matB 1 key (ks.map (atV row)) vv vs p q = b at HM ⊢
  generalize keyB key (ks.map (atV row)) = b2 at HM HH
  have HO := Lib.hid (fun w => of_any 1 PK key.length pc p.1 p.2 q.1 q.2 w)
  rw [show ofV 1 PK key.length pc p.1 p.2 q.1 q.2 = .iface 96 (.agg #[.slice PK key.length pc]) from by simp [ofV]] at HO
  go_enter Tryz.func12, Tryz.ntmps12
  go_wp2_with (first | (go_at_call 13; refine (HO.out _).mono ?_; rintro e w1 ⟨rfl, hb1⟩; obtain ⟨xo, rfl⟩ := hb1.get; clear hb1) | (go_at_call 191; refine (HH.out _ (hR.ext (ex_)) (hK.ext (ex_)) (hP.ext (ex_))).mono ?_; rintro e w1 ⟨rfl, hb1⟩; obtain ⟨xm, rfl⟩ := hb1.get; clear hb1))
  go_ret
  exact ⟨by rw [HM.out]; rfl, ex_⟩
 ·
  have HM : Hid (matB 2 key (ks.map (atV row)) vv vs p q = povB vv p) := Lib.hid (by simp [matB])
  have HH := Lib.hid (fun w => has_valid s0 a1 a3 a4 K n1 m1 n3 m3 n4 m4 kc ks id sch RA rc row vv vs by_ un p w)
  generalize matB 2 key (ks.map (atV row)) vv vs p q = b at HM ⊢
  generalize povB vv p = b2 at HM HH
  have HO := Lib.hid (fun w => of_any 2 PK key.length pc p.1 p.2 q.1 q.2 w)
  rw [show ofV 2 PK key.length pc p.1 p.2 q.1 q.2 = .iface 98 (.agg #[.int .i64 p.1, .int .i64 p.2]) from by simp [ofV]] at HO
  go_enter Tryz.func12, Tryz.ntmps12
  go_wp2_with (first | (go_at_call 13; refine (HO.out _).mono ?_; rintro e w1 ⟨rfl, hb1⟩; obtain ⟨xo, rfl⟩ := hb1.get; clear hb1) | (go_at_call 201; refine (HH.out _).mono ?_; rintro e w1 ⟨rfl, hb1⟩; obtain ⟨xm, rfl⟩ := hb1.get; clear hb1))
  go_ret
  exact ⟨by rw [HM.out]; rfl, ex_⟩
 ·
  have HM : Hid (matB 3 key (ks.map (atV row)) vv vs p q = (povB vv p && povB vs q)) := Lib.hid (by simp [matB])
  have HH := Lib.hid (fun w => has_rect s0 a1 a3 a4 K n1 m1 n3 m3 n4 m4 kc ks id sch RA rc row vv vs by_ un p q w)
  generalize matB 3 key (ks.map (atV row)) vv vs p q = b at HM ⊢
  generalize (povB vv p && povB vs q) = b2 at HM HH
  have HO := Lib.hid (fun w => of_any 3 PK key.length pc p.1 p.2 q.1 q.2 w)
  rw [show ofV 3 PK key.length pc p.1 p.2 q.1 q.2 = .iface 100 (.agg #[.int .i64 p.1, .int .i64 p.2, .int .i64 q.1, .int .i64 q.2]) from by simp [ofV]] at HO
  go_enter Tryz.func12, Tryz.ntmps12
  go_wp2_with (first | (go_at_call 13; refine (HO.out _).mono ?_; rintro e w1 ⟨rfl, hb1⟩; obtain ⟨xo, rfl⟩ := hb1.get; clear hb1) | (go_at_call 206; refine (HH.out _).mono ?_; rintro e w1 ⟨rfl, hb1⟩; obtain ⟨xm, rfl⟩ := hb1.get; clear hb1))
  go_ret
  exact ⟨by rw [HM.out]; rfl, ex_⟩
 ·
  have HM : Hid (matB k key (ks.map (atV row)) vv vs p q = false) := Lib.hid (by simp [matB, h0, h1, h2, h3])
  generalize matB k key (ks.map (atV row)) vv vs p q = b at HM ⊢
  have HO := Lib.hid (fun w => of_any k PK key.length pc p.1 p.2 q.1 q.2 w)
  rw [show ofV k PK key.length pc p.1 p.2 q.1 q.2 = .nilIface from by simp [ofV, h0, h1, h2, h3]] at HO
  go_enter Tryz.func12, Tryz.ntmps12
  go_wp2_with (go_at_call 13; refine (HO.out _).mono ?_; rintro e w1 ⟨rfl, hb1⟩; obtain ⟨xo, rfl⟩ := hb1.get; clear hb1)
  go_ret
  exact ⟨by rw [HM.out]; rfl, ex_⟩

set_option maxHeartbeats 2000000 in
theorem starts_any (A PK : Option Addr) (c pc : Nat) (pk key : List Va) (w : World) (hA : Rd w 3 A pk.length (vcl pk)) (hP : Rd w 3 PK key.length (vcl key)) (hq : pk.length ≤ c) (na : pk.length ≤ 9223372036854775807) (np : key.length ≤ 9223372036854775807) :
  Calls Tryz.prog 61 #[.slice A pk.length c, .slice PK key.length pc] w fun e w' => e = .returned (.bool (keyB key pk)) ∧ Ext w w' := by
 by_cases hle : key.length ≤ pk.length
 ·
  have HB : Hid (keyB key pk = (cmpR (pk.take key.length) key == 0)) := Lib.hid (by unfold keyB; rw [decide_eq_true hle]; rfl)
  generalize keyB key pk = b at HB ⊢
  have hTk := Rd.takeV hA hle
  have htl : (pk.take key.length).length = key.length := by simp; omega
  rw [htl] at hTk
  have HCM := Lib.hid ((show (pk.take key.length).length = key.length from htl) ▸ requal_any A PK c pc (pk.take key.length) key w (by rw [htl]; exact hTk) hP (by omega) np)
  generalize cmpR (pk.take key.length) key = z at HB HCM
  go_enter Tryz.func61, Tryz.ntmps61
  go_wp2_with fail
  refine Calls.mono HCM.out ?_
  rintro e w1 ⟨rfl, hb1⟩
  go_wp2
  go_ret
  exact ⟨by rw [HB.out]; rfl, hb1⟩
 ·
  have HB : Hid (keyB key pk = false) := Lib.hid (by unfold keyB; rw [decide_eq_false hle]; rfl)
  generalize keyB key pk = b at HB ⊢
  go_enter Tryz.func61, Tryz.ntmps61
  go_wp2
  go_ret
  exact ⟨by rw [HB.out]; rfl, ex_⟩

set_option maxRecDepth 100000 in
set_option maxHeartbeats 4000000 in
theorem rmatches_any (s0 : ByteArray) (a1 a3 a4 K : Option Addr) (n1 m1 n3 m3 n4 m4 kc : Nat) (ks : List Int) (id sch : Int) (RA : Option Addr) (rc : Nat) (row : List Va) (vv vs : Int × Int) (by_ un : Int) (k : Int) (PK : Option Addr) (pc : Nat) (key : List Va) (p q : Int × Int) (w : World) (hR : Rd w 3 RA row.length (vcl row)) (hK : Rd w 1 K ks.length (ic ks)) (hP : Rd w 3 PK key.length (vcl key)) (nr : row.length ≤ 9223372036854775807) (nk : ks.length ≤ 1048576) (np : key.length ≤ 9223372036854775807) :
  Calls Tryz.prog 31 #[.agg #[.string s0, .slice a1 n1 m1, .slice K ks.length kc, .slice a3 n3 m3, .slice a4 n4 m4], .agg #[.int .i64 k, .slice PK key.length pc, .int .i64 p.1, .int .i64 p.2, .int .i64 q.1, .int .i64 q.2], .agg #[.int .i64 id, .int .i64 sch, .slice RA row.length rc, .int .i64 vv.1, .int .i64 vv.2, .int .i64 vs.1, .int .i64 vs.2, .int .i64 by_, .int .i64 un]] w fun e w' => e = .returned (.bool (matB k key (ks.map (atV row)) vv vs p q)) ∧ Ext w w' := by
 rcases (show k = 0 ∨ k = 1 ∨ k = 2 ∨ k = 3 ∨ (k ≠ 0 ∧ k ≠ 1 ∧ k ≠ 2 ∧ k ≠ 3) from by omega) with rfl | rfl | rfl | rfl | ⟨h0, h1, h2, h3⟩
 ·
  have HM : Hid (matB 0 key (ks.map (atV row)) vv vs p q = true) := Lib.hid (by simp [matB])
  generalize matB 0 key (ks.map (atV row)) vv vs p q = b at HM ⊢
  go_enter Tryz.func31, Tryz.ntmps31
  go_wp2
  go_ret
  exact ⟨by rw [HM.out]; rfl, ex_⟩
 ·
  have HM : Hid (matB 1 key (ks.map (atV row)) vv vs p q = keyB key (ks.map (atV row))) := Lib.hid (by simp [matB])
  have HT := Lib.hid (fun w h1 h2 => rkey_any s0 a1 a3 a4 K n1 m1 n3 m3 n4 m4 kc ks RA rc row w h1 h2 nr nk)
  have hpk : (ks.map (atV row)).length = ks.length := by simp
  generalize matB 1 key (ks.map (atV row)) vv vs p q = b at HM ⊢
  generalize ks.map (atV row) = pk at HT hpk HM
  have HS := Lib.hid (fun B qq w h1 h2 h3 => hpk ▸ starts_any B PK qq pc pk key w (by rw [hpk]; exact h1) h2 (by rw [hpk]; exact h3) (by omega) np)
  generalize keyB key pk = b2 at HM HS
  go_enter Tryz.func31, Tryz.ntmps31
  go_wp2_with fail
  refine wp_region_held_drew (S := (fun w' => w'.cell? ⟨w.heap.size, 0, none⟩ = some (.string s0) ∧ w'.cell? ⟨w.heap.size, 1, none⟩ = some (.slice a1 n1 m1) ∧ w'.cell? ⟨w.heap.size, 2, none⟩ = some (.slice K ks.length kc) ∧ w'.cell? ⟨w.heap.size, 3, none⟩ = some (.slice a3 n3 m3) ∧ w'.cell? ⟨w.heap.size, 4, none⟩ = some (.slice a4 n4 m4) ∧ w'.cell? ⟨w.heap.size + 1, 1, none⟩ = some (.slice PK key.length pc) ∧ w'.cell? ⟨w.heap.size + 1 + 1, 2, none⟩ = some (.slice RA row.length rc))) (by kernel_rfl) (by simp [go_sem, ↓IntWalk.iteOmega, *]) (fun hHeld => ?_)
  refine tkH 0 ?oi1 (?v1) ?hi1 ?hy1 ?_
  case hi1 => (simp only [gA, gS, gZ]; try rfl)
  case hy1 => (refine Or.inl ⟨by rfl, ?_⟩; intro wq hSw; (try dsimp only at hSw); go_simp; (try with_reducible rfl))
  (try simp only [Act.put, pA, pZ, pS])
  refine tkH 1 ?oi2 (?v2) ?hi2 ?hy2 ?_
  case hi2 => (simp only [gA, gS, gZ]; try rfl)
  case hy2 => (refine Or.inl ⟨by rfl, ?_⟩; intro wq hSw; (try dsimp only at hSw); go_simp; (try with_reducible rfl))
  (try simp only [Act.put, pA, pZ, pS])
  refine tkH 2 ?oi3 (?v3) ?hi3 ?hy3 ?_
  case hi3 => (simp only [gA, gS, gZ]; try rfl)
  case hy3 => (refine Or.inl ⟨by rfl, ?_⟩; intro wq hSw; (try dsimp only at hSw); go_simp; (try with_reducible rfl))
  (try simp only [Act.put, pA, pZ, pS])
  refine tkH 4 ?oi4 (?v4) ?hi4 ?hy4 ?_
  case hi4 => (simp only [gA, gS, gZ]; try rfl)
  case hy4 => (refine Or.inl ⟨by rfl, ?_⟩; intro wq hSw; (try dsimp only at hSw); go_simp; (try with_reducible rfl))
  (try simp only [Act.put, pA, pZ, pS])
  refine tkH 5 ?oi5 (?v5) ?hi5 ?hy5 ?_
  case hi5 => (simp only [gA, gS, gZ]; try rfl)
  case hy5 => (refine Or.inl ⟨by rfl, ?_⟩; intro wq hSw; (try dsimp only at hSw); go_simp; (try with_reducible rfl))
  (try simp only [Act.put, pA, pZ, pS])
  refine wpAnyH_ready (rs := [3]) (by kernel_rfl) (by simp) ?_
  refine AllReadyH.cons (o := ?oi6) ?hi6 ?ti6 AllReadyH.nil
  case hi6 => (simp only [gA, gS, gZ]; try rfl)
  case ti6 =>
   intro KQ hKQ
   go_simp
   go_at_call 62
   refine Calls.mono (HT.out _ (hR.ext (ex_)) (hK.ext (ex_))) ?_
   rintro e w1 ⟨B, qq, rfl, hb1, hq, hRk⟩
   obtain ⟨x1, rfl⟩ := hb1.get
   clear hb1
   refine hKQ.out _ _ (by simp [go_sem, ↓IntWalk.iteOmega, *]) (fun hHeld2 => ?_)
   clear hHeld hKQ KQ; have hHeld := hHeld2; clear hHeld2
   (try simp only [Act.put, pA, pZ, pS])
   refine wpAnyH_ready (rs := [6]) (by kernel_rfl) (by simp) ?_
   refine AllReadyH.cons (o := ?oi7) ?hi7 ?ti7 AllReadyH.nil
   case hi7 => (simp only [gA, gS, gZ]; try rfl)
   case ti7 =>
    intro KQ hKQ
    go_simp
    go_at_call 61
    refine Calls.mono (HS.out B qq _ (hRk.ext (ex_)) (hP.ext (ex_)) hq) ?_
    rintro e w1 ⟨rfl, hb1⟩
    obtain ⟨x2, rfl⟩ := hb1.get
    clear hb1
    refine hKQ.out _ _ (by simp [go_sem, ↓IntWalk.iteOmega, *]) (fun hHeld2 => ?_)
    clear hHeld hKQ KQ; have hHeld := hHeld2; clear hHeld2
    (try simp only [Act.put, pA, pZ, pS])
    refine tkH 7 ?oi8 (?v8) ?hi8 ?hy8 ?_
    case hi8 => (simp only [gA, gS, gZ]; try rfl)
    case hy8 => (refine Or.inl ⟨by rfl, ?_⟩; intro wq hSw; (try dsimp only at hSw); go_simp; (try with_reducible rfl))
    (try simp only [Act.put, pA, pZ, pS])
    refine wpAnyH_done (by kernel_rfl) ?_ _
    go_wp2
    go_ret
    exact ⟨by rw [HM.out]; rfl, ex_⟩
 ·
  have HM : Hid (matB 2 key (ks.map (atV row)) vv vs p q = povB vv p) := Lib.hid (by simp [matB])
  have H1 := Lib.hid (fun w => rov_any vv p w)
  generalize matB 2 key (ks.map (atV row)) vv vs p q = b at HM ⊢
  generalize povB vv p = b2 at HM H1
  go_enter Tryz.func31, Tryz.ntmps31
  go_wp2_with (go_at_call 63; refine (H1.out _).mono ?_; rintro e w1 ⟨rfl, hb1⟩; obtain ⟨x1, rfl⟩ := hb1.get; clear hb1)
  go_ret
  exact ⟨by rw [HM.out]; rfl, ex_⟩
 ·
  have HM : Hid (matB 3 key (ks.map (atV row)) vv vs p q = (povB vv p && povB vs q)) := Lib.hid (by simp [matB])
  have H1 := Lib.hid (fun w => rov_any vv p w)
  have H2 := Lib.hid (fun w => rov_any vs q w)
  generalize matB 3 key (ks.map (atV row)) vv vs p q = b at HM ⊢
  generalize povB vv p = b1 at HM H1
  generalize povB vs q = b2 at HM H2
  rcases b1 with _ | _
  ·
   go_enter Tryz.func31, Tryz.ntmps31
   go_wp2_with fail
   refine Calls.mono (H1.out _) ?_
   rintro e w1 ⟨rfl, hb1⟩
   obtain ⟨x1, rfl⟩ := hb1.get
   clear hb1
   go_wp2
   go_ret
   exact ⟨by rw [HM.out]; rfl, ex_⟩
  ·
   go_enter Tryz.func31, Tryz.ntmps31
   go_wp2_with fail
   refine Calls.mono (H1.out _) ?_
   rintro e w1 ⟨rfl, hb1⟩
   obtain ⟨x1, rfl⟩ := hb1.get
   clear hb1
   go_wp2_with fail
   refine Calls.mono (H2.out _) ?_
   rintro e w1 ⟨rfl, hb1⟩
   obtain ⟨x2, rfl⟩ := hb1.get
   clear hb1
   go_wp2
   go_ret
   exact ⟨by rw [HM.out]; simp, ex_⟩
 ·
  have HM : Hid (matB k key (ks.map (atV row)) vv vs p q = false) := Lib.hid (by simp [matB, h0, h1, h2, h3])
  generalize matB k key (ks.map (atV row)) vv vs p q = b at HM ⊢
  have e0 : (k == 0) = false := by simp [h0]
  have e1 : (k == 1) = false := by simp [h1]
  have e2 : (k == 2) = false := by simp [h2]
  have e3 : (k == 3) = false := by simp [h3]
  go_enter Tryz.func31, Tryz.ntmps31
  go_wp2
  go_ret
  exact ⟨by rw [HM.out]; rfl, ex_⟩

end Go.Proofs.YtdiaecgpjgdkdaaGreat

namespace Go.Proofs.YtdiaecgpjgdkdaaGreat
open Go.RowKit

def RKI (e : Ending) : Prop := ∃ k f : Int, e = .returned (.tuple #[.int .i64 k, .int .i64 f])
theorem RKI.mk (k f : Int) : RKI (.returned (.tuple #[.int .i64 k, .int .i64 f])) := ⟨k, f, rfl⟩
theorem own_lit0c (w : World) (base : Nat) (hb : base ≤ w.heap.size) (e size : Nat) : (w.alloc (.cells #[] e)).ownsRow base e size (.slice (some ⟨w.heap.size, 0, none⟩) 0 0) 0 [] :=
 World.ownsRow_made w #[] 0 hb (Nat.zero_le _) (by simp)
theorem own_lit0d (w : World) (base b : Nat) (hb : base ≤ w.heap.size) (e size : Nat) (hq : b = w.heap.size) : (w.alloc (.cells #[] e)).ownsRow base e size (.slice (some ⟨b, 0, none⟩) 0 0) 0 [] := by
 subst hq
 exact own_lit0c w base hb e size
theorem Ext.size' {a b : World} (h : Ext a b) : a.heap.size ≤ b.heap.size := h.size
theorem ownsRow_ext11 {w w' : World} {base e size n : Nat} {v : Value} {xs : List Value} (h : w.ownsRow base e size v n xs) (hE : Ext w w') : w'.ownsRow base e size v n xs := by
 obtain ⟨x, rfl⟩ := hE.get
 exact own_ext h x
theorem fr_args {o i : Int} {v : Va} {nm : ByteArray} {n : Nat} (h : frB o i v nm n = true) : arLo o ≤ (n : Int) ∧ (n : Int) ≤ arHi o := by
 unfold frB at h
 simp only [Bool.and_eq_true, Bool.not_eq_true', decide_eq_false_iff_not] at h
 omega
theorem arHi_le (o : Int) : arHi o ≤ 1099511627776 := by unfold arHi; repeat' split <;> omega
theorem fr_hi {o i : Int} {v : Va} {nm : ByteArray} {n : Nat} (h : frB o i v nm n = true) : n ≤ 1099511627776 := by
 have h1 := (fr_args h).2
 have h2 := arHi_le o
 omega
theorem result_any (o i : Int) (v : Va) (nm : ByteArray) (A L K : Option Addr) (n c lc kc : Nat) (l ks : List Int) (w : World) (hfr : frB o i v nm n = true) (hn : l.length = n) (hcol : o = 2 → 0 ≤ i ∧ i < ks.length) (hL : Rd w 1 L l.length (ic l)) (hK : Rd w 1 K ks.length (ic ks)) (nl : l.length ≤ 9223372036854775807) (nk : ks.length ≤ 9223372036854775807) (hlc : l.length ≤ lc) (hlc2 : lc ≤ 9223372036854775807) :
  Calls Tryz.prog 158 #[exag o i v nm A n c, .slice L l.length lc, .slice K ks.length kc] w fun e w' => RKB e ∧ Ext w w' := by
 by_cases h2 : o = 2
 ·
  subst h2
  exact result_col i v nm A L K n c lc kc l ks w hK nk (hcol rfl).1 (hcol rfl).2
 ·
  by_cases h22 : o = 22
  ·
   subst h22
   have h := fr_args hfr
   have e1 : arLo 22 = 3 := by decide
   have e2 : arHi 22 = 3 := by decide
   rw [e1, e2] at h
   have hl3 : l.length = 3 := by omega
   match l, hl3 with
   | [a0, a1, a2], _ => exact result_if i v nm A L K n c lc kc ks.length a0 a1 a2 w hL hlc hlc2
  ·
   exact result_no o i v nm A L K n c lc kc l ks w hL hK nl nk h22 h2
set_option maxRecDepth 100000 in
set_option maxHeartbeats 8000000 in
theorem check_any (K : Option Addr) (kc : Nat) (ks : List Int) (nk : ks.length ≤ 9223372036854775807) (m : Nat) : ∀ (o i : Int) (v : Va) (nm : ByteArray) (A : Option Addr) (args : List Ex) (c : Nat) (css : List (List Value)) (w : World), szs args = m → args.length ≤ 9223372036854775807 → v.t.size ≤ 9223372036854775807 → Rd w 7 A args.length css.flatten → REs w args css → Rd w 1 K ks.length (ic ks) →
  Calls Tryz.prog 142 #[exag o i v nm A args.length c, .slice K ks.length kc] w fun e w' => RKI e ∧ Ext w w' := by
 induction m using Nat.strongRecOn with
 | _ m ih =>
  intro o i v nm A args c css w hm hsz hvt hR hs hK
  have IH := Lib.hid ih
  have HM := Lib.hid hm
  have HSZ := Lib.hid hsz
  have hl : args.length ≤ 9223372036854775807 := hsz
  have HA := Lib.hid (fun w => arity_any o w)
  have HF := Lib.hid (fun w => formed_any o i v nm A args.length c w hvt (by omega))
  have HRS : Hid (frB o i v nm args.length = true → ∀ (L : Option Addr) (lc : Nat) (l : List Int) (W : World), l.length = args.length → (o = 2 → 0 ≤ i ∧ i < ks.length) → Rd W 1 L l.length (ic l) → Rd W 1 K ks.length (ic ks) → l.length ≤ 9223372036854775807 → l.length ≤ lc → lc ≤ 9223372036854775807 → Calls Tryz.prog 158 #[exag o i v nm A args.length c, .slice L l.length lc, .slice K ks.length kc] W fun e w' => RKB e ∧ Ext W w') := Lib.hid fun fr L lc l W h1 h2 h3 h4 h5 h6 h7 => result_any o i v nm A L K args.length c lc kc l ks W fr h1 h2 h3 h4 h5 (by omega) h6 h7
  generalize arLo o = lo at HA
  generalize arHi o = hi at HA
  obtain ⟨fb, hfb⟩ : ∃ b, frB o i v nm args.length = b := ⟨_, rfl⟩
  have HFB := Lib.hid hfb
  rw [hfb] at HF
  clear ih hm hsz hfb
  go_enter Tryz.func142, Tryz.ntmps142
  go_wp2_with fail
  refine (HA.out _).mono ?_
  rintro e w1 ⟨rfl, hb1⟩
  obtain ⟨x1, rfl⟩ := hb1.get
  clear hb1 HA
  by_cases hlo : lo < 0
  ·
   go_wp2
   go_ret2
   exact ⟨RKI.mk _ _, ex_⟩
  go_wp2_with fail
  refine (HF.out _).mono ?_
  rintro e w1 ⟨rfl, hb1⟩
  obtain ⟨x2, rfl⟩ := hb1.get
  clear hb1 HF
  cases fb
  ·
   go_wp2
   go_ret2
   exact ⟨RKI.mk _ _, ex_⟩
  have hl40 : args.length ≤ 1099511627776 := fr_hi HFB.out
  have hcs : (o = 2 ∧ (i < 0 ∨ (0 ≤ i ∧ (ks.length : Int) ≤ i))) ∨ (o = 2 ∧ 0 ≤ i ∧ i < ks.length) ∨ o ≠ 2 := by omega
  have HCOL : Hid ((o = 2 ∧ (i < 0 ∨ (0 ≤ i ∧ (ks.length : Int) ≤ i))) ∨ (o = 2 → 0 ≤ i ∧ i < ks.length)) := Lib.hid (by omega)
  rcases hcs with ⟨h2, hi1 | ⟨hi1, hi2⟩⟩ | ⟨h2, hi1, hi2⟩ | h2
  ·
   go_wp2
   go_ret2
   exact ⟨RKI.mk _ _, ex_⟩
  ·
   go_wp2
   go_ret2
   exact ⟨RKI.mk _ _, ex_⟩
  ·
   subst h2
   have HCL : Hid ((2 : Int) = 2 → 0 ≤ i ∧ i < ks.length) := Lib.hid (by omega)
   clear HCOL
   go_wp2
   have hE0 : Ext (w.alloc (.cells #[.int .i64 2, .int .i64 i, .int .i64 v.k, .int .i64 v.i, .string v.t, .string nm, .slice A args.length c] 68)) (((ext (ext (w.alloc (.cells #[.int .i64 2, .int .i64 i, .int .i64 v.k, .int .i64 v.i, .string v.t, .string nm, .slice A args.length c] 68)) x1) x2).alloc (.cells #[] 3))) := ex_
   have hE00 : Ext (w.alloc (.cells #[.int .i64 2, .int .i64 i, .int .i64 v.k, .int .i64 v.i, .string v.t, .string nm, .slice A args.length c] 68)) ((ext (ext (w.alloc (.cells #[.int .i64 2, .int .i64 i, .int .i64 v.k, .int .i64 v.i, .string v.t, .string nm, .slice A args.length c] 68)) x1) x2)) := ex_
   go_loopg [8, 9, 10, 11] args.length (fun g q ix v10 v11 wr => ∃ (k lc : Nat) (lA : Option Addr) (lk : List Int), q = .slice lA k lc ∧ ix = .int .i64 k ∧ k ≤ args.length ∧ args.length - k ≤ g ∧ k ≤ lc ∧ lc ≤ maxLen ∧ Hid (lk.length = k) ∧ Hid (wr.ownsRow ((w.alloc (.cells #[.int .i64 2, .int .i64 i, .int .i64 v.k, .int .i64 v.i, .string v.t, .string nm, .slice A args.length c] 68))).heap.size 3 1 (.slice lA k lc) k (ic lk)) ∧ Ext (w.alloc (.cells #[.int .i64 2, .int .i64 i, .int .i64 v.k, .int .i64 v.i, .string v.t, .string nm, .slice A args.length c] 68)) wr)
   case atStart => refine ⟨0, 0, _, [], rfl, rfl, by omega, by omega, Nat.le_refl _, Nat.zero_le _, Lib.hid rfl, Lib.hid (own_lit0d _ _ _ (Ext.size' hE00) _ _ (by simp [size_ext])), hE0⟩
   case round =>
    obtain ⟨k, lc, lA, lk, rfl, rfl, hk, hg, hkl, hlm, HLK, HO, hE⟩ := hrel
    obtain ⟨x, rfl⟩ := hE.get
    have HG := Lib.hid hg
    clear hg
    by_cases hlt : k < args.length
    ·
     have hkz : (k : Int) < (args.length : Int) := by omega
     have hE1 : Ext w (ext (w.alloc (.cells #[.int .i64 2, .int .i64 i, .int .i64 v.k, .int .i64 v.i, .string v.t, .string nm, .slice A args.length c] 68)) x) := ex_
     obtain ⟨b0, o0, hAe, hb0, A1, c1, css1, p0, p1, p2, p3, p4, p5, p6, p7, p8, p9, p10, p11, p12⟩ := RE.arg hR hs hlt
     have hsz := szs_get args k hlt
     have hsz2 := p9
     have HR2 : Hid (∀ W, Ext (ext (w.alloc (.cells #[.int .i64 2, .int .i64 i, .int .i64 v.k, .int .i64 v.i, .string v.t, .string nm, .slice A args.length c] 68)) x) W → Calls Tryz.prog 142 #[exag args[k].op args[k].i args[k].v args[k].nm A1 args[k].args.length c1, .slice K ks.length kc] W fun e w' => RKI e ∧ Ext W w') := Lib.hid fun W e => IH.out _ (by have := HM.out; omega) args[k].op args[k].i args[k].v args[k].nm A1 args[k].args c1 css1 W rfl hsz2 p7 (p11.ext (hE1.tr e)) (REs.ext (hE1.tr e) p12) (hK.ext (hE1.tr e))
     subst hAe
     clear hsz hsz2 p7 p8 p9 p10 p11 p12
     generalize args[k] = ek at p0 p1 p2 p3 p4 p5 p6 HR2
     go_wp2_with fail
     refine (HR2.out _ (ex_)).mono ?_
     rintro e w2 ⟨⟨dk, f, rfl⟩, hb1⟩
     obtain ⟨x3, rfl⟩ := hb1.get
     clear hb1 HR2
     by_cases hf : f = 0
     ·
      subst hf
      go_wp2_with (at_builtin; (refine wpList_app _ rfl (.tmp 61) (.tmp 63) rfl elInt (w.alloc (.cells #[.int .i64 2, .int .i64 i, .int .i64 v.k, .int .i64 v.i, .string v.t, .string nm, .slice (some ⟨b0, o0, none⟩) args.length c] 68)) (ex_) _ k _ rfl (ownsRow_ext11 HO.out (ex_)) _ 1 1 [.int .i64 dk] rfl (Rd.lit _ #[.int .i64 dk] _ 1 1 rfl (by simp [size_ext])) (oneCell_ic [dk]) (by unfold maxLen; omega) (by omega) ?_; intro v1 x4 ho1 _))
      obtain ⟨A4, c4, rfl, hd1, hd2⟩ := Own.form ho1
      have HO4 := Lib.hid ho1
      clear ho1
      go_wp2
      go_roundg (gk - 1)
      case rel => exact ⟨k + 1, c4, A4, lk ++ [dk], rfl, by go_num, by omega, by have := HG.out; omega, hd1, hd2, Lib.hid (by rw [List.length_append, HLK.out]; rfl), Lib.hid (by rw [show ic (lk ++ [dk]) = ic lk ++ [.int .i64 dk] from List.map_append]; exact HO4.out), ex_⟩
      case measure => have := HG.out; omega
     ·
      go_wp2
      go_ret2
      exact ⟨RKI.mk _ _, ex_⟩
    ·
     have hkz : ¬ ((k : Int) < (args.length : Int)) := by omega
     have HR1 : Hid (Rd (ext (w.alloc (.cells #[.int .i64 2, .int .i64 i, .int .i64 v.k, .int .i64 v.i, .string v.t, .string nm, .slice A args.length c] 68)) x) 1 lA k (ic lk)) := Lib.hid (Rd.of_own HO.out)
     have HRS2 : Hid (∀ W, Ext (ext (w.alloc (.cells #[.int .i64 2, .int .i64 i, .int .i64 v.k, .int .i64 v.i, .string v.t, .string nm, .slice A args.length c] 68)) x) W → Calls Tryz.prog 158 #[exag 2 i v nm A args.length c, .slice lA k lc, .slice K ks.length kc] W fun e w' => RKB e ∧ Ext W w') := Lib.hid fun W e => by
      have h := HRS.out HFB.out lA lc lk W
      rw [HLK.out] at h
      exact h (by have := hk; omega) HCL.out (HR1.out.ext e) (hK.ext ((show Ext w (ext (w.alloc (.cells #[.int .i64 2, .int .i64 i, .int .i64 v.k, .int .i64 v.i, .string v.t, .string nm, .slice A args.length c] 68)) x) from ex_).tr e)) (by omega) hkl (by unfold maxLen at hlm; omega)
     clear HRS HR1 HO
     go_wp2_with fail
     refine (HRS2.out _ (ex_)).mono ?_
     rintro e w2 ⟨⟨dk, fb, rfl⟩, hb1⟩
     obtain ⟨x3, rfl⟩ := hb1.get
     clear hb1
     cases fb
     ·
      go_wp2
      go_ret2
      exact ⟨RKI.mk _ _, ex_⟩
     ·
      go_wp2
      go_ret2
      exact ⟨RKI.mk _ _, ex_⟩
  ·
   have HCL : Hid (o = 2 → 0 ≤ i ∧ i < ks.length) := Lib.hid (by omega)
   clear HCOL
   go_wp2
   have hE0 : Ext (w.alloc (.cells #[.int .i64 o, .int .i64 i, .int .i64 v.k, .int .i64 v.i, .string v.t, .string nm, .slice A args.length c] 68)) (((ext (ext (w.alloc (.cells #[.int .i64 o, .int .i64 i, .int .i64 v.k, .int .i64 v.i, .string v.t, .string nm, .slice A args.length c] 68)) x1) x2).alloc (.cells #[] 3))) := ex_
   have hE00 : Ext (w.alloc (.cells #[.int .i64 o, .int .i64 i, .int .i64 v.k, .int .i64 v.i, .string v.t, .string nm, .slice A args.length c] 68)) ((ext (ext (w.alloc (.cells #[.int .i64 o, .int .i64 i, .int .i64 v.k, .int .i64 v.i, .string v.t, .string nm, .slice A args.length c] 68)) x1) x2)) := ex_
   go_loopg [8, 9, 10, 11] args.length (fun g q ix v10 v11 wr => ∃ (k lc : Nat) (lA : Option Addr) (lk : List Int), q = .slice lA k lc ∧ ix = .int .i64 k ∧ k ≤ args.length ∧ args.length - k ≤ g ∧ k ≤ lc ∧ lc ≤ maxLen ∧ Hid (lk.length = k) ∧ Hid (wr.ownsRow ((w.alloc (.cells #[.int .i64 o, .int .i64 i, .int .i64 v.k, .int .i64 v.i, .string v.t, .string nm, .slice A args.length c] 68))).heap.size 3 1 (.slice lA k lc) k (ic lk)) ∧ Ext (w.alloc (.cells #[.int .i64 o, .int .i64 i, .int .i64 v.k, .int .i64 v.i, .string v.t, .string nm, .slice A args.length c] 68)) wr)
   case atStart => refine ⟨0, 0, _, [], rfl, rfl, by omega, by omega, Nat.le_refl _, Nat.zero_le _, Lib.hid rfl, Lib.hid (own_lit0d _ _ _ (Ext.size' hE00) _ _ (by simp [size_ext])), hE0⟩
   case round =>
    obtain ⟨k, lc, lA, lk, rfl, rfl, hk, hg, hkl, hlm, HLK, HO, hE⟩ := hrel
    obtain ⟨x, rfl⟩ := hE.get
    have HG := Lib.hid hg
    clear hg
    by_cases hlt : k < args.length
    ·
     have hkz : (k : Int) < (args.length : Int) := by omega
     have hE1 : Ext w (ext (w.alloc (.cells #[.int .i64 o, .int .i64 i, .int .i64 v.k, .int .i64 v.i, .string v.t, .string nm, .slice A args.length c] 68)) x) := ex_
     obtain ⟨b0, o0, hAe, hb0, A1, c1, css1, p0, p1, p2, p3, p4, p5, p6, p7, p8, p9, p10, p11, p12⟩ := RE.arg hR hs hlt
     have hsz := szs_get args k hlt
     have hsz2 := p9
     have HR2 : Hid (∀ W, Ext (ext (w.alloc (.cells #[.int .i64 o, .int .i64 i, .int .i64 v.k, .int .i64 v.i, .string v.t, .string nm, .slice A args.length c] 68)) x) W → Calls Tryz.prog 142 #[exag args[k].op args[k].i args[k].v args[k].nm A1 args[k].args.length c1, .slice K ks.length kc] W fun e w' => RKI e ∧ Ext W w') := Lib.hid fun W e => IH.out _ (by have := HM.out; omega) args[k].op args[k].i args[k].v args[k].nm A1 args[k].args c1 css1 W rfl hsz2 p7 (p11.ext (hE1.tr e)) (REs.ext (hE1.tr e) p12) (hK.ext (hE1.tr e))
     subst hAe
     clear hsz hsz2 p7 p8 p9 p10 p11 p12
     generalize args[k] = ek at p0 p1 p2 p3 p4 p5 p6 HR2
     go_wp2_with fail
     refine (HR2.out _ (ex_)).mono ?_
     rintro e w2 ⟨⟨dk, f, rfl⟩, hb1⟩
     obtain ⟨x3, rfl⟩ := hb1.get
     clear hb1 HR2
     by_cases hf : f = 0
     ·
      subst hf
      go_wp2_with (at_builtin; (refine wpList_app _ rfl (.tmp 61) (.tmp 63) rfl elInt (w.alloc (.cells #[.int .i64 o, .int .i64 i, .int .i64 v.k, .int .i64 v.i, .string v.t, .string nm, .slice (some ⟨b0, o0, none⟩) args.length c] 68)) (ex_) _ k _ rfl (ownsRow_ext11 HO.out (ex_)) _ 1 1 [.int .i64 dk] rfl (Rd.lit _ #[.int .i64 dk] _ 1 1 rfl (by simp [size_ext])) (oneCell_ic [dk]) (by unfold maxLen; omega) (by omega) ?_; intro v1 x4 ho1 _))
      obtain ⟨A4, c4, rfl, hd1, hd2⟩ := Own.form ho1
      have HO4 := Lib.hid ho1
      clear ho1
      go_wp2
      go_roundg (gk - 1)
      case rel => exact ⟨k + 1, c4, A4, lk ++ [dk], rfl, by go_num, by omega, by have := HG.out; omega, hd1, hd2, Lib.hid (by rw [List.length_append, HLK.out]; rfl), Lib.hid (by rw [show ic (lk ++ [dk]) = ic lk ++ [.int .i64 dk] from List.map_append]; exact HO4.out), ex_⟩
      case measure => have := HG.out; omega
     ·
      go_wp2
      go_ret2
      exact ⟨RKI.mk _ _, ex_⟩
    ·
     have hkz : ¬ ((k : Int) < (args.length : Int)) := by omega
     have HR1 : Hid (Rd (ext (w.alloc (.cells #[.int .i64 o, .int .i64 i, .int .i64 v.k, .int .i64 v.i, .string v.t, .string nm, .slice A args.length c] 68)) x) 1 lA k (ic lk)) := Lib.hid (Rd.of_own HO.out)
     have HRS2 : Hid (∀ W, Ext (ext (w.alloc (.cells #[.int .i64 o, .int .i64 i, .int .i64 v.k, .int .i64 v.i, .string v.t, .string nm, .slice A args.length c] 68)) x) W → Calls Tryz.prog 158 #[exag o i v nm A args.length c, .slice lA k lc, .slice K ks.length kc] W fun e w' => RKB e ∧ Ext W w') := Lib.hid fun W e => by
      have h := HRS.out HFB.out lA lc lk W
      rw [HLK.out] at h
      exact h (by have := hk; omega) HCL.out (HR1.out.ext e) (hK.ext ((show Ext w (ext (w.alloc (.cells #[.int .i64 o, .int .i64 i, .int .i64 v.k, .int .i64 v.i, .string v.t, .string nm, .slice A args.length c] 68)) x) from ex_).tr e)) (by omega) hkl (by unfold maxLen at hlm; omega)
     clear HRS HR1 HO
     go_wp2_with fail
     refine (HRS2.out _ (ex_)).mono ?_
     rintro e w2 ⟨⟨dk, fb, rfl⟩, hb1⟩
     obtain ⟨x3, rfl⟩ := hb1.get
     clear hb1
     cases fb
     ·
      go_wp2
      go_ret2
      exact ⟨RKI.mk _ _, ex_⟩
     ·
      go_wp2
      go_ret2
      exact ⟨RKI.mk _ _, ex_⟩

set_option maxHeartbeats 4000000 in
theorem checkE_any (K : Option Addr) (kc : Nat) (ks : List Int) (nk : ks.length ≤ 9223372036854775807) (o i : Int) (v : Va) (nm : ByteArray) (A : Option Addr) (args : List Ex) (c : Nat) (css : List (List Value)) (w : World) (hsz : args.length ≤ 9223372036854775807) (hvt : v.t.size ≤ 9223372036854775807) (hR : Rd w 7 A args.length css.flatten) (hs : REs w args css) (hK : Rd w 1 K ks.length (ic ks)) :
  Calls Tryz.prog 111 #[exag o i v nm A args.length c, .slice K ks.length kc] w fun e w' => RKI e ∧ Ext w w' := by
 have HD : Hid (∀ W, Ext w W → Calls Tryz.prog 141 #[exag o i v nm A args.length c] W fun e w' => RI e ∧ Ext W w') := Lib.hid fun W e => depth_any _ o i v nm A args c css W rfl (hR.ext e) (REs.ext e hs) hsz
 have HC : Hid (∀ W, Ext w W → Calls Tryz.prog 142 #[exag o i v nm A args.length c, .slice K ks.length kc] W fun e w' => RKI e ∧ Ext W w') := Lib.hid fun W e => check_any K kc ks nk _ o i v nm A args c css W rfl hsz hvt (hR.ext e) (REs.ext e hs) (hK.ext e)
 clear hR hs hK hsz hvt nk
 go_enter Tryz.func111, Tryz.ntmps111
 go_wp2_with fail
 refine (HD.out _ (ex_)).mono ?_
 rintro e w2 ⟨⟨d, rfl⟩, hb1⟩
 obtain ⟨x3, rfl⟩ := hb1.get
 clear hb1
 by_cases hd : 24 < d
 ·
  go_wp2
  go_ret2
  exact ⟨RKI.mk _ _, ex_⟩
 ·
  go_wp2_with fail
  refine (HC.out _ (ex_)).mono ?_
  rintro e w2 ⟨⟨k, f, rfl⟩, hb1⟩
  obtain ⟨x4, rfl⟩ := hb1.get
  clear hb1
  go_wp2
  go_ret2
  exact ⟨RKI.mk _ _, ex_⟩

end Go.Proofs.YtdiaecgpjgdkdaaGreat

namespace Go.Proofs.YtdiaecgpjgdkdaaGreat
open Go.RowKit

def RF (e : Ending) : Prop := ∃ f : Int, e = .returned (.int .i64 f)
theorem RF.mk (f : Int) : RF (.returned (.int .i64 f)) := ⟨f, rfl⟩
theorem RB.mk (b : Bool) : RB (.returned (.bool b)) := ⟨b, rfl⟩
theorem RI.mk (f : Int) : RI (.returned (.int .i64 f)) := ⟨f, rfl⟩
def stl (l : List ByteArray) : List Value := l.map Value.string
theorem Rd.st {w : World} {A : Option Addr} {l : List ByteArray} {n : Nat} (h : Rd w 1 A n (stl l)) {k : Nat} (hk : k < l.length) : ∃ b o, A = some ⟨b, o, none⟩ ∧ b < w.heap.size ∧ w.cell? ⟨b, o + k, none⟩ = some (.string l[k]) := by
 have hl : l.length = n := by have := h.1; simpa [stl] using this
 obtain ⟨b, o, hA, hb, hc⟩ := h.2 (by omega)
 refine ⟨b, o, hA, hb, hc k _ ?_⟩
 simp [stl, hk]
set_option maxRecDepth 100000 in
set_option maxHeartbeats 4000000 in
theorem in_any (A : Option Addr) (n c : Nat) (l : List ByteArray) (s : ByteArray) (w : World) (hn : l.length = n) (hA : Rd w 1 A n (stl l)) (nl : n ≤ 1048576) :
  Calls Tryz.prog 106 #[.slice A n c, .string s] w fun e w' => RB e ∧ Ext w w' := by
 have HN := Lib.hid hn
 clear hn
 go_enter Tryz.func106, Tryz.ntmps106
 go_wp2
 go_loop [5] (fun i => ∃ k : Nat, k ≤ n ∧ i = .int .i64 k) (fun i => n - (intOf i).toNat)
 case atStart => exact ⟨0, Nat.zero_le _, rfl⟩
 case round =>
  obtain ⟨k, hk, rfl⟩ := hrel
  by_cases hlt : k < n
  ·
   obtain ⟨g, oo, rfl, hg, c0⟩ := hA.st (show k < l.length by have := HN.out; omega)
   generalize l[k]'(by have := HN.out; omega) = v at c0
   rcases h1 : (v.toList == s.toList) with _ | _
   ·
    go_wp2
    go_round
    case rel => exact ⟨k + 1, by omega, by go_num⟩
    case measure => simp [intOf]; omega
   ·
    go_wp2
    go_ret
    exact ⟨RB.mk _, Ext.refl' _⟩
  ·
   go_wp2
   go_ret
   exact ⟨RB.mk _, Ext.refl' _⟩
def wordsL : List ByteArray := [⟨#[97, 100, 100]⟩, ⟨#[97, 102, 116, 101, 114]⟩, ⟨#[97, 108, 108]⟩, ⟨#[97, 108, 116, 101, 114]⟩, ⟨#[97, 110, 100]⟩, ⟨#[97, 115]⟩, ⟨#[98, 101, 102, 111, 114, 101]⟩, ⟨#[98, 101, 103, 105, 110]⟩, ⟨#[98, 101, 116, 119, 101, 101, 110]⟩, ⟨#[98, 111, 111, 108]⟩, ⟨#[98, 121]⟩, ⟨#[99, 104, 101, 99, 107]⟩, ⟨#[99, 111, 97, 108, 101, 115, 99, 101]⟩, ⟨#[99, 111, 109, 109, 105, 116]⟩, ⟨#[99, 111, 110, 116, 97, 105, 110, 115]⟩, ⟨#[99, 111, 117, 110, 116]⟩, ⟨#[99, 114, 101, 97, 116, 101]⟩, ⟨#[100, 101, 102, 97, 117, 108, 116]⟩, ⟨#[100, 101, 108, 101, 116, 101]⟩, ⟨#[100, 101, 115, 99]⟩, ⟨#[100, 105, 115, 116, 105, 110, 99, 116]⟩, ⟨#[100, 114, 111, 112]⟩, ⟨#[100, 117, 114, 105, 110, 103]⟩, ⟨#[101, 113, 117, 97, 108, 115]⟩, ⟨#[101, 120, 99, 101, 112, 116]⟩, ⟨#[102, 97, 108, 115, 101]⟩, ⟨#[102, 105, 110, 105, 115, 104, 101, 100, 98, 121]⟩, ⟨#[102, 105, 110, 105, 115, 104, 101, 115]⟩, ⟨#[102, 111, 114, 101, 105, 103, 110]⟩, ⟨#[102, 111, 114, 101, 118, 101, 114]⟩, ⟨#[102, 114, 111, 109]⟩, ⟨#[103, 114, 111, 117, 112]⟩, ⟨#[104, 111, 108, 100]⟩, ⟨#[105, 102]⟩, ⟨#[105, 110, 115, 101, 114, 116]⟩, ⟨#[105, 110, 116]⟩, ⟨#[105, 110, 116, 101, 114, 115, 101, 99, 116]⟩, ⟨#[105, 110, 116, 111]⟩, ⟨#[105, 115]⟩, ⟨#[106, 111, 105, 110]⟩, ⟨#[107, 101, 121]⟩, ⟨#[108, 101, 102, 116]⟩, ⟨#[108, 101, 110, 103, 116, 104]⟩, ⟨#[108, 105, 109, 105, 116]⟩, ⟨#[109, 97, 120]⟩, ⟨#[109, 101, 101, 116, 115]⟩, ⟨#[109, 101, 116, 98, 121]⟩, ⟨#[109, 105, 110]⟩, ⟨#[110, 111, 110, 115, 101, 113, 117, 101, 110, 99, 101, 100]⟩, ⟨#[110, 111, 116]⟩, ⟨#[110, 111, 119]⟩, ⟨#[110, 117, 108, 108]⟩, ⟨#[111, 102]⟩, ⟨#[111, 110]⟩, ⟨#[111, 114]⟩, ⟨#[111, 114, 100, 101, 114]⟩, ⟨#[111, 118, 101, 114, 108, 97, 112, 112, 101, 100, 98, 121]⟩, ⟨#[111, 118, 101, 114, 108, 97, 112, 115]⟩, ⟨#[112, 114, 105, 109, 97, 114, 121]⟩, ⟨#[112, 114, 117, 110, 101]⟩, ⟨#[114, 101, 102, 101, 114, 101, 110, 99, 101, 115]⟩, ⟨#[114, 101, 108, 101, 97, 115, 101]⟩, ⟨#[114, 101, 110, 97, 109, 101]⟩, ⟨#[114, 101, 116, 97, 105, 110]⟩, ⟨#[114, 111, 108, 108, 98, 97, 99, 107]⟩, ⟨#[115, 101, 108, 101, 99, 116]⟩, ⟨#[115, 101, 113, 117, 101, 110, 99, 101, 100]⟩, ⟨#[115, 101, 116]⟩, ⟨#[115, 116, 97, 114, 116, 101, 100, 98, 121]⟩, ⟨#[115, 116, 97, 114, 116, 115]⟩, ⟨#[115, 117, 109]⟩, ⟨#[115, 121, 115, 116, 101, 109]⟩, ⟨#[115, 121, 115, 116, 101, 109, 102, 114, 111, 109]⟩, ⟨#[115, 121, 115, 116, 101, 109, 116, 111]⟩, ⟨#[116, 97, 98, 108, 101]⟩, ⟨#[116, 101, 120, 116]⟩, ⟨#[116, 111]⟩, ⟨#[116, 114, 117, 101]⟩, ⟨#[116, 120]⟩, ⟨#[117, 110, 100, 101, 114]⟩, ⟨#[117, 110, 105, 111, 110]⟩, ⟨#[117, 112, 100, 97, 116, 101]⟩, ⟨#[118, 97, 108, 105, 100]⟩, ⟨#[118, 97, 108, 105, 100, 102, 114, 111, 109]⟩, ⟨#[118, 97, 108, 105, 100, 116, 111]⟩, ⟨#[118, 97, 108, 117, 101, 115]⟩, ⟨#[119, 104, 101, 114, 101]⟩]
set_option maxRecDepth 100000 in
set_option maxHeartbeats 4000000 in
theorem words_any (w : World) : Calls Tryz.prog 107 #[] w fun e w' => ∃ A, e = .returned (.slice A 87 87) ∧ Rd w' 1 A 87 (stl wordsL) ∧ Ext w w' := by
 go_enter Tryz.func107, Tryz.ntmps107
 go_wp2
 go_ret
 exact ⟨_, rfl, Rd.lit w (stl wordsL).toArray 9 87 1 rfl rfl, ex_⟩

set_option maxRecDepth 100000 in
set_option maxHeartbeats 4000000 in
theorem name_any (s : ByteArray) (w : World) (hs : s.size ≤ 9223372036854775807) :
  Calls Tryz.prog 75 #[.string s] w fun e w' => RB e ∧ Ext w w' := by
 have HW := Lib.hid fun w => words_any w
 have HI := Lib.hid fun A w h => in_any A 87 87 wordsL s w rfl h (by decide)
 by_cases h0 : s.toList = []
 ·
  clear HW HI
  go_enter Tryz.func75, Tryz.ntmps75
  go_wp2
  go_ret
  exact ⟨RB.mk _, ex_⟩
 have hpos : 0 < s.size := by
  rcases Nat.eq_zero_or_pos s.size with h | h
  ·
   exfalso
   apply h0
   rw [Lib.toList_data]
   exact List.eq_nil_of_length_eq_zero (by simpa using h)
  ·
   exact h
 by_cases h24 : 24 < s.size
 ·
  have h24z : 24 < (s.size : Int) := by omega
  clear HW HI
  go_enter Tryz.func75, Tryz.ntmps75
  go_wp2
  go_ret
  exact ⟨RB.mk _, ex_⟩
 have h24z : ¬ 24 < (s.size : Int) := by omega
 have q1 : (s.toList == []) = false := by simpa using h0
 have q2 : s.toList.isEmpty = false := by simpa using h0
 have hgo : Hid (∀ (e : Ending) (W' : World), RB e → Ext w W' → RB e ∧ Ext w W') := Lib.hid fun _ _ a b => ⟨a, b⟩
 have HL : Hid (∀ W, Ext w W → True) := Lib.hid fun _ _ => trivial
 clear h24 HL hgo
 obtain ⟨b, hb⟩ : ∃ b : Nat, (s[0]'hpos).toNat = b := ⟨_, rfl⟩
 rcases (show b < 48 ∨ (48 ≤ b ∧ b ≤ 57) ∨ 57 < b from by omega) with h1 | ⟨h1, h2⟩ | h1
 ·
  go_enter Tryz.func75, Tryz.ntmps75
  go_wp2
  go_loop [3, 4] (fun i v4 => ∃ k : Nat, k ≤ s.size ∧ i = .int .i64 k) (fun i _ => s.size - (intOf i).toNat)
  case atStart => exact ⟨0, Nat.zero_le _, rfl⟩
  case round =>
   clear hb h1
   obtain ⟨k, hk, rfl⟩ := hrel
   by_cases hlt : k < s.size
   ·
    obtain ⟨b, hb⟩ : ∃ b : Nat, (s[k]'hlt).toNat = b := ⟨_, rfl⟩
    rcases (show (b < 48) ∨ (48 ≤ b ∧ b ≤ 57) ∨ (57 < b ∧ b < 95) ∨ (b = 95) ∨ (b = 96) ∨ (97 ≤ b ∧ b ≤ 122) ∨ (122 < b) from by omega) with h1 | ⟨h1, h2⟩ | ⟨h1, h2⟩ | h1 | h1 | ⟨h1, h2⟩ | h1
    ·
     go_wp2
     all_goals (first | (go_ret; exact ⟨RB.mk _, ex_⟩) | (go_round; (case rel => exact ⟨k + 1, by omega, by go_num⟩); (case measure => simp [intOf]; omega)))
    ·
     go_wp2
     all_goals (first | (go_ret; exact ⟨RB.mk _, ex_⟩) | (go_round; (case rel => exact ⟨k + 1, by omega, by go_num⟩); (case measure => simp [intOf]; omega)))
    ·
     go_wp2
     all_goals (first | (go_ret; exact ⟨RB.mk _, ex_⟩) | (go_round; (case rel => exact ⟨k + 1, by omega, by go_num⟩); (case measure => simp [intOf]; omega)))
    ·
     go_wp2
     all_goals (first | (go_ret; exact ⟨RB.mk _, ex_⟩) | (go_round; (case rel => exact ⟨k + 1, by omega, by go_num⟩); (case measure => simp [intOf]; omega)))
    ·
     go_wp2
     all_goals (first | (go_ret; exact ⟨RB.mk _, ex_⟩) | (go_round; (case rel => exact ⟨k + 1, by omega, by go_num⟩); (case measure => simp [intOf]; omega)))
    ·
     go_wp2
     all_goals (first | (go_ret; exact ⟨RB.mk _, ex_⟩) | (go_round; (case rel => exact ⟨k + 1, by omega, by go_num⟩); (case measure => simp [intOf]; omega)))
    ·
     go_wp2
     all_goals (first | (go_ret; exact ⟨RB.mk _, ex_⟩) | (go_round; (case rel => exact ⟨k + 1, by omega, by go_num⟩); (case measure => simp [intOf]; omega)))
   ·
    go_wp2_with fail
    refine (HW.out _).mono ?_
    rintro e w1 ⟨A, rfl, hr, hb1⟩
    obtain ⟨x1, rfl⟩ := hb1.get
    clear hb1
    have HR := Lib.hid hr
    clear hr
    go_wp2_with fail
    refine (HI.out _ _ (HR.out.ext (ex_))).mono ?_
    rintro e w1 ⟨⟨bb, rfl⟩, hb1⟩
    obtain ⟨x2, rfl⟩ := hb1.get
    clear hb1
    go_wp2
    go_ret
    exact ⟨RB.mk _, ex_⟩
 ·
  clear HW HI
  go_enter Tryz.func75, Tryz.ntmps75
  go_wp2
  go_ret
  exact ⟨RB.mk _, ex_⟩
 ·
  go_enter Tryz.func75, Tryz.ntmps75
  go_wp2
  go_loop [3, 4] (fun i v4 => ∃ k : Nat, k ≤ s.size ∧ i = .int .i64 k) (fun i _ => s.size - (intOf i).toNat)
  case atStart => exact ⟨0, Nat.zero_le _, rfl⟩
  case round =>
   clear hb h1
   obtain ⟨k, hk, rfl⟩ := hrel
   by_cases hlt : k < s.size
   ·
    obtain ⟨b, hb⟩ : ∃ b : Nat, (s[k]'hlt).toNat = b := ⟨_, rfl⟩
    rcases (show (b < 48) ∨ (48 ≤ b ∧ b ≤ 57) ∨ (57 < b ∧ b < 95) ∨ (b = 95) ∨ (b = 96) ∨ (97 ≤ b ∧ b ≤ 122) ∨ (122 < b) from by omega) with h1 | ⟨h1, h2⟩ | ⟨h1, h2⟩ | h1 | h1 | ⟨h1, h2⟩ | h1
    ·
     go_wp2
     all_goals (first | (go_ret; exact ⟨RB.mk _, ex_⟩) | (go_round; (case rel => exact ⟨k + 1, by omega, by go_num⟩); (case measure => simp [intOf]; omega)))
    ·
     go_wp2
     all_goals (first | (go_ret; exact ⟨RB.mk _, ex_⟩) | (go_round; (case rel => exact ⟨k + 1, by omega, by go_num⟩); (case measure => simp [intOf]; omega)))
    ·
     go_wp2
     all_goals (first | (go_ret; exact ⟨RB.mk _, ex_⟩) | (go_round; (case rel => exact ⟨k + 1, by omega, by go_num⟩); (case measure => simp [intOf]; omega)))
    ·
     go_wp2
     all_goals (first | (go_ret; exact ⟨RB.mk _, ex_⟩) | (go_round; (case rel => exact ⟨k + 1, by omega, by go_num⟩); (case measure => simp [intOf]; omega)))
    ·
     go_wp2
     all_goals (first | (go_ret; exact ⟨RB.mk _, ex_⟩) | (go_round; (case rel => exact ⟨k + 1, by omega, by go_num⟩); (case measure => simp [intOf]; omega)))
    ·
     go_wp2
     all_goals (first | (go_ret; exact ⟨RB.mk _, ex_⟩) | (go_round; (case rel => exact ⟨k + 1, by omega, by go_num⟩); (case measure => simp [intOf]; omega)))
    ·
     go_wp2
     all_goals (first | (go_ret; exact ⟨RB.mk _, ex_⟩) | (go_round; (case rel => exact ⟨k + 1, by omega, by go_num⟩); (case measure => simp [intOf]; omega)))
   ·
    go_wp2_with fail
    refine (HW.out _).mono ?_
    rintro e w1 ⟨A, rfl, hr, hb1⟩
    obtain ⟨x1, rfl⟩ := hb1.get
    clear hb1
    have HR := Lib.hid hr
    clear hr
    go_wp2_with fail
    refine (HI.out _ _ (HR.out.ext (ex_))).mono ?_
    rintro e w1 ⟨⟨bb, rfl⟩, hb1⟩
    obtain ⟨x2, rfl⟩ := hb1.get
    clear hb1
    go_wp2
    go_ret
    exact ⟨RB.mk _, ex_⟩

end Go.Proofs.YtdiaecgpjgdkdaaGreat
