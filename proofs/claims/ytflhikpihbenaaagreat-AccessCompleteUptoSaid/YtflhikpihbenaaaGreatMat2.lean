/- access.Matches and the reference Matches. -/
import Derived.Test.YtflhikpihbenaaaGreatMat
set_option linter.unusedSimpArgs false
set_option linter.unusedVariables false
namespace Go.Proofs.YtflhikpihbenaaaGreat
open Go.RowKit


@[go_sem] theorem meth_scan_272 (v : Value) (w : World) : (method 272 91 v "bitemporal/access.has").run Tryz.prog w = .ok (118, v) w := by kernel_rfl


@[go_sem] theorem meth_scan_284 (v : Value) (w : World) : (method 284 91 v "bitemporal/access.has").run Tryz.prog w = .ok (118, v) w := by kernel_rfl


@[go_sem] theorem meth_keyed_272 (v : Value) (w : World) : (method 272 80 v "bitemporal/access.has").run Tryz.prog w = .ok (103, v) w := by kernel_rfl


@[go_sem] theorem meth_keyed_284 (v : Value) (w : World) : (method 284 80 v "bitemporal/access.has").run Tryz.prog w = .ok (103, v) w := by kernel_rfl


@[go_sem] theorem meth_valid_272 (v : Value) (w : World) : (method 272 75 v "bitemporal/access.has").run Tryz.prog w = .ok (98, v) w := by kernel_rfl


@[go_sem] theorem meth_valid_284 (v : Value) (w : World) : (method 284 75 v "bitemporal/access.has").run Tryz.prog w = .ok (98, v) w := by kernel_rfl


@[go_sem] theorem meth_rect_272 (v : Value) (w : World) : (method 272 78 v "bitemporal/access.has").run Tryz.prog w = .ok (101, v) w := by kernel_rfl


@[go_sem] theorem meth_rect_284 (v : Value) (w : World) : (method 284 78 v "bitemporal/access.has").run Tryz.prog w = .ok (101, v) w := by kernel_rfl


def matB (k : Int) (key pk : List Va) (vv vs p q : Int × Int) : Bool := if k = 0 then true else if k = 1 then keyB key pk else if k = 2 then povB vv p else if k = 3 then povB vv p && povB vs q else false
set_option maxRecDepth 100000 in
set_option maxHeartbeats 4000000 in
theorem amatches_any (s0 : ByteArray) (a1 a3 a4 K : Option Addr) (n1 m1 n3 m3 n4 m4 kc : Nat) (ks : List Int) (id sch : Int) (RA : Option Addr) (rc : Nat) (row : List Va) (vv vs : Int × Int) (by_ un : Int) (k : Int) (PK : Option Addr) (pc : Nat) (key : List Va) (p q : Int × Int) (w : World) (hR : Rd w 3 RA row.length (vcl row)) (hK : Rd w 1 K ks.length (ic ks)) (hP : Rd w 3 PK key.length (vcl key)) (nr : row.length ≤ 9223372036854775807) (nk : ks.length ≤ 1048576) (np : key.length ≤ 9223372036854775807) :
    Calls Tryz.prog 10 #[.agg #[.string s0, .slice a1 n1 m1, .slice K ks.length kc, .slice a3 n3 m3, .slice a4 n4 m4], .agg #[.int .i64 k, .slice PK key.length pc, .int .i64 p.1, .int .i64 p.2, .int .i64 q.1, .int .i64 q.2], .agg #[.int .i64 id, .int .i64 sch, .slice RA row.length rc, .int .i64 vv.1, .int .i64 vv.2, .int .i64 vs.1, .int .i64 vs.2, .int .i64 by_, .int .i64 un]] w fun e w' => e = .returned (.bool (matB k key (ks.map (atV row)) vv vs p q)) ∧ Ext w w' := by
  rcases (show k = 0 ∨ k = 1 ∨ k = 2 ∨ k = 3 ∨ (k ≠ 0 ∧ k ≠ 1 ∧ k ≠ 2 ∧ k ≠ 3) from by omega) with rfl | rfl | rfl | rfl | ⟨h0, h1, h2, h3⟩
  · have HM : Hid (matB 0 key (ks.map (atV row)) vv vs p q = true) := Lib.hid (by simp [matB])
    generalize matB 0 key (ks.map (atV row)) vv vs p q = b at HM ⊢
    have HO := Lib.hid (fun w => of_any 0 PK key.length pc p.1 p.2 q.1 q.2 w)
    rw [show ofV 0 PK key.length pc p.1 p.2 q.1 q.2 = .iface 91 (.agg #[]) from by simp [ofV]] at HO
    go_enter Tryz.func10, Tryz.ntmps10
    go_wp2_with (first | (go_at_call 21; refine (HO.out _).mono ?_; rintro e w1 ⟨rfl, hb1⟩; obtain ⟨xo, rfl⟩ := hb1.get; clear hb1) | (go_at_call 118; refine (has_scan s0 a1 a3 a4 K n1 m1 n3 m3 n4 m4 kc ks id sch RA rc row vv vs by_ un _).mono ?_; rintro e w1 ⟨rfl, hb1⟩; obtain ⟨xm, rfl⟩ := hb1.get; clear hb1))
    go_ret
    exact ⟨by rw [HM.out]; rfl, by repeat (first | exact Ext.refl' _ | assumption | apply Ext.ex' | apply Ext.al | apply Ext.drN | apply Ext.dr)⟩
  · have HM : Hid (matB 1 key (ks.map (atV row)) vv vs p q = keyB key (ks.map (atV row))) := Lib.hid (by simp [matB])
    have HH := Lib.hid (fun w h1 h2 h3 => has_keyed s0 a1 a3 a4 K n1 m1 n3 m3 n4 m4 kc ks id sch RA rc row vv vs by_ un PK pc key w h1 h2 h3 nr nk np)
    generalize matB 1 key (ks.map (atV row)) vv vs p q = b at HM ⊢
    generalize keyB key (ks.map (atV row)) = b2 at HM HH
    have HO := Lib.hid (fun w => of_any 1 PK key.length pc p.1 p.2 q.1 q.2 w)
    rw [show ofV 1 PK key.length pc p.1 p.2 q.1 q.2 = .iface 80 (.agg #[.slice PK key.length pc]) from by simp [ofV]] at HO
    go_enter Tryz.func10, Tryz.ntmps10
    go_wp2_with (first | (go_at_call 21; refine (HO.out _).mono ?_; rintro e w1 ⟨rfl, hb1⟩; obtain ⟨xo, rfl⟩ := hb1.get; clear hb1) | (go_at_call 103; refine (HH.out _ (hR.ext (by repeat (first | exact Ext.refl' _ | assumption | apply Ext.ex' | apply Ext.al | apply Ext.drN | apply Ext.dr))) (hK.ext (by repeat (first | exact Ext.refl' _ | assumption | apply Ext.ex' | apply Ext.al | apply Ext.drN | apply Ext.dr))) (hP.ext (by repeat (first | exact Ext.refl' _ | assumption | apply Ext.ex' | apply Ext.al | apply Ext.drN | apply Ext.dr)))).mono ?_; rintro e w1 ⟨rfl, hb1⟩; obtain ⟨xm, rfl⟩ := hb1.get; clear hb1))
    go_ret
    exact ⟨by rw [HM.out]; rfl, by repeat (first | exact Ext.refl' _ | assumption | apply Ext.ex' | apply Ext.al | apply Ext.drN | apply Ext.dr)⟩
  · have HM : Hid (matB 2 key (ks.map (atV row)) vv vs p q = povB vv p) := Lib.hid (by simp [matB])
    have HH := Lib.hid (fun w => has_valid s0 a1 a3 a4 K n1 m1 n3 m3 n4 m4 kc ks id sch RA rc row vv vs by_ un p w)
    generalize matB 2 key (ks.map (atV row)) vv vs p q = b at HM ⊢
    generalize povB vv p = b2 at HM HH
    have HO := Lib.hid (fun w => of_any 2 PK key.length pc p.1 p.2 q.1 q.2 w)
    rw [show ofV 2 PK key.length pc p.1 p.2 q.1 q.2 = .iface 75 (.agg #[.int .i64 p.1, .int .i64 p.2]) from by simp [ofV]] at HO
    go_enter Tryz.func10, Tryz.ntmps10
    go_wp2_with (first | (go_at_call 21; refine (HO.out _).mono ?_; rintro e w1 ⟨rfl, hb1⟩; obtain ⟨xo, rfl⟩ := hb1.get; clear hb1) | (go_at_call 98; refine (HH.out _).mono ?_; rintro e w1 ⟨rfl, hb1⟩; obtain ⟨xm, rfl⟩ := hb1.get; clear hb1))
    go_ret
    exact ⟨by rw [HM.out]; rfl, by repeat (first | exact Ext.refl' _ | assumption | apply Ext.ex' | apply Ext.al | apply Ext.drN | apply Ext.dr)⟩
  · have HM : Hid (matB 3 key (ks.map (atV row)) vv vs p q = (povB vv p && povB vs q)) := Lib.hid (by simp [matB])
    have HH := Lib.hid (fun w => has_rect s0 a1 a3 a4 K n1 m1 n3 m3 n4 m4 kc ks id sch RA rc row vv vs by_ un p q w)
    generalize matB 3 key (ks.map (atV row)) vv vs p q = b at HM ⊢
    generalize (povB vv p && povB vs q) = b2 at HM HH
    have HO := Lib.hid (fun w => of_any 3 PK key.length pc p.1 p.2 q.1 q.2 w)
    rw [show ofV 3 PK key.length pc p.1 p.2 q.1 q.2 = .iface 78 (.agg #[.int .i64 p.1, .int .i64 p.2, .int .i64 q.1, .int .i64 q.2]) from by simp [ofV]] at HO
    go_enter Tryz.func10, Tryz.ntmps10
    go_wp2_with (first | (go_at_call 21; refine (HO.out _).mono ?_; rintro e w1 ⟨rfl, hb1⟩; obtain ⟨xo, rfl⟩ := hb1.get; clear hb1) | (go_at_call 101; refine (HH.out _).mono ?_; rintro e w1 ⟨rfl, hb1⟩; obtain ⟨xm, rfl⟩ := hb1.get; clear hb1))
    go_ret
    exact ⟨by rw [HM.out]; rfl, by repeat (first | exact Ext.refl' _ | assumption | apply Ext.ex' | apply Ext.al | apply Ext.drN | apply Ext.dr)⟩
  · have HM : Hid (matB k key (ks.map (atV row)) vv vs p q = false) := Lib.hid (by simp [matB, h0, h1, h2, h3])
    generalize matB k key (ks.map (atV row)) vv vs p q = b at HM ⊢
    have HO := Lib.hid (fun w => of_any k PK key.length pc p.1 p.2 q.1 q.2 w)
    rw [show ofV k PK key.length pc p.1 p.2 q.1 q.2 = .nilIface from by simp [ofV, h0, h1, h2, h3]] at HO
    go_enter Tryz.func10, Tryz.ntmps10
    go_wp2_with (go_at_call 21; refine (HO.out _).mono ?_; rintro e w1 ⟨rfl, hb1⟩; obtain ⟨xo, rfl⟩ := hb1.get; clear hb1)
    go_ret
    exact ⟨by rw [HM.out]; rfl, by repeat (first | exact Ext.refl' _ | assumption | apply Ext.ex' | apply Ext.al | apply Ext.drN | apply Ext.dr)⟩


end Go.Proofs.YtflhikpihbenaaaGreat
