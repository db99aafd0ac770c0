/- access.Matches and the reference Matches. -/
import Derived.Test.YtgacmpoonmioeaaMat
set_option linter.unusedSimpArgs false
set_option linter.unusedVariables false
namespace Go.Proofs.Ytgacmpoonmioeaa
open Go.RowKit


@[go_sem] theorem meth_scan (v : Value) (w : World) : (method 272 90 v "bitemporal/access.has").run Try.prog w = .ok (103, v) w := by kernel_rfl


@[go_sem] theorem meth_keyed (v : Value) (w : World) : (method 272 80 v "bitemporal/access.has").run Try.prog w = .ok (88, v) w := by kernel_rfl


@[go_sem] theorem meth_valid (v : Value) (w : World) : (method 272 75 v "bitemporal/access.has").run Try.prog w = .ok (83, v) w := by kernel_rfl


@[go_sem] theorem meth_rect (v : Value) (w : World) : (method 272 78 v "bitemporal/access.has").run Try.prog w = .ok (86, v) w := by kernel_rfl


def matB (k : Int) (key pk : List Va) (vv vs p q : Int × Int) : Bool := if k = 0 then true else if k = 1 then keyB key pk else if k = 2 then povB vv p else if k = 3 then povB vv p && povB vs q else false
set_option maxRecDepth 100000 in
set_option maxHeartbeats 4000000 in
theorem amatches_any (s0 : ByteArray) (a1 a3 a4 K : Option Addr) (n1 m1 n3 m3 n4 m4 kc : Nat) (ks : List Int) (id sch : Int) (RA : Option Addr) (rc : Nat) (row : List Va) (vv vs : Int × Int) (by_ un : Int) (k : Int) (PK : Option Addr) (pc : Nat) (key : List Va) (p q : Int × Int) (w : World) (hR : Rd w 3 RA row.length (vcl row)) (hK : Rd w 1 K ks.length (ic ks)) (hP : Rd w 3 PK key.length (vcl key)) (nr : row.length ≤ 9223372036854775807) (nk : ks.length ≤ 1048576) (np : key.length ≤ 9223372036854775807) :
    Calls Try.prog 10 #[.agg #[.string s0, .slice a1 n1 m1, .slice K ks.length kc, .slice a3 n3 m3, .slice a4 n4 m4], .agg #[.int .i64 k, .slice PK key.length pc, .int .i64 p.1, .int .i64 p.2, .int .i64 q.1, .int .i64 q.2], .agg #[.int .i64 id, .int .i64 sch, .slice RA row.length rc, .int .i64 vv.1, .int .i64 vv.2, .int .i64 vs.1, .int .i64 vs.2, .int .i64 by_, .int .i64 un]] w fun e w' => e = .returned (.bool (matB k key (ks.map (atV row)) vv vs p q)) ∧ Ext w w' := by
  rcases (show k = 0 ∨ k = 1 ∨ k = 2 ∨ k = 3 ∨ (k ≠ 0 ∧ k ≠ 1 ∧ k ≠ 2 ∧ k ≠ 3) from by omega) with rfl | rfl | rfl | rfl | ⟨h0, h1, h2, h3⟩
  · have HM : Hid (matB 0 key (ks.map (atV row)) vv vs p q = true) := Lib.hid (by simp [matB])
    generalize matB 0 key (ks.map (atV row)) vv vs p q = b at HM ⊢
    have HO := Lib.hid (fun w => of_any 0 PK key.length pc p.1 p.2 q.1 q.2 w)
    rw [show ofV 0 PK key.length pc p.1 p.2 q.1 q.2 = .iface 90 (.agg #[]) from by simp [ofV]] at HO
    go_enter Try.func10, Try.ntmps10
    go_wp2_with (first | (go_at_call 25; refine (HO.out _).mono ?_; rintro e w1 ⟨rfl, hb1⟩; obtain ⟨xo, rfl⟩ := hb1.get; clear hb1) | (go_at_call 103; refine (has_scan s0 a1 a3 a4 K n1 m1 n3 m3 n4 m4 kc ks id sch RA rc row vv vs by_ un _).mono ?_; rintro e w1 ⟨rfl, hb1⟩; obtain ⟨xm, rfl⟩ := hb1.get; clear hb1))
    go_ret
    exact ⟨by rw [HM.out]; rfl, by repeat (first | exact Ext.refl' _ | assumption | apply Ext.ex' | apply Ext.al | apply Ext.drN | apply Ext.dr)⟩
  · have HM : Hid (matB 1 key (ks.map (atV row)) vv vs p q = keyB key (ks.map (atV row))) := Lib.hid (by simp [matB])
    have HH := Lib.hid (fun w h1 h2 h3 => has_keyed s0 a1 a3 a4 K n1 m1 n3 m3 n4 m4 kc ks id sch RA rc row vv vs by_ un PK pc key w h1 h2 h3 nr nk np)
    generalize matB 1 key (ks.map (atV row)) vv vs p q = b at HM ⊢
    generalize keyB key (ks.map (atV row)) = b2 at HM HH
    have HO := Lib.hid (fun w => of_any 1 PK key.length pc p.1 p.2 q.1 q.2 w)
    rw [show ofV 1 PK key.length pc p.1 p.2 q.1 q.2 = .iface 80 (.agg #[.slice PK key.length pc]) from by simp [ofV]] at HO
    go_enter Try.func10, Try.ntmps10
    go_wp2_with (first | (go_at_call 25; refine (HO.out _).mono ?_; rintro e w1 ⟨rfl, hb1⟩; obtain ⟨xo, rfl⟩ := hb1.get; clear hb1) | (go_at_call 88; refine (HH.out _ (hR.ext (by repeat (first | exact Ext.refl' _ | assumption | apply Ext.ex' | apply Ext.al | apply Ext.drN | apply Ext.dr))) (hK.ext (by repeat (first | exact Ext.refl' _ | assumption | apply Ext.ex' | apply Ext.al | apply Ext.drN | apply Ext.dr))) (hP.ext (by repeat (first | exact Ext.refl' _ | assumption | apply Ext.ex' | apply Ext.al | apply Ext.drN | apply Ext.dr)))).mono ?_; rintro e w1 ⟨rfl, hb1⟩; obtain ⟨xm, rfl⟩ := hb1.get; clear hb1))
    go_ret
    exact ⟨by rw [HM.out]; rfl, by repeat (first | exact Ext.refl' _ | assumption | apply Ext.ex' | apply Ext.al | apply Ext.drN | apply Ext.dr)⟩
  · have HM : Hid (matB 2 key (ks.map (atV row)) vv vs p q = povB vv p) := Lib.hid (by simp [matB])
    have HH := Lib.hid (fun w => has_valid s0 a1 a3 a4 K n1 m1 n3 m3 n4 m4 kc ks id sch RA rc row vv vs by_ un p w)
    generalize matB 2 key (ks.map (atV row)) vv vs p q = b at HM ⊢
    generalize povB vv p = b2 at HM HH
    have HO := Lib.hid (fun w => of_any 2 PK key.length pc p.1 p.2 q.1 q.2 w)
    rw [show ofV 2 PK key.length pc p.1 p.2 q.1 q.2 = .iface 75 (.agg #[.int .i64 p.1, .int .i64 p.2]) from by simp [ofV]] at HO
    go_enter Try.func10, Try.ntmps10
    go_wp2_with (first | (go_at_call 25; refine (HO.out _).mono ?_; rintro e w1 ⟨rfl, hb1⟩; obtain ⟨xo, rfl⟩ := hb1.get; clear hb1) | (go_at_call 83; refine (HH.out _).mono ?_; rintro e w1 ⟨rfl, hb1⟩; obtain ⟨xm, rfl⟩ := hb1.get; clear hb1))
    go_ret
    exact ⟨by rw [HM.out]; rfl, by repeat (first | exact Ext.refl' _ | assumption | apply Ext.ex' | apply Ext.al | apply Ext.drN | apply Ext.dr)⟩
  · have HM : Hid (matB 3 key (ks.map (atV row)) vv vs p q = (povB vv p && povB vs q)) := Lib.hid (by simp [matB])
    have HH := Lib.hid (fun w => has_rect s0 a1 a3 a4 K n1 m1 n3 m3 n4 m4 kc ks id sch RA rc row vv vs by_ un p q w)
    generalize matB 3 key (ks.map (atV row)) vv vs p q = b at HM ⊢
    generalize (povB vv p && povB vs q) = b2 at HM HH
    have HO := Lib.hid (fun w => of_any 3 PK key.length pc p.1 p.2 q.1 q.2 w)
    rw [show ofV 3 PK key.length pc p.1 p.2 q.1 q.2 = .iface 78 (.agg #[.int .i64 p.1, .int .i64 p.2, .int .i64 q.1, .int .i64 q.2]) from by simp [ofV]] at HO
    go_enter Try.func10, Try.ntmps10
    go_wp2_with (first | (go_at_call 25; refine (HO.out _).mono ?_; rintro e w1 ⟨rfl, hb1⟩; obtain ⟨xo, rfl⟩ := hb1.get; clear hb1) | (go_at_call 86; refine (HH.out _).mono ?_; rintro e w1 ⟨rfl, hb1⟩; obtain ⟨xm, rfl⟩ := hb1.get; clear hb1))
    go_ret
    exact ⟨by rw [HM.out]; rfl, by repeat (first | exact Ext.refl' _ | assumption | apply Ext.ex' | apply Ext.al | apply Ext.drN | apply Ext.dr)⟩
  · have HM : Hid (matB k key (ks.map (atV row)) vv vs p q = false) := Lib.hid (by simp [matB, h0, h1, h2, h3])
    generalize matB k key (ks.map (atV row)) vv vs p q = b at HM ⊢
    have HO := Lib.hid (fun w => of_any k PK key.length pc p.1 p.2 q.1 q.2 w)
    rw [show ofV k PK key.length pc p.1 p.2 q.1 q.2 = .nilIface from by simp [ofV, h0, h1, h2, h3]] at HO
    go_enter Try.func10, Try.ntmps10
    go_wp2_with (go_at_call 25; refine (HO.out _).mono ?_; rintro e w1 ⟨rfl, hb1⟩; obtain ⟨xo, rfl⟩ := hb1.get; clear hb1)
    go_ret
    exact ⟨by rw [HM.out]; rfl, by repeat (first | exact Ext.refl' _ | assumption | apply Ext.ex' | apply Ext.al | apply Ext.drN | apply Ext.dr)⟩


set_option maxHeartbeats 2000000 in
theorem starts_any (A PK : Option Addr) (c pc : Nat) (pk key : List Va) (w : World) (hA : Rd w 3 A pk.length (vcl pk)) (hP : Rd w 3 PK key.length (vcl key)) (hq : pk.length ≤ c) (na : pk.length ≤ 9223372036854775807) (np : key.length ≤ 9223372036854775807) :
    Calls Try.prog 26 #[.slice A pk.length c, .slice PK key.length pc] w fun e w' => e = .returned (.bool (keyB key pk)) ∧ Ext w w' := by
  by_cases hle : key.length ≤ pk.length
  · have HB : Hid (keyB key pk = (cmpR (pk.take key.length) key == 0)) := Lib.hid (by unfold keyB; rw [decide_eq_true hle]; rfl)
    generalize keyB key pk = b at HB ⊢
    have hTk := Rd.takeV hA hle
    have htl : (pk.take key.length).length = key.length := by simp; omega
    rw [htl] at hTk
    have HCM := Lib.hid ((show (pk.take key.length).length = key.length from htl) ▸ requal_any A PK c pc (pk.take key.length) key w (by rw [htl]; exact hTk) hP (by omega) np)
    generalize cmpR (pk.take key.length) key = z at HB HCM
    go_enter Try.func26, Try.ntmps26
    go_wp2_with fail
    refine Calls.mono HCM.out ?_
    rintro e w1 ⟨rfl, hb1⟩
    go_wp2
    go_ret
    exact ⟨by rw [HB.out]; rfl, hb1⟩
  · have HB : Hid (keyB key pk = false) := Lib.hid (by unfold keyB; rw [decide_eq_false hle]; rfl)
    generalize keyB key pk = b at HB ⊢
    go_enter Try.func26, Try.ntmps26
    go_wp2
    go_ret
    exact ⟨by rw [HB.out]; rfl, by repeat (first | exact Ext.refl' _ | assumption | apply Ext.ex' | apply Ext.al | apply Ext.drN | apply Ext.dr)⟩


set_option maxRecDepth 100000 in
set_option maxHeartbeats 4000000 in
theorem rmatches_any (s0 : ByteArray) (a1 a3 a4 K : Option Addr) (n1 m1 n3 m3 n4 m4 kc : Nat) (ks : List Int) (id sch : Int) (RA : Option Addr) (rc : Nat) (row : List Va) (vv vs : Int × Int) (by_ un : Int) (k : Int) (PK : Option Addr) (pc : Nat) (key : List Va) (p q : Int × Int) (w : World) (hR : Rd w 3 RA row.length (vcl row)) (hK : Rd w 1 K ks.length (ic ks)) (hP : Rd w 3 PK key.length (vcl key)) (nr : row.length ≤ 9223372036854775807) (nk : ks.length ≤ 1048576) (np : key.length ≤ 9223372036854775807) :
    Calls Try.prog 11 #[.agg #[.string s0, .slice a1 n1 m1, .slice K ks.length kc, .slice a3 n3 m3, .slice a4 n4 m4], .agg #[.int .i64 k, .slice PK key.length pc, .int .i64 p.1, .int .i64 p.2, .int .i64 q.1, .int .i64 q.2], .agg #[.int .i64 id, .int .i64 sch, .slice RA row.length rc, .int .i64 vv.1, .int .i64 vv.2, .int .i64 vs.1, .int .i64 vs.2, .int .i64 by_, .int .i64 un]] w fun e w' => e = .returned (.bool (matB k key (ks.map (atV row)) vv vs p q)) ∧ Ext w w' := by
  rcases (show k = 0 ∨ k = 1 ∨ k = 2 ∨ k = 3 ∨ (k ≠ 0 ∧ k ≠ 1 ∧ k ≠ 2 ∧ k ≠ 3) from by omega) with rfl | rfl | rfl | rfl | ⟨h0, h1, h2, h3⟩
  · have HM : Hid (matB 0 key (ks.map (atV row)) vv vs p q = true) := Lib.hid (by simp [matB])
    generalize matB 0 key (ks.map (atV row)) vv vs p q = b at HM ⊢
    go_enter Try.func11, Try.ntmps11
    go_wp2
    go_ret
    exact ⟨by rw [HM.out]; rfl, by repeat (first | exact Ext.refl' _ | assumption | apply Ext.ex' | apply Ext.al | apply Ext.drN | apply Ext.dr)⟩
  · have HM : Hid (matB 1 key (ks.map (atV row)) vv vs p q = keyB key (ks.map (atV row))) := Lib.hid (by simp [matB])
    have HT := Lib.hid (fun w h1 h2 => rkey_any s0 a1 a3 a4 K n1 m1 n3 m3 n4 m4 kc ks RA rc row w h1 h2 nr nk)
    have hpk : (ks.map (atV row)).length = ks.length := by simp
    generalize matB 1 key (ks.map (atV row)) vv vs p q = b at HM ⊢
    generalize ks.map (atV row) = pk at HT hpk HM
    have HS := Lib.hid (fun B qq w h1 h2 h3 => hpk ▸ starts_any B PK qq pc pk key w (by rw [hpk]; exact h1) h2 (by rw [hpk]; exact h3) (by omega) np)
    generalize keyB key pk = b2 at HM HS
    go_enter Try.func11, Try.ntmps11
    go_wp2_with fail
    refine wp_region_held_drew (S := (fun w' => w'.cell? ⟨w.heap.size, 0, none⟩ = some (.string s0) ∧ w'.cell? ⟨w.heap.size, 1, none⟩ = some (.slice a1 n1 m1) ∧ w'.cell? ⟨w.heap.size, 2, none⟩ = some (.slice K ks.length kc) ∧ w'.cell? ⟨w.heap.size, 3, none⟩ = some (.slice a3 n3 m3) ∧ w'.cell? ⟨w.heap.size, 4, none⟩ = some (.slice a4 n4 m4) ∧ w'.cell? ⟨w.heap.size + 1, 1, none⟩ = some (.slice PK key.length pc) ∧ w'.cell? ⟨w.heap.size + 1 + 1, 2, none⟩ = some (.slice RA row.length rc))) (by kernel_rfl) (by simp [go_sem, ↓IntWalk.iteOmega, *]) (fun hHeld => ?_)
    refine wpAnyH_take (i := 0) (oi := ?oi1) (v := ?v1) ?hi1 (by kernel_rfl) (by kernel_rfl) (by kernel_rfl) ?hQ1 ?hy1 (by assumption) ?_
    case hi1 => (simp only [List.getElem?_toArray, List.getElem?_cons_succ, List.getElem?_cons_zero]; rfl)
    case hQ1 => exact fun _ _ _ h => h
    case hy1 => (refine Or.inl ⟨by rfl, ?_⟩; intro wq hSw; (try dsimp only at hSw); go_simp; (try with_reducible rfl))
    (try simp only [Act.put, List.setIfInBounds_toArray, List.set_cons_zero, List.set_cons_succ])
    refine wpAnyH_take (i := 1) (oi := ?oi2) (v := ?v2) ?hi2 (by kernel_rfl) (by kernel_rfl) (by kernel_rfl) ?hQ2 ?hy2 (by assumption) ?_
    case hi2 => (simp only [List.getElem?_toArray, List.getElem?_cons_succ, List.getElem?_cons_zero]; rfl)
    case hQ2 => exact fun _ _ _ h => h
    case hy2 => (refine Or.inl ⟨by rfl, ?_⟩; intro wq hSw; (try dsimp only at hSw); go_simp; (try with_reducible rfl))
    (try simp only [Act.put, List.setIfInBounds_toArray, List.set_cons_zero, List.set_cons_succ])
    refine wpAnyH_take (i := 2) (oi := ?oi3) (v := ?v3) ?hi3 (by kernel_rfl) (by kernel_rfl) (by kernel_rfl) ?hQ3 ?hy3 (by assumption) ?_
    case hi3 => (simp only [List.getElem?_toArray, List.getElem?_cons_succ, List.getElem?_cons_zero]; rfl)
    case hQ3 => exact fun _ _ _ h => h
    case hy3 => (refine Or.inl ⟨by rfl, ?_⟩; intro wq hSw; (try dsimp only at hSw); go_simp; (try with_reducible rfl))
    (try simp only [Act.put, List.setIfInBounds_toArray, List.set_cons_zero, List.set_cons_succ])
    refine wpAnyH_take (i := 4) (oi := ?oi4) (v := ?v4) ?hi4 (by kernel_rfl) (by kernel_rfl) (by kernel_rfl) ?hQ4 ?hy4 (by assumption) ?_
    case hi4 => (simp only [List.getElem?_toArray, List.getElem?_cons_succ, List.getElem?_cons_zero]; rfl)
    case hQ4 => exact fun _ _ _ h => h
    case hy4 => (refine Or.inl ⟨by rfl, ?_⟩; intro wq hSw; (try dsimp only at hSw); go_simp; (try with_reducible rfl))
    (try simp only [Act.put, List.setIfInBounds_toArray, List.set_cons_zero, List.set_cons_succ])
    refine wpAnyH_take (i := 5) (oi := ?oi5) (v := ?v5) ?hi5 (by kernel_rfl) (by kernel_rfl) (by kernel_rfl) ?hQ5 ?hy5 (by assumption) ?_
    case hi5 => (simp only [List.getElem?_toArray, List.getElem?_cons_succ, List.getElem?_cons_zero]; rfl)
    case hQ5 => exact fun _ _ _ h => h
    case hy5 => (refine Or.inl ⟨by rfl, ?_⟩; intro wq hSw; (try dsimp only at hSw); go_simp; (try with_reducible rfl))
    (try simp only [Act.put, List.setIfInBounds_toArray, List.set_cons_zero, List.set_cons_succ])
    refine wpAnyH_ready (rs := [3]) (by kernel_rfl) (by simp) ?_
    refine AllReadyH.cons (o := ?oi6) ?hi6 ?ti6 AllReadyH.nil
    case hi6 => (simp only [List.getElem?_toArray, List.getElem?_cons_succ, List.getElem?_cons_zero]; rfl)
    case ti6 =>
      intro KQ hKQ
      go_simp
      go_at_call 27
      refine Calls.mono (HT.out _ (hR.ext (by repeat (first | exact Ext.refl' _ | assumption | apply Ext.ex' | apply Ext.al | apply Ext.drN | apply Ext.dr))) (hK.ext (by repeat (first | exact Ext.refl' _ | assumption | apply Ext.ex' | apply Ext.al | apply Ext.drN | apply Ext.dr)))) ?_
      rintro e w1 ⟨B, qq, rfl, hb1, hq, hRk⟩
      obtain ⟨x1, rfl⟩ := hb1.get
      clear hb1
      refine hKQ.out _ _ (by simp [go_sem, ↓IntWalk.iteOmega, *]) (fun hHeld2 => ?_)
      clear hHeld hKQ KQ; have hHeld := hHeld2; clear hHeld2
      (try simp only [Act.put, List.setIfInBounds_toArray, List.set_cons_zero, List.set_cons_succ])
      refine wpAnyH_ready (rs := [6]) (by kernel_rfl) (by simp) ?_
      refine AllReadyH.cons (o := ?oi7) ?hi7 ?ti7 AllReadyH.nil
      case hi7 => (simp only [List.getElem?_toArray, List.getElem?_cons_succ, List.getElem?_cons_zero]; rfl)
      case ti7 =>
        intro KQ hKQ
        go_simp
        go_at_call 26
        refine Calls.mono (HS.out B qq _ (hRk.ext (by repeat (first | exact Ext.refl' _ | assumption | apply Ext.ex' | apply Ext.al | apply Ext.drN | apply Ext.dr))) (hP.ext (by repeat (first | exact Ext.refl' _ | assumption | apply Ext.ex' | apply Ext.al | apply Ext.drN | apply Ext.dr))) hq) ?_
        rintro e w1 ⟨rfl, hb1⟩
        obtain ⟨x2, rfl⟩ := hb1.get
        clear hb1
        refine hKQ.out _ _ (by simp [go_sem, ↓IntWalk.iteOmega, *]) (fun hHeld2 => ?_)
        clear hHeld hKQ KQ; have hHeld := hHeld2; clear hHeld2
        (try simp only [Act.put, List.setIfInBounds_toArray, List.set_cons_zero, List.set_cons_succ])
        refine wpAnyH_take (i := 7) (oi := ?oi8) (v := ?v8) ?hi8 (by kernel_rfl) (by kernel_rfl) (by kernel_rfl) ?hQ8 ?hy8 (by assumption) ?_
        case hi8 => (simp only [List.getElem?_toArray, List.getElem?_cons_succ, List.getElem?_cons_zero]; rfl)
        case hQ8 => exact fun _ _ _ h => h
        case hy8 => (refine Or.inl ⟨by rfl, ?_⟩; intro wq hSw; (try dsimp only at hSw); go_simp; (try with_reducible rfl))
        (try simp only [Act.put, List.setIfInBounds_toArray, List.set_cons_zero, List.set_cons_succ])
        refine wpAnyH_done (by kernel_rfl) ?_ _
        go_wp2
        go_ret
        exact ⟨by rw [HM.out]; rfl, by repeat (first | exact Ext.refl' _ | assumption | apply Ext.ex' | apply Ext.al | apply Ext.drN | apply Ext.dr)⟩
  · have HM : Hid (matB 2 key (ks.map (atV row)) vv vs p q = povB vv p) := Lib.hid (by simp [matB])
    have H1 := Lib.hid (fun w => rov_any vv p w)
    generalize matB 2 key (ks.map (atV row)) vv vs p q = b at HM ⊢
    generalize povB vv p = b2 at HM H1
    go_enter Try.func11, Try.ntmps11
    go_wp2_with (go_at_call 28; refine (H1.out _).mono ?_; rintro e w1 ⟨rfl, hb1⟩; obtain ⟨x1, rfl⟩ := hb1.get; clear hb1)
    go_ret
    exact ⟨by rw [HM.out]; rfl, by repeat (first | exact Ext.refl' _ | assumption | apply Ext.ex' | apply Ext.al | apply Ext.drN | apply Ext.dr)⟩
  · have HM : Hid (matB 3 key (ks.map (atV row)) vv vs p q = (povB vv p && povB vs q)) := Lib.hid (by simp [matB])
    have H1 := Lib.hid (fun w => rov_any vv p w)
    have H2 := Lib.hid (fun w => rov_any vs q w)
    generalize matB 3 key (ks.map (atV row)) vv vs p q = b at HM ⊢
    generalize povB vv p = b1 at HM H1
    generalize povB vs q = b2 at HM H2
    rcases b1 with _ | _
    · go_enter Try.func11, Try.ntmps11
      go_wp2_with fail
      refine Calls.mono (H1.out _) ?_
      rintro e w1 ⟨rfl, hb1⟩
      obtain ⟨x1, rfl⟩ := hb1.get
      clear hb1
      go_wp2
      go_ret
      exact ⟨by rw [HM.out]; rfl, by repeat (first | exact Ext.refl' _ | assumption | apply Ext.ex' | apply Ext.al | apply Ext.drN | apply Ext.dr)⟩
    · go_enter Try.func11, Try.ntmps11
      go_wp2_with fail
      refine Calls.mono (H1.out _) ?_
      rintro e w1 ⟨rfl, hb1⟩
      obtain ⟨x1, rfl⟩ := hb1.get
      clear hb1
      go_wp2_with fail
      refine Calls.mono (H2.out _) ?_
      rintro e w1 ⟨rfl, hb1⟩
      obtain ⟨x2, rfl⟩ := hb1.get
      clear hb1
      go_wp2
      go_ret
      exact ⟨by rw [HM.out]; simp, by repeat (first | exact Ext.refl' _ | assumption | apply Ext.ex' | apply Ext.al | apply Ext.drN | apply Ext.dr)⟩
  · have HM : Hid (matB k key (ks.map (atV row)) vv vs p q = false) := Lib.hid (by simp [matB, h0, h1, h2, h3])
    generalize matB k key (ks.map (atV row)) vv vs p q = b at HM ⊢
    have e0 : (k == 0) = false := by simp [h0]
    have e1 : (k == 1) = false := by simp [h1]
    have e2 : (k == 2) = false := by simp [h2]
    have e3 : (k == 3) = false := by simp [h3]
    go_enter Try.func11, Try.ntmps11
    go_wp2
    go_ret
    exact ⟨by rw [HM.out]; rfl, by repeat (first | exact Ext.refl' _ | assumption | apply Ext.ex' | apply Ext.al | apply Ext.drN | apply Ext.dr)⟩

end Go.Proofs.Ytgacmpoonmioeaa
