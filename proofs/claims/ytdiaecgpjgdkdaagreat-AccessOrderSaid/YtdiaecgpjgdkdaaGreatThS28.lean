/- Lemmas for the rows: StY StZ StZb StU. -/
import Derived.Test.YtdiaecgpjgdkdaaGreatThS26
import Derived.Deep.DeepCutAuto
set_option linter.unusedSimpArgs false
set_option linter.unusedVariables false
namespace Go.Proofs.YtdiaecgpjgdkdaaGreat
open Go.Shelf Go.RowKit Go.Lib Go.Sort

variable {P : Program} {k : Nat} {α : Type} [Inhabited α]

set_option maxHeartbeats 16000000 in
set_option maxRecDepth 1000000 in
theorem sym12 (L : StF P k) (enc : α → List Value) (g : Nat) (cb : Array Value) (blk off cap : Nat) (d0 d : Array α) (w0 w : World) (R : RowK enc k w0 blk off d0) (hs : d0.size = d.size) (S : SWK enc k w0 blk off d w) (cf : α → α → Int) (eg : ∀ args w, (callFunc g args).run P w = .ok (.enter g args) w) (hcmp : CmpLays P g cb enc k cf blk off d0.size w0) (hO : Swo (ltOf cf)) (X A B Z : List α) (hd : d.toList = X ++ (A ++ (B ++ Z))) (hA0 : A ≠ []) (hB0 : B ≠ []) (hA : Srt (ltOf cf) A) (hB : Srt (ltOf cf) B) (h12 : A.length = 1 ∨ (¬ A.length = 1 ∧ B.length = 1)) {a m b : Nat} (ha : a = X.length) (hm : m = a + A.length) (hb : b = m + B.length) (hsz : d.size < 1000000000000) :
  Calls P 84 #[.slice (some ⟨blk, off, none⟩) d.size cap, .int .i64 a, .int .i64 m, .int .i64 b, .func (.func g) #[] cb] w fun e w' => e = .returned (.tuple #[]) ∧ ∃ d' : Array α, d'.size = d.size ∧ d'.toList = X ++ (mrg (ltOf cf) A B ++ Z) ∧ SWK enc k w0 blk off d' w' := by
 have mixed := L.mixed; have t3 := L.t3; have a3 := L.a3; have z3 := L.z3; have v3 := L.v3; have t4 := L.t4; have a4 := L.a4; have z4 := L.z4; have v4 := L.v4; have tu := L.tu; have au := L.au; have zu := L.zu; have e1 := L.en.1; have e2 := L.en.2.1; have e3 := L.en.2.2.1; have e4 := L.en.2.2.2.1; have e5 := L.en.2.2.2.2; have t22 := L.t22; have a22 := L.a22; have z22 := L.z22; have aE := L.aE; have zE := L.zE
 have hlen := congrArg List.length hd
 simp at hlen
 have S0 : Aside (SWK enc k w0 blk off d w) := S
 have HC : Aside (CmpLays P g cb enc k cf blk off d0.size w0) := hcmp
 have HO := Lib.hid hO
 have HD := Lib.hid hd
 have HS := Lib.hid (show Srt (ltOf cf) A ∧ Srt (ltOf cf) B from ⟨hA, hB⟩)
 have hA1 := List.length_pos_iff.2 hA0
 have hB1 := List.length_pos_iff.2 hB0
 have HAB := Lib.hid (show a = X.length ∧ m = a + A.length ∧ b = m + B.length ∧ d.size = X.length + (A.length + (B.length + Z.length)) from ⟨ha, hm, hb, hlen⟩)
 have hbd : b ≤ d.size := by omega
 have hmb : m < b := by omega
 have ham : a < m := by omega
 rcases h12 with h1 | ⟨h1, h2⟩
 ·
  have HA1 := Lib.hid h1
  have hb1 : ((m : Int) - (a : Int) == 1) = true := by simp; omega
  clear S hd ha hm hb hlen hA0 hB0 hA1 hB1 hA hB h1 hcmp hO
  go_enter L.FsymMerge, Tryz.ntmps84
  go_wp2
  go_loopg [10, 11] (b - m) (fun kx s10 s11 wr => ∃ i j : Nat, s10 = .int .i64 i ∧ s11 = .int .i64 j ∧ m ≤ i ∧ i ≤ j ∧ j ≤ b ∧ j - i ≤ kx ∧ Aside (SWK enc k w0 blk off d wr) ∧ Hid ((i = m ∨ ltOf cf d[i - 1]! d[a]! = true) ∧ (j = b ∨ ltOf cf d[j]! d[a]! = false)))
  case atStart => exact ⟨m, b, rfl, rfl, by omega, by omega, by omega, Nat.le_refl _, S0, Lib.hid ⟨.inl rfl, .inl rfl⟩⟩
  case round =>
   clear S0
   obtain ⟨i, j, rfl, rfl, hmi, hij, hjb, hkx, S1, HI⟩ := hrel
   by_cases hlt : i < j
   ·
    cases hL : ltOf cf d[(i + j) / 2]! d[a]! with
    | true =>
     have ea1 : (((i : Int) + (j : Int)) / 2).toNat = (i + j) / 2 := by omega
     have pa1 : (0 : Int) ≤ ((i : Int) + (j : Int)) / 2 := by omega
     have ba1 : ((i : Int) + (j : Int)) / 2 < (d.size : Int) := by omega
     have ra1 : IntKind.i64.wrap (((i : Int) + (j : Int)) / 2) = ((i : Int) + (j : Int)) / 2 := by rw [IntKind.wrap_i64]; omega
     have ec1 : ((a : Int)).toNat = a := by omega
     have pc1 : (0 : Int) ≤ (a : Int) := by omega
     have bc1 : (a : Int) < (d.size : Int) := by omega
     have rc1 : IntKind.i64.wrap ((a : Int)) = (a : Int) := by rw [IntKind.wrap_i64]; omega
     obtain ⟨x1, hx1⟩ : ∃ x, x = d[(i + j) / 2]! := ⟨_, rfl⟩
     obtain ⟨y1, hy1⟩ : ∃ x, x = d[a]! := ⟨_, rfl⟩
     have l1a := S1.out.ld R (by omega) P ((i + j) / 2) (by omega)
     have l1b := S1.out.ld R (by omega) P (a) (by omega)
     rw [← hx1] at l1a
     rw [← hy1] at l1b
     have hc1 := S1.out.cmp HC.out (by omega) x1 y1
     have hv1 : cf x1 y1 < 0 := by rw [hx1, hy1]; exact of_decide_eq_true hL
     have hd1 : decide (cf x1 y1 < 0) = true := decide_eq_true hv1
     clear hx1 hy1
     go_wp2_with fail
     go_quiet_grown (first | (go_at_fn g; refine Calls.grown_of (hc1 _ _)))
     have S3 : Aside (SWK enc k w0 blk off d (grow (wr.drewN nq) osq)) := S1.out.grown nq osq
     clear l1a l1b hc1 S1
     generalize grow (wr.drewN nq) osq = w3 at S3 ⊢
     clear nq osq
     go_wp2
     go_roundg (j - ((i + j) / 2 + 1))
     case measure => omega
     case rel => exact ⟨(i + j) / 2 + 1, j, by rw [show ((i : Int) + (j : Int)) / 2 + 1 = (((i + j) / 2 + 1 : Nat) : Int) by omega], rfl, by omega, by omega, hjb, Nat.le_refl _, S3, Lib.hid ⟨.inr (by simpa using hL), HI.out.2⟩⟩
    | false =>
     have ea2 : (((i : Int) + (j : Int)) / 2).toNat = (i + j) / 2 := by omega
     have pa2 : (0 : Int) ≤ ((i : Int) + (j : Int)) / 2 := by omega
     have ba2 : ((i : Int) + (j : Int)) / 2 < (d.size : Int) := by omega
     have ra2 : IntKind.i64.wrap (((i : Int) + (j : Int)) / 2) = ((i : Int) + (j : Int)) / 2 := by rw [IntKind.wrap_i64]; omega
     have ec2 : ((a : Int)).toNat = a := by omega
     have pc2 : (0 : Int) ≤ (a : Int) := by omega
     have bc2 : (a : Int) < (d.size : Int) := by omega
     have rc2 : IntKind.i64.wrap ((a : Int)) = (a : Int) := by rw [IntKind.wrap_i64]; omega
     obtain ⟨x2, hx2⟩ : ∃ x, x = d[(i + j) / 2]! := ⟨_, rfl⟩
     obtain ⟨y2, hy2⟩ : ∃ x, x = d[a]! := ⟨_, rfl⟩
     have l2a := S1.out.ld R (by omega) P ((i + j) / 2) (by omega)
     have l2b := S1.out.ld R (by omega) P (a) (by omega)
     rw [← hx2] at l2a
     rw [← hy2] at l2b
     have hc2 := S1.out.cmp HC.out (by omega) x2 y2
     have hv2 : ¬ cf x2 y2 < 0 := by rw [hx2, hy2]; exact of_decide_eq_false hL
     have hd2 : decide (cf x2 y2 < 0) = false := decide_eq_false hv2
     clear hx2 hy2
     go_wp2_with fail
     go_quiet_grown (first | (go_at_fn g; refine Calls.grown_of (hc2 _ _)))
     have S3 : Aside (SWK enc k w0 blk off d (grow (wr.drewN nq) osq)) := S1.out.grown nq osq
     clear l2a l2b hc2 S1
     generalize grow (wr.drewN nq) osq = w3 at S3 ⊢
     clear nq osq
     go_wp2
     go_roundg ((i + j) / 2 - i)
     case measure => omega
     case rel => exact ⟨i, (i + j) / 2, rfl, by rw [show ((i : Int) + (j : Int)) / 2 = (((i + j) / 2 : Nat) : Int) by omega], hmi, by omega, by omega, Nat.le_refl _, S3, Lib.hid ⟨HI.out.1, .inr hL⟩⟩
   ·
    obtain rfl : i = j := by omega
    have HM : Hid (∃ x, A = [x] ∧ mrg (ltOf cf) A B = B.take (i - m) ++ x :: B.drop (i - m)) := Lib.hid (by
     obtain ⟨g1, g2, g3, g4⟩ := HAB.out
     obtain ⟨x, hx⟩ := List.length_eq_one_iff.1 HA1.out
     refine ⟨x, hx, ?_⟩
     have hd2 := HD.out
     rw [hx] at hd2 ⊢
     have ex : d[a]! = x := arr_at (X := X) (Z := B ++ Z) (by rw [hd2]; simp) (by omega)
     have hh := HI.out
     rw [ex] at hh
     exact sym_one HO.out (X := X) (Z := Z) (by rw [hd2]; simp) HS.out.2 (a := a) (m := m) (b := b) (i := i) (by omega) (by have := HA1.out; omega) (by omega) hmi hjb hh.1 hh.2)
    go_wp2
    go_loopg [13] (i - 1 - a) (fun kx s13 wr => ∃ (q : Nat) (dk : Array α) (L1 L2 : List α), s13 = .int .i64 q ∧ a ≤ q ∧ q ≤ i - 1 ∧ i - 1 - q ≤ kx ∧ dk.size = d.size ∧ Aside (SWK enc k w0 blk off dk wr) ∧ Hid (B.take (i - m) = L1 ++ L2 ∧ L1.length = q - a ∧ ∃ x, A = [x] ∧ dk.toList = X ++ (L1 ++ x :: (L2 ++ (B.drop (i - m) ++ Z)))))
    case atStart => exact ⟨a, d, [], B.take (i - m), rfl, by omega, by omega, Nat.le_refl _, rfl, S1, Lib.hid ⟨rfl, by simp, by
     obtain ⟨x, hx, _⟩ := HM.out
     exact ⟨x, hx, by rw [HD.out, hx, ← List.append_assoc (B.take (i - m)), List.take_append_drop]; simp⟩⟩⟩
    case round =>
     clear S1
     obtain ⟨q, dk, L1, L2, rfl, haq, hqi, hkx, hds, S2, HQ⟩ := hrel
     by_cases hlt2 : q < i - 1
     ·
      have hz2 : (q : Int) < (i : Int) - 1 := by omega
      have ea3 : ((q : Int)).toNat = q := by omega
      have pa3 : (0 : Int) ≤ (q : Int) := by omega
      have ba3 : (q : Int) < (d.size : Int) := by omega
      have ra3 : IntKind.i64.wrap ((q : Int)) = (q : Int) := by rw [IntKind.wrap_i64]; omega
      have ec3 : ((q : Int) + 1).toNat = q + 1 := by omega
      have pc3 : (0 : Int) ≤ (q : Int) + 1 := by omega
      have bc3 : (q : Int) + 1 < (d.size : Int) := by omega
      have rc3 : IntKind.i64.wrap ((q : Int) + 1) = (q : Int) + 1 := by rw [IntKind.wrap_i64]; omega
      have S4 : Aside (SWK enc k w0 blk off (swp dk (q) (q + 1)) ((wr.drew.setCells blk (off + (q) * k) (enc dk[q + 1]!)).setCells blk (off + (q + 1) * k) (enc dk[q]!))) := S2.out.swapped R (q) (q + 1) (by omega) (by omega)
      have l3a := S2.out.ld1 R (by omega) P (q) (by omega)
      have l3b := S2.out.ld1 R (by omega) P (q + 1) (by omega)
      have s3a := S2.out.st1 R (by omega) P (q) (by omega) dk[q + 1]!
      have s3b := S2.out.st2 R (by omega) P (q) (q + 1) (by omega) (by omega) dk[q + 1]! dk[q]!
      have n3a : (enc dk[q]!).length = k := R.hk _
      have n3b : (enc dk[q + 1]!).length = k := R.hk _
      generalize enc dk[q]! = cI3 at S4 l3a s3b n3a
      generalize enc dk[q + 1]! = cJ3 at S4 l3b s3a s3b n3b
      clear S2
      go_wp2_with fail
      go_big_region_o
      clear l3a l3b s3a s3b
      generalize (wr.drew.setCells blk (off + (q) * k) cJ3).setCells blk (off + (q + 1) * k) cI3 = w4 at S4 ⊢
      go_wp2
      go_roundg (i - 1 - (q + 1))
      case measure => omega
      case rel =>
       obtain ⟨h1, h2, x, h3, h4⟩ := HQ.out
       obtain ⟨g1, g2, g3, g4⟩ := HAB.out
       have hA' := HA1.out
       have hlen := congrArg List.length h1
       simp at hlen
       cases L2 with
       | nil => simp at hlen; omega
       | cons y L2 =>
        have hsw := swp_next (dk := dk) (X := X ++ L1) (x := x) (y := y) (Z := L2 ++ (B.drop (i - m) ++ Z)) (by rw [h4]; simp) (i := q) (j := q + 1) (by simp; omega) (by simp; omega)
        exact ⟨q + 1, swp dk q (q + 1), L1 ++ [y], L2, by go_num, by omega, by omega, Nat.le_refl _, by rw [size_swp]; exact hds, S4, Lib.hid ⟨by rw [h1]; simp, by simp; omega, x, h3, by rw [hsw]; simp⟩⟩
     ·
      have hz2 : ¬ (q : Int) < (i : Int) - 1 := by omega
      go_wp2
      (try simp only [Exit.inBlock, Exit.then]); refine bodyPost_ret (results_none rfl _ _ _) rfl ?_
      obtain ⟨h1, h2, x, h3, h4⟩ := HQ.out
      obtain ⟨g1, g2, g3, g4⟩ := HAB.out
      obtain ⟨x', hx', hm⟩ := HM.out
      rw [h3] at hx'
      obtain rfl : x = x' := by simpa using hx'
      have hlen := congrArg List.length h1
      simp at hlen
      obtain rfl : L2 = [] := List.eq_nil_of_length_eq_zero (by omega)
      refine ⟨rfl, dk, hds, ?_, S2.out⟩
      rw [hm, h4, h1]
      simp
 ·
  have HB1 := Lib.hid h2
  have hb1 : ((m : Int) - (a : Int) == 1) = false := by simp; omega
  have hb2 : ((b : Int) - (m : Int) == 1) = true := by simp; omega
  clear S hd ha hm hb hlen hA0 hB0 hA1 hB1 hA hB h1 h2 hcmp hO
  go_enter L.FsymMerge, Tryz.ntmps84
  go_wp2
  go_loopg [14, 15] (m - a) (fun kx s14 s15 wr => ∃ i j : Nat, s14 = .int .i64 i ∧ s15 = .int .i64 j ∧ a ≤ i ∧ i ≤ j ∧ j ≤ m ∧ j - i ≤ kx ∧ Aside (SWK enc k w0 blk off d wr) ∧ Hid ((i = a ∨ ltOf cf d[m]! d[i - 1]! = false) ∧ (j = m ∨ ltOf cf d[m]! d[j]! = true)))
  case atStart => exact ⟨a, m, rfl, rfl, by omega, by omega, by omega, Nat.le_refl _, S0, Lib.hid ⟨.inl rfl, .inl rfl⟩⟩
  case round =>
   clear S0
   obtain ⟨i, j, rfl, rfl, hmi, hij, hjb, hkx, S1, HI⟩ := hrel
   by_cases hlt : i < j
   ·
    cases hL : ltOf cf d[m]! d[(i + j) / 2]! with
    | false =>
     have ea1 : ((m : Int)).toNat = m := by omega
     have pa1 : (0 : Int) ≤ (m : Int) := by omega
     have ba1 : (m : Int) < (d.size : Int) := by omega
     have ra1 : IntKind.i64.wrap ((m : Int)) = (m : Int) := by rw [IntKind.wrap_i64]; omega
     have ec1 : (((i : Int) + (j : Int)) / 2).toNat = (i + j) / 2 := by omega
     have pc1 : (0 : Int) ≤ ((i : Int) + (j : Int)) / 2 := by omega
     have bc1 : ((i : Int) + (j : Int)) / 2 < (d.size : Int) := by omega
     have rc1 : IntKind.i64.wrap (((i : Int) + (j : Int)) / 2) = ((i : Int) + (j : Int)) / 2 := by rw [IntKind.wrap_i64]; omega
     obtain ⟨x1, hx1⟩ : ∃ x, x = d[m]! := ⟨_, rfl⟩
     obtain ⟨y1, hy1⟩ : ∃ x, x = d[(i + j) / 2]! := ⟨_, rfl⟩
     have l1a := S1.out.ld R (by omega) P (m) (by omega)
     have l1b := S1.out.ld R (by omega) P ((i + j) / 2) (by omega)
     rw [← hx1] at l1a
     rw [← hy1] at l1b
     have hc1 := S1.out.cmp HC.out (by omega) x1 y1
     have hv1 : ¬ cf x1 y1 < 0 := by rw [hx1, hy1]; exact of_decide_eq_false hL
     have hd1 : decide (cf x1 y1 < 0) = false := decide_eq_false hv1
     clear hx1 hy1
     go_wp2_with fail
     go_quiet_grown (first | (go_at_fn g; refine Calls.grown_of (hc1 _ _)))
     have S3 : Aside (SWK enc k w0 blk off d (grow (wr.drewN nq) osq)) := S1.out.grown nq osq
     clear l1a l1b hc1 S1
     generalize grow (wr.drewN nq) osq = w3 at S3 ⊢
     clear nq osq
     go_wp2
     go_roundg (j - ((i + j) / 2 + 1))
     case measure => omega
     case rel => exact ⟨(i + j) / 2 + 1, j, by rw [show ((i : Int) + (j : Int)) / 2 + 1 = (((i + j) / 2 + 1 : Nat) : Int) by omega], rfl, by omega, by omega, hjb, Nat.le_refl _, S3, Lib.hid ⟨.inr (by simpa using hL), HI.out.2⟩⟩
    | true =>
     have ea2 : ((m : Int)).toNat = m := by omega
     have pa2 : (0 : Int) ≤ (m : Int) := by omega
     have ba2 : (m : Int) < (d.size : Int) := by omega
     have ra2 : IntKind.i64.wrap ((m : Int)) = (m : Int) := by rw [IntKind.wrap_i64]; omega
     have ec2 : (((i : Int) + (j : Int)) / 2).toNat = (i + j) / 2 := by omega
     have pc2 : (0 : Int) ≤ ((i : Int) + (j : Int)) / 2 := by omega
     have bc2 : ((i : Int) + (j : Int)) / 2 < (d.size : Int) := by omega
     have rc2 : IntKind.i64.wrap (((i : Int) + (j : Int)) / 2) = ((i : Int) + (j : Int)) / 2 := by rw [IntKind.wrap_i64]; omega
     obtain ⟨x2, hx2⟩ : ∃ x, x = d[m]! := ⟨_, rfl⟩
     obtain ⟨y2, hy2⟩ : ∃ x, x = d[(i + j) / 2]! := ⟨_, rfl⟩
     have l2a := S1.out.ld R (by omega) P (m) (by omega)
     have l2b := S1.out.ld R (by omega) P ((i + j) / 2) (by omega)
     rw [← hx2] at l2a
     rw [← hy2] at l2b
     have hc2 := S1.out.cmp HC.out (by omega) x2 y2
     have hv2 : cf x2 y2 < 0 := by rw [hx2, hy2]; exact of_decide_eq_true hL
     have hd2 : decide (cf x2 y2 < 0) = true := decide_eq_true hv2
     clear hx2 hy2
     go_wp2_with fail
     go_quiet_grown (first | (go_at_fn g; refine Calls.grown_of (hc2 _ _)))
     have S3 : Aside (SWK enc k w0 blk off d (grow (wr.drewN nq) osq)) := S1.out.grown nq osq
     clear l2a l2b hc2 S1
     generalize grow (wr.drewN nq) osq = w3 at S3 ⊢
     clear nq osq
     go_wp2
     go_roundg ((i + j) / 2 - i)
     case measure => omega
     case rel => exact ⟨i, (i + j) / 2, rfl, by rw [show ((i : Int) + (j : Int)) / 2 = (((i + j) / 2 : Nat) : Int) by omega], hmi, by omega, by omega, Nat.le_refl _, S3, Lib.hid ⟨HI.out.1, .inr hL⟩⟩
   ·
    obtain rfl : i = j := by omega
    have HM : Hid (∃ y, B = [y] ∧ mrg (ltOf cf) A B = A.take (i - a) ++ y :: A.drop (i - a)) := Lib.hid (by
     obtain ⟨g1, g2, g3, g4⟩ := HAB.out
     obtain ⟨y, hy⟩ := List.length_eq_one_iff.1 HB1.out
     refine ⟨y, hy, ?_⟩
     have hd2 := HD.out
     rw [hy] at hd2 ⊢
     have ey : d[m]! = y := arr_at (X := X ++ A) (Z := Z) (by rw [hd2]; simp) (by simp; omega)
     have hh := HI.out
     rw [ey] at hh
     exact sym_last HO.out (X := X) (Z := Z) (by rw [hd2]; simp) HS.out.1 (a := a) (m := m) (i := i) (by omega) (by omega) hmi hjb hh.1 hh.2)
    go_wp2
    go_loopg [17] (m - i) (fun kx s17 wr => ∃ (q : Nat) (dk : Array α) (L1 L2 : List α), s17 = .int .i64 q ∧ i ≤ q ∧ q ≤ m ∧ q - i ≤ kx ∧ dk.size = d.size ∧ Aside (SWK enc k w0 blk off dk wr) ∧ Hid (A.drop (i - a) = L1 ++ L2 ∧ L1.length = q - i ∧ ∃ y, B = [y] ∧ dk.toList = X ++ (A.take (i - a) ++ (L1 ++ y :: (L2 ++ Z)))))
    case atStart => exact ⟨m, d, A.drop (i - a), [], rfl, by omega, by omega, Nat.le_refl _, rfl, S1, Lib.hid ⟨by simp, by obtain ⟨g1, g2, g3, g4⟩ := HAB.out; simp; omega, by
     obtain ⟨y, hy, _⟩ := HM.out
     exact ⟨y, hy, by rw [HD.out, hy, ← List.append_assoc (A.take (i - a)), List.take_append_drop]; simp⟩⟩⟩
    case round =>
     clear S1
     obtain ⟨q, dk, L1, L2, rfl, haq, hqi, hkx, hds, S2, HQ⟩ := hrel
     by_cases hlt2 : i < q
     ·
      have hz2 : (i : Int) < (q : Int) := by omega
      obtain ⟨qp, rfl⟩ : ∃ qp, q = qp + 1 := ⟨q - 1, by omega⟩
      have hz3 : (i : Int) < (qp : Int) + 1 := by omega
      have ea3 : ((qp : Int) + 1).toNat = qp + 1 := by omega
      have pa3 : (0 : Int) ≤ (qp : Int) + 1 := by omega
      have ba3 : (qp : Int) + 1 < (d.size : Int) := by omega
      have ra3 : IntKind.i64.wrap ((qp : Int) + 1) = (qp : Int) + 1 := by rw [IntKind.wrap_i64]; omega
      have ec3 : ((qp : Int)).toNat = qp := by omega
      have pc3 : (0 : Int) ≤ (qp : Int) := by omega
      have bc3 : (qp : Int) < (d.size : Int) := by omega
      have rc3 : IntKind.i64.wrap ((qp : Int)) = (qp : Int) := by rw [IntKind.wrap_i64]; omega
      have S4 : Aside (SWK enc k w0 blk off (swp dk (qp + 1) (qp)) ((wr.drew.setCells blk (off + (qp + 1) * k) (enc dk[qp]!)).setCells blk (off + (qp) * k) (enc dk[qp + 1]!))) := S2.out.swapped R (qp + 1) (qp) (by omega) (by omega)
      have l3a := S2.out.ld1 R (by omega) P (qp + 1) (by omega)
      have l3b := S2.out.ld1 R (by omega) P (qp) (by omega)
      have s3a := S2.out.st1 R (by omega) P (qp + 1) (by omega) dk[qp]!
      have s3b := S2.out.st2 R (by omega) P (qp + 1) (qp) (by omega) (by omega) dk[qp]! dk[qp + 1]!
      have n3a : (enc dk[qp + 1]!).length = k := R.hk _
      have n3b : (enc dk[qp]!).length = k := R.hk _
      generalize enc dk[qp + 1]! = cI3 at S4 l3a s3b n3a
      generalize enc dk[qp]! = cJ3 at S4 l3b s3a s3b n3b
      clear S2
      go_wp2_with fail
      go_big_region_o
      clear l3a l3b s3a s3b
      generalize (wr.drew.setCells blk (off + (qp + 1) * k) cJ3).setCells blk (off + (qp) * k) cI3 = w4 at S4 ⊢
      go_wp2
      go_roundg (qp - i)
      case measure => omega
      case rel =>
       obtain ⟨h1, h2, y, h3, h4⟩ := HQ.out
       obtain ⟨g1, g2, g3, g4⟩ := HAB.out
       obtain ⟨L3, z, rfl⟩ : ∃ L3 z, L1 = L3 ++ [z] := by
        rcases List.eq_nil_or_concat L1 with rfl | ⟨L3, z, rfl⟩
        ·
         simp at h2; omega
        ·
         exact ⟨L3, z, List.concat_eq_append⟩
       simp at h2
       have hlen := congrArg List.length h1
       simp at hlen
       have hsw := swp_next (dk := dk) (X := X ++ (A.take (i - a) ++ L3)) (x := z) (y := y) (Z := L2 ++ Z) (by rw [h4]; simp) (i := qp) (j := qp + 1) (by simp; omega) (by simp; omega)
       rw [swp_comm] at hsw
       exact ⟨qp, swp dk (qp + 1) qp, L3, z :: L2, by first | rfl | go_num | (congr 1; omega), by omega, by omega, Nat.le_refl _, by rw [size_swp]; exact hds, S4, Lib.hid ⟨by rw [h1]; simp, by omega, y, h3, by rw [hsw]; simp⟩⟩
     ·
      have hz2 : ¬ (i : Int) < (q : Int) := by omega
      go_wp2
      (try simp only [Exit.inBlock, Exit.then]); refine bodyPost_ret (results_none rfl _ _ _) rfl ?_
      obtain ⟨h1, h2, y, h3, h4⟩ := HQ.out
      obtain ⟨g1, g2, g3, g4⟩ := HAB.out
      obtain ⟨y', hy', hm⟩ := HM.out
      rw [h3] at hy'
      obtain rfl : y = y' := by simpa using hy'
      obtain rfl : L1 = [] := List.eq_nil_of_length_eq_zero (by omega)
      refine ⟨rfl, dk, hds, ?_, S2.out⟩
      rw [hm, h4, h1]
      simp

end Go.Proofs.YtdiaecgpjgdkdaaGreat

namespace Go.Proofs.YtdiaecgpjgdkdaaGreat
open Go.Shelf Go.RowKit Go.Lib Go.Sort

variable {P : Program} {k : Nat} {α : Type} [Inhabited α]

def CqP (c : Bool) (p q : Prop) : Prop := c = true ↔ (p ∧ q)

set_option maxHeartbeats 32000000 in
set_option maxRecDepth 1000000 in
theorem sym_bigA (L : StF P k) (enc : α → List Value) (g : Nat) (cb : Array Value) (blk off cap : Nat) (d0 d : Array α) (w0 w : World) (R : RowK enc k w0 blk off d0) (hs : d0.size = d.size) (S : SWK enc k w0 blk off d w) (cf : α → α → Int) (eg : ∀ args w, (callFunc g args).run P w = .ok (.enter g args) w) (hcmp : CmpLays P g cb enc k cf blk off d0.size w0) (hO : Swo (ltOf cf)) (n : Nat) (IH : ∀ (d : Array α) (w : World) (hs : d0.size = d.size) (S : SWK enc k w0 blk off d w) (X A B Z : List α) (hd : d.toList = X ++ (A ++ (B ++ Z))) (hn : A.length + B.length ≤ n) (hA0 : A ≠ []) (hB0 : B ≠ []) (hA : Srt (ltOf cf) A) (hB : Srt (ltOf cf) B) (len : Nat) (hl : len = d.size) (az mz bz : Int) (haz : az = X.length) (hmz : mz = (X.length + A.length : Nat)) (hbz : bz = (X.length + A.length + B.length : Nat)), Calls P 84 #[.slice (some ⟨blk, off, none⟩) len cap, .int .i64 az, .int .i64 mz, .int .i64 bz, .func (.func g) #[] cb] w fun e w' => e = .returned (.tuple #[]) ∧ ∃ d' : Array α, d'.size = d.size ∧ d'.toList = X ++ (mrg (ltOf cf) A B ++ Z) ∧ SWK enc k w0 blk off d' w') (X A B Z : List α) (hd : d.toList = X ++ (A ++ (B ++ Z))) (hn : A.length + B.length ≤ n + 1) (hA2 : 2 ≤ A.length) (hB2 : 2 ≤ B.length) (hA : Srt (ltOf cf) A) (hB : Srt (ltOf cf) B) {a m b : Nat} (ha : a = X.length) (hm : m = a + A.length) (hb : b = m + B.length) (hsz : d.size < 1000000000000) (mid : Nat) (hmid1 : 2 * mid ≤ a + b) (hmid2 : a + b ≤ 2 * mid + 1) (hmm : mid < m) :
  Calls P 84 #[.slice (some ⟨blk, off, none⟩) d.size cap, .int .i64 a, .int .i64 m, .int .i64 b, .func (.func g) #[] cb] w fun e w' => e = .returned (.tuple #[]) ∧ ∃ d' : Array α, d'.size = d.size ∧ d'.toList = X ++ (mrg (ltOf cf) A B ++ Z) ∧ SWK enc k w0 blk off d' w' := by
 have mixed := L.mixed; have t3 := L.t3; have a3 := L.a3; have z3 := L.z3; have v3 := L.v3; have t4 := L.t4; have a4 := L.a4; have z4 := L.z4; have v4 := L.v4; have tu := L.tu; have au := L.au; have zu := L.zu; have e1 := L.en.1; have e2 := L.en.2.1; have e3 := L.en.2.2.1; have e4 := L.en.2.2.2.1; have e5 := L.en.2.2.2.2; have t22 := L.t22; have a22 := L.a22; have z22 := L.z22; have aE := L.aE; have zE := L.zE
 have hlen := congrArg List.length hd
 simp at hlen
 have S0 : Aside (SWK enc k w0 blk off d w) := S
 have HC : Aside (CmpLays P g cb enc k cf blk off d0.size w0) := hcmp
 have HO := Lib.hid hO
 have HD := Lib.hid hd
 have HS := Lib.hid (show Srt (ltOf cf) A ∧ Srt (ltOf cf) B from ⟨hA, hB⟩)
 have HAB := Lib.hid (show a = X.length ∧ m = a + A.length ∧ b = m + B.length ∧ d.size = X.length + (A.length + (B.length + Z.length)) from ⟨ha, hm, hb, hlen⟩)
 have hbd : b ≤ d.size := by omega
 have hmb : m + 2 ≤ b := by omega
 have ham : a + 2 ≤ m := by omega
 have hnb : b ≤ a + n + 1 := by omega
 have HROT := Lib.hid (fun (w : World) (S : SWK enc k w0 blk off d w) (X A B Z : List α) (hd : d.toList = X ++ (A ++ (B ++ Z))) (hA0 : A ≠ []) (hB0 : B ≠ []) (a m b : Nat) (ha : a = X.length) (hm : m = a + A.length) (hb : b = m + B.length) => rotate_any L enc g cb blk off cap d0 d w0 w R hs S X A B Z hd hA0 hB0 ha hm hb hsz)
 have IH := Lib.hid IH
 have hmid : ((a : Int) + (b : Int)) / 2 = (mid : Int) := by omega
 have hb1 : ((m : Int) - (a : Int) == 1) = false := by simp; omega
 have hb2 : ((b : Int) - (m : Int) == 1) = false := by simp; omega
 clear S hd hlen hA hB hcmp hO hn hA2 hB2 ha hm hb
 have hz : (mid : Int) < (m : Int) := by omega
 obtain ⟨lo, hlo⟩ : ∃ lo, lo + b = mid + m := ⟨mid + m - b, by omega⟩
 obtain ⟨hi, hhi⟩ : ∃ hi, hi = mid := ⟨_, rfl⟩
 go_enter L.FsymMerge, Tryz.ntmps84
 go_wp2
 go_loopg [20, 21] (hi - lo) (fun kx s20 s21 wr => ∃ i j : Nat, s20 = .int .i64 i ∧ s21 = .int .i64 j ∧ lo ≤ i ∧ i ≤ j ∧ j ≤ hi ∧ j - i ≤ kx ∧ Aside (SWK enc k w0 blk off d wr) ∧ Hid ((i = lo ∨ ltOf cf d[mid + m - i]! d[i - 1]! = false) ∧ (j = hi ∨ ltOf cf d[mid + m - 1 - j]! d[j]! = true)))
 case atStart => exact ⟨lo, hi, by (congr 1; omega), by (rw [hhi]), by omega, by omega, by omega, Nat.le_refl _, S0, Lib.hid ⟨.inl rfl, .inl rfl⟩⟩
 case round =>
  clear S0
  obtain ⟨i, j, rfl, rfl, hmi, hij, hjb, hkx, S1, HI⟩ := hrel
  by_cases hlt : i < j
  ·
   have hpc : ((i : Int) + (j : Int)) / 2 ≤ (mid : Int) + (m : Int) - 1 := by omega
   cases hL : ltOf cf d[mid + m - 1 - (i + j) / 2]! d[(i + j) / 2]! with
   | false =>
    have ea1 : ((mid : Int) + (m : Int) - 1 - ((i : Int) + (j : Int)) / 2).toNat = mid + m - 1 - (i + j) / 2 := by omega
    have pa1 : (0 : Int) ≤ (mid : Int) + (m : Int) - 1 - ((i : Int) + (j : Int)) / 2 := by omega
    have ba1 : (mid : Int) + (m : Int) - 1 - ((i : Int) + (j : Int)) / 2 < (d.size : Int) := by omega
    have ra1 : IntKind.i64.wrap ((mid : Int) + (m : Int) - 1 - ((i : Int) + (j : Int)) / 2) = (mid : Int) + (m : Int) - 1 - ((i : Int) + (j : Int)) / 2 := by rw [IntKind.wrap_i64]; omega
    have ec1 : (((i : Int) + (j : Int)) / 2).toNat = (i + j) / 2 := by omega
    have pc1 : (0 : Int) ≤ ((i : Int) + (j : Int)) / 2 := by omega
    have bc1 : ((i : Int) + (j : Int)) / 2 < (d.size : Int) := by omega
    have rc1 : IntKind.i64.wrap (((i : Int) + (j : Int)) / 2) = ((i : Int) + (j : Int)) / 2 := by rw [IntKind.wrap_i64]; omega
    obtain ⟨x1, hx1⟩ : ∃ x, x = d[mid + m - 1 - (i + j) / 2]! := ⟨_, rfl⟩
    obtain ⟨y1, hy1⟩ : ∃ x, x = d[(i + j) / 2]! := ⟨_, rfl⟩
    have l1a := S1.out.ld R (by omega) P (mid + m - 1 - (i + j) / 2) (by omega)
    have l1b := S1.out.ld R (by omega) P ((i + j) / 2) (by omega)
    rw [← hx1] at l1a
    rw [← hy1] at l1b
    have hc1 := S1.out.cmp HC.out (by omega) x1 y1
    have hv1 : ¬ cf x1 y1 < 0 := by rw [hx1, hy1]; exact of_decide_eq_false hL
    have hd1 : decide (cf x1 y1 < 0) = false := decide_eq_false hv1
    clear hx1 hy1
    go_wp2_with fail
    go_quiet_grown (first | (go_at_fn g; refine Calls.grown_of (hc1 _ _)))
    have S3 : Aside (SWK enc k w0 blk off d (grow (wr.drewN nq) osq)) := S1.out.grown nq osq
    clear l1a l1b hc1 S1
    generalize grow (wr.drewN nq) osq = w3 at S3 ⊢
    clear nq osq
    go_wp2
    go_roundg (j - ((i + j) / 2 + 1))
    case measure => omega
    case rel => exact ⟨(i + j) / 2 + 1, j, by rw [show ((i : Int) + (j : Int)) / 2 + 1 = (((i + j) / 2 + 1 : Nat) : Int) by omega], rfl, by omega, by omega, hjb, Nat.le_refl _, S3, Lib.hid ⟨.inr (by rw [show mid + m - ((i + j) / 2 + 1) = mid + m - 1 - (i + j) / 2 by omega]; simpa using hL), HI.out.2⟩⟩
   | true =>
    have ea2 : ((mid : Int) + (m : Int) - 1 - ((i : Int) + (j : Int)) / 2).toNat = mid + m - 1 - (i + j) / 2 := by omega
    have pa2 : (0 : Int) ≤ (mid : Int) + (m : Int) - 1 - ((i : Int) + (j : Int)) / 2 := by omega
    have ba2 : (mid : Int) + (m : Int) - 1 - ((i : Int) + (j : Int)) / 2 < (d.size : Int) := by omega
    have ra2 : IntKind.i64.wrap ((mid : Int) + (m : Int) - 1 - ((i : Int) + (j : Int)) / 2) = (mid : Int) + (m : Int) - 1 - ((i : Int) + (j : Int)) / 2 := by rw [IntKind.wrap_i64]; omega
    have ec2 : (((i : Int) + (j : Int)) / 2).toNat = (i + j) / 2 := by omega
    have pc2 : (0 : Int) ≤ ((i : Int) + (j : Int)) / 2 := by omega
    have bc2 : ((i : Int) + (j : Int)) / 2 < (d.size : Int) := by omega
    have rc2 : IntKind.i64.wrap (((i : Int) + (j : Int)) / 2) = ((i : Int) + (j : Int)) / 2 := by rw [IntKind.wrap_i64]; omega
    obtain ⟨x2, hx2⟩ : ∃ x, x = d[mid + m - 1 - (i + j) / 2]! := ⟨_, rfl⟩
    obtain ⟨y2, hy2⟩ : ∃ x, x = d[(i + j) / 2]! := ⟨_, rfl⟩
    have l2a := S1.out.ld R (by omega) P (mid + m - 1 - (i + j) / 2) (by omega)
    have l2b := S1.out.ld R (by omega) P ((i + j) / 2) (by omega)
    rw [← hx2] at l2a
    rw [← hy2] at l2b
    have hc2 := S1.out.cmp HC.out (by omega) x2 y2
    have hv2 : cf x2 y2 < 0 := by rw [hx2, hy2]; exact of_decide_eq_true hL
    have hd2 : decide (cf x2 y2 < 0) = true := decide_eq_true hv2
    clear hx2 hy2
    go_wp2_with fail
    go_quiet_grown (first | (go_at_fn g; refine Calls.grown_of (hc2 _ _)))
    have S3 : Aside (SWK enc k w0 blk off d (grow (wr.drewN nq) osq)) := S1.out.grown nq osq
    clear l2a l2b hc2 S1
    generalize grow (wr.drewN nq) osq = w3 at S3 ⊢
    clear nq osq
    go_wp2
    go_roundg ((i + j) / 2 - i)
    case measure => omega
    case rel => exact ⟨i, (i + j) / 2, rfl, by rw [show ((i : Int) + (j : Int)) / 2 = (((i + j) / 2 : Nat) : Int) by omega], hmi, by omega, by omega, Nat.le_refl _, S3, Lib.hid ⟨HI.out.1, .inr hL⟩⟩
  ·
   obtain rfl : i = j := by omega
   obtain ⟨e, he⟩ : ∃ e, e = mid + m - i := ⟨_, rfl⟩
   have hez : (mid : Int) + (m : Int) - (i : Int) = (e : Int) := by omega
   have he1 : m ≤ e := by omega
   have he2 : e ≤ b := by omega
   have hei : e + i = mid + m := by omega
   obtain ⟨A1, A2, B1, B2, HM⟩ : ∃ A1 A2 B1 B2, Hid (A = A1 ++ A2 ∧ B = B1 ++ B2 ∧ A1.length = i - a ∧ A2.length = m - i ∧ B1.length = e - m ∧ B2.length = b - e ∧ mrg (ltOf cf) A B = mrg (ltOf cf) A1 B1 ++ mrg (ltOf cf) A2 B2 ∧ Srt (ltOf cf) A1 ∧ Srt (ltOf cf) A2 ∧ Srt (ltOf cf) B1 ∧ Srt (ltOf cf) B2) := by
    obtain ⟨g1, g2, g3, g4⟩ := HAB.out
    obtain ⟨hA, hB⟩ := HS.out
    obtain ⟨q1, q2⟩ := HI.out
    have hsp := sym_split HO.out (dk := d) (X := X) (A := A) (B := B) (Z := Z) HD.out hA hB (a := a) (m := m) (b := b) (s := i) (e := e) g1 g2 g3 (by omega) (by omega) he1 he2
     (by
       rcases q1 with q1 | q1
       ·
        exact .inr (.inl (by omega))
       ·
        rw [he]; exact .inr (.inr q1))
     (by
       rcases q2 with q2 | q2
       ·
        exact .inr (.inl (by omega))
       ·
        rw [he, show mid + m - i - 1 = mid + m - 1 - i by omega]; exact .inr (.inr q2))
    refine ⟨A.take (i - a), A.drop (i - a), B.take (e - m), B.drop (e - m), Lib.hid ⟨(List.take_append_drop _ _).symm, (List.take_append_drop _ _).symm, by simp; omega, by simp; omega, by simp; omega, by simp; omega, hsp, ?_, ?_, ?_, ?_⟩⟩
    ·
     exact List.Pairwise.sublist (List.take_sublist _ _) hA
    ·
     exact List.Pairwise.sublist (List.drop_sublist _ _) hA
    ·
     exact List.Pairwise.sublist (List.take_sublist _ _) hB
    ·
     exact List.Pairwise.sublist (List.drop_sublist _ _) hB
   clear HI he
   go_upto_region 39 with fail
   go_cut [185] (fun sc wx => ∃ c : Bool, sc = .bool c ∧ CqP c (i < m) (m < e) ∧ wx = wr)
   case first =>
    as_aux_lemma =>
     by_cases hp : i < m
     ·
      have hpz : (i : Int) < (m : Int) := by omega
      by_cases hq : m < e
      ·
       have hqz : (m : Int) < (e : Int) := by omega
       have HC1 : CqP true (i < m) (m < e) := by unfold CqP; simp [hp, hq]
       go_wp2_with fail
       go_meet
       exact ⟨true, rfl, HC1, rfl⟩
      ·
       have hqz : ¬ ((m : Int) < (e : Int)) := by omega
       have HC1 : CqP false (i < m) (m < e) := by unfold CqP; simp [hp, hq]
       go_wp2_with fail
       go_meet
       exact ⟨false, rfl, HC1, rfl⟩
     ·
      have hpz : ¬ ((i : Int) < (m : Int)) := by omega
      have HC1 : CqP false (i < m) (m < e) := by unfold CqP; simp [hp]
      go_wp2_with fail
      go_meet
      exact ⟨false, rfl, HC1, rfl⟩
   case rest =>
    as_aux_lemma =>
     obtain ⟨cq, rfl, HCQ, rfl⟩ := hcut
     go_upto_if 185 with fail
     go_cut [] (fun wx => ∃ d2 : Array α, d2.size = d.size ∧ Aside (SWK enc k w0 blk off d2 wx) ∧ Hid (d2.toList = X ++ (A1 ++ (B1 ++ (A2 ++ (B2 ++ Z))))))
     case first =>
      as_aux_lemma =>
       rcases cq with _ | _
       ·
        have hn : ¬ (i < m ∧ m < e) := fun h => by have := HCQ.2 h; cases this
        go_wp2
        go_meet
        refine ⟨d, rfl, S1, Lib.hid ?_⟩
        obtain ⟨m1, m2, m3, m4, m5, m6, m7, m8, m9, m10, m11⟩ := HM.out; obtain ⟨g1, g2, g3, g4⟩ := HAB.out; have lA := congrArg List.length m1; have lB := congrArg List.length m2; simp only [List.length_append] at lA lB
        rw [HD.out, m1, m2]
        have : A2 = [] ∨ B1 = [] := by
         by_cases h : i < m
         ·
          exact .inr (List.eq_nil_of_length_eq_zero (by omega))
         ·
          exact .inl (List.eq_nil_of_length_eq_zero (by omega))
        rcases this with rfl | rfl <;> simp
       ·
        have hc := HCQ.1 rfl
        have S4 := S1.out
        clear S1
        go_wp2_with fail
        refine Calls.mono (HROT.out _ S4 (X ++ A1) A2 B1 (B2 ++ Z) ?a1 ?a2 ?a3 i m e ?a4 ?a5 ?a6) ?_
        case a1 => obtain ⟨m1, m2, m3, m4, m5, m6, m7, m8, m9, m10, m11⟩ := HM.out; obtain ⟨g1, g2, g3, g4⟩ := HAB.out; have lA := congrArg List.length m1; have lB := congrArg List.length m2; simp only [List.length_append] at lA lB; rw [HD.out, m1, m2]; simp
        case a2 => obtain ⟨m1, m2, m3, m4, m5, m6, m7, m8, m9, m10, m11⟩ := HM.out; obtain ⟨g1, g2, g3, g4⟩ := HAB.out; have lA := congrArg List.length m1; have lB := congrArg List.length m2; simp only [List.length_append] at lA lB; exact List.length_pos_iff.1 (by omega)
        case a3 => obtain ⟨m1, m2, m3, m4, m5, m6, m7, m8, m9, m10, m11⟩ := HM.out; obtain ⟨g1, g2, g3, g4⟩ := HAB.out; have lA := congrArg List.length m1; have lB := congrArg List.length m2; simp only [List.length_append] at lA lB; exact List.length_pos_iff.1 (by omega)
        case a4 => obtain ⟨m1, m2, m3, m4, m5, m6, m7, m8, m9, m10, m11⟩ := HM.out; obtain ⟨g1, g2, g3, g4⟩ := HAB.out; have lA := congrArg List.length m1; have lB := congrArg List.length m2; simp only [List.length_append] at lA lB; rw [List.length_append]; omega
        case a5 => obtain ⟨m1, m2, m3, m4, m5, m6, m7, m8, m9, m10, m11⟩ := HM.out; obtain ⟨g1, g2, g3, g4⟩ := HAB.out; have lA := congrArg List.length m1; have lB := congrArg List.length m2; simp only [List.length_append] at lA lB; omega
        case a6 => obtain ⟨m1, m2, m3, m4, m5, m6, m7, m8, m9, m10, m11⟩ := HM.out; obtain ⟨g1, g2, g3, g4⟩ := HAB.out; have lA := congrArg List.length m1; have lB := congrArg List.length m2; simp only [List.length_append] at lA lB; omega
        rintro en w5 ⟨rfl, d5, hd5, hdl, S5⟩
        have HDL := Lib.hid hdl
        clear hdl
        go_wp2
        go_meet
        exact ⟨d5, hd5, S5, Lib.hid (by rw [HDL.out]; simp)⟩
     case rest =>
      as_aux_lemma =>
       obtain ⟨d2, hd2, S2, H2⟩ := hcut
       clear S1 HCQ
       generalize hwr : wc = wr at S2 ⊢
       clear hwr
       go_upto_region 41 with fail
       go_cut [199] (fun sc wx => ∃ c : Bool, sc = .bool c ∧ CqP c (a < i) (i < mid) ∧ wx = wr)
       case first =>
        as_aux_lemma =>
         by_cases hp : a < i
         ·
          have hpz : (a : Int) < (i : Int) := by omega
          by_cases hq : i < mid
          ·
           have hqz : (i : Int) < (mid : Int) := by omega
           have HC1 : CqP true (a < i) (i < mid) := by unfold CqP; simp [hp, hq]
           go_wp2_with fail
           go_meet
           exact ⟨true, rfl, HC1, rfl⟩
          ·
           have hqz : ¬ ((i : Int) < (mid : Int)) := by omega
           have HC1 : CqP false (a < i) (i < mid) := by unfold CqP; simp [hp, hq]
           go_wp2_with fail
           go_meet
           exact ⟨false, rfl, HC1, rfl⟩
         ·
          have hpz : ¬ ((a : Int) < (i : Int)) := by omega
          have HC1 : CqP false (a < i) (i < mid) := by unfold CqP; simp [hp]
          go_wp2_with fail
          go_meet
          exact ⟨false, rfl, HC1, rfl⟩
       case rest =>
        as_aux_lemma =>
         obtain ⟨cq, rfl, HCQ, rfl⟩ := hcut
         go_upto_if 199 with fail
         go_cut [] (fun wx => ∃ d3 : Array α, d3.size = d.size ∧ Aside (SWK enc k w0 blk off d3 wx) ∧ Hid (d3.toList = X ++ (mrg (ltOf cf) A1 B1 ++ (A2 ++ (B2 ++ Z)))))
         case first =>
          as_aux_lemma =>
           rcases cq with _ | _
           ·
            have hn : ¬ (a < i ∧ i < mid) := fun h => by have := HCQ.2 h; cases this
            go_wp2
            go_meet
            refine ⟨d2, hd2, S2, Lib.hid ?_⟩
            obtain ⟨m1, m2, m3, m4, m5, m6, m7, m8, m9, m10, m11⟩ := HM.out; obtain ⟨g1, g2, g3, g4⟩ := HAB.out; have lA := congrArg List.length m1; have lB := congrArg List.length m2; simp only [List.length_append] at lA lB
            rw [H2.out]
            have : A1 = [] ∨ B1 = [] := by
             by_cases h : a < i
             ·
              exact .inr (List.eq_nil_of_length_eq_zero (by omega))
             ·
              exact .inl (List.eq_nil_of_length_eq_zero (by omega))
            rcases this with rfl | rfl
            ·
             rw [mrg_nil_left]; simp
            ·
             rw [mrg_nil_right]; simp
           ·
            have hc := HCQ.1 rfl
            have S4 := S2.out
            clear S2
            go_wp2_with fail
            refine Calls.mono (IH.out d2 _ (by omega) S4 (X) A1 B1 (A2 ++ (B2 ++ Z)) ?b1 ?b2 ?b3 ?b4 (HM.out.2.2.2.2.2.2.2.1) (HM.out.2.2.2.2.2.2.2.2.2.1) _ ?b5 _ _ _ ?b6 ?b7 ?b8) ?_
            case b1 => rw [H2.out]
            case b2 => obtain ⟨m1, m2, m3, m4, m5, m6, m7, m8, m9, m10, m11⟩ := HM.out; obtain ⟨g1, g2, g3, g4⟩ := HAB.out; have lA := congrArg List.length m1; have lB := congrArg List.length m2; simp only [List.length_append] at lA lB; omega
            case b3 => obtain ⟨m1, m2, m3, m4, m5, m6, m7, m8, m9, m10, m11⟩ := HM.out; obtain ⟨g1, g2, g3, g4⟩ := HAB.out; have lA := congrArg List.length m1; have lB := congrArg List.length m2; simp only [List.length_append] at lA lB; exact List.length_pos_iff.1 (by omega)
            case b4 => obtain ⟨m1, m2, m3, m4, m5, m6, m7, m8, m9, m10, m11⟩ := HM.out; obtain ⟨g1, g2, g3, g4⟩ := HAB.out; have lA := congrArg List.length m1; have lB := congrArg List.length m2; simp only [List.length_append] at lA lB; exact List.length_pos_iff.1 (by omega)
            case b5 => omega
            case b6 => obtain ⟨m1, m2, m3, m4, m5, m6, m7, m8, m9, m10, m11⟩ := HM.out; obtain ⟨g1, g2, g3, g4⟩ := HAB.out; have lA := congrArg List.length m1; have lB := congrArg List.length m2; simp only [List.length_append] at lA lB; omega
            case b7 => obtain ⟨m1, m2, m3, m4, m5, m6, m7, m8, m9, m10, m11⟩ := HM.out; obtain ⟨g1, g2, g3, g4⟩ := HAB.out; have lA := congrArg List.length m1; have lB := congrArg List.length m2; simp only [List.length_append] at lA lB; omega
            case b8 => obtain ⟨m1, m2, m3, m4, m5, m6, m7, m8, m9, m10, m11⟩ := HM.out; obtain ⟨g1, g2, g3, g4⟩ := HAB.out; have lA := congrArg List.length m1; have lB := congrArg List.length m2; simp only [List.length_append] at lA lB; omega
            rintro en w5 ⟨rfl, d5, hd5, hdl, S5⟩
            have HDL := Lib.hid hdl
            clear hdl
            go_wp2
            go_meet
            exact ⟨d5, by omega, S5, HDL⟩
         case rest =>
          as_aux_lemma =>
           obtain ⟨d3, hd3, S3, H3⟩ := hcut
           clear S2 HCQ
           generalize hwr : wc = wr at S3 ⊢
           clear hwr
           go_upto_region 43 with fail
           go_cut [213] (fun sc wx => ∃ c : Bool, sc = .bool c ∧ CqP c (mid < e) (e < b) ∧ wx = wr)
           case first =>
            as_aux_lemma =>
             by_cases hp : mid < e
             ·
              have hpz : (mid : Int) < (e : Int) := by omega
              by_cases hq : e < b
              ·
               have hqz : (e : Int) < (b : Int) := by omega
               have HC1 : CqP true (mid < e) (e < b) := by unfold CqP; simp [hp, hq]
               go_wp2_with fail
               go_meet
               exact ⟨true, rfl, HC1, rfl⟩
              ·
               have hqz : ¬ ((e : Int) < (b : Int)) := by omega
               have HC1 : CqP false (mid < e) (e < b) := by unfold CqP; simp [hp, hq]
               go_wp2_with fail
               go_meet
               exact ⟨false, rfl, HC1, rfl⟩
             ·
              have hpz : ¬ ((mid : Int) < (e : Int)) := by omega
              have HC1 : CqP false (mid < e) (e < b) := by unfold CqP; simp [hp]
              go_wp2_with fail
              go_meet
              exact ⟨false, rfl, HC1, rfl⟩
           case rest =>
            as_aux_lemma =>
             obtain ⟨cq, rfl, HCQ, rfl⟩ := hcut
             rcases cq with _ | _
             ·
              have hn : ¬ (mid < e ∧ e < b) := fun h => by have := HCQ.2 h; cases this
              go_wp2
              go_end0
              obtain ⟨m1, m2, m3, m4, m5, m6, m7, m8, m9, m10, m11⟩ := HM.out; obtain ⟨g1, g2, g3, g4⟩ := HAB.out; have lA := congrArg List.length m1; have lB := congrArg List.length m2; simp only [List.length_append] at lA lB
              refine ⟨rfl, d3, hd3, ?_, S3.out⟩
              rw [H3.out, m7]
              have : A2 = [] ∨ B2 = [] := by
               by_cases h : mid < e
               ·
                exact .inr (List.eq_nil_of_length_eq_zero (by omega))
               ·
                exact .inl (List.eq_nil_of_length_eq_zero (by omega))
              rcases this with rfl | rfl
              ·
               rw [mrg_nil_left]; simp
              ·
               rw [mrg_nil_right]; simp
             ·
              have hc := HCQ.1 rfl
              have S4 := S3.out
              clear S3
              go_wp2_with fail
              refine Calls.mono (IH.out d3 _ (by omega) S4 (X ++ mrg (ltOf cf) A1 B1) A2 B2 (Z) ?c1 ?c2 ?c3 ?c4 (HM.out.2.2.2.2.2.2.2.2.1) (HM.out.2.2.2.2.2.2.2.2.2.2) _ ?c5 _ _ _ ?c6 ?c7 ?c8) ?_
              case c1 => rw [H3.out]; simp
              case c2 => obtain ⟨m1, m2, m3, m4, m5, m6, m7, m8, m9, m10, m11⟩ := HM.out; obtain ⟨g1, g2, g3, g4⟩ := HAB.out; have lA := congrArg List.length m1; have lB := congrArg List.length m2; simp only [List.length_append] at lA lB; omega
              case c3 => obtain ⟨m1, m2, m3, m4, m5, m6, m7, m8, m9, m10, m11⟩ := HM.out; obtain ⟨g1, g2, g3, g4⟩ := HAB.out; have lA := congrArg List.length m1; have lB := congrArg List.length m2; simp only [List.length_append] at lA lB; exact List.length_pos_iff.1 (by omega)
              case c4 => obtain ⟨m1, m2, m3, m4, m5, m6, m7, m8, m9, m10, m11⟩ := HM.out; obtain ⟨g1, g2, g3, g4⟩ := HAB.out; have lA := congrArg List.length m1; have lB := congrArg List.length m2; simp only [List.length_append] at lA lB; exact List.length_pos_iff.1 (by omega)
              case c5 => omega
              case c6 => obtain ⟨m1, m2, m3, m4, m5, m6, m7, m8, m9, m10, m11⟩ := HM.out; obtain ⟨g1, g2, g3, g4⟩ := HAB.out; have lA := congrArg List.length m1; have lB := congrArg List.length m2; simp only [List.length_append] at lA lB; rw [List.length_append, mrg_length]; omega
              case c7 => obtain ⟨m1, m2, m3, m4, m5, m6, m7, m8, m9, m10, m11⟩ := HM.out; obtain ⟨g1, g2, g3, g4⟩ := HAB.out; have lA := congrArg List.length m1; have lB := congrArg List.length m2; simp only [List.length_append] at lA lB; rw [List.length_append, mrg_length]; omega
              case c8 => obtain ⟨m1, m2, m3, m4, m5, m6, m7, m8, m9, m10, m11⟩ := HM.out; obtain ⟨g1, g2, g3, g4⟩ := HAB.out; have lA := congrArg List.length m1; have lB := congrArg List.length m2; simp only [List.length_append] at lA lB; rw [List.length_append, mrg_length]; omega
              rintro en w5 ⟨rfl, d5, hd5, hdl, S5⟩
              have HDL := Lib.hid hdl
              clear hdl
              go_wp2
              go_end0
              obtain ⟨m1, m2, m3, m4, m5, m6, m7, m8, m9, m10, m11⟩ := HM.out; obtain ⟨g1, g2, g3, g4⟩ := HAB.out; have lA := congrArg List.length m1; have lB := congrArg List.length m2; simp only [List.length_append] at lA lB
              exact ⟨rfl, d5, by omega, by rw [HDL.out, m7]; simp, S5⟩

end Go.Proofs.YtdiaecgpjgdkdaaGreat

namespace Go.Proofs.YtdiaecgpjgdkdaaGreat
open Go.Shelf Go.RowKit Go.Lib Go.Sort

variable {P : Program} {k : Nat} {α : Type} [Inhabited α]

set_option maxHeartbeats 32000000 in
set_option maxRecDepth 1000000 in
theorem sym_bigB (L : StF P k) (enc : α → List Value) (g : Nat) (cb : Array Value) (blk off cap : Nat) (d0 d : Array α) (w0 w : World) (R : RowK enc k w0 blk off d0) (hs : d0.size = d.size) (S : SWK enc k w0 blk off d w) (cf : α → α → Int) (eg : ∀ args w, (callFunc g args).run P w = .ok (.enter g args) w) (hcmp : CmpLays P g cb enc k cf blk off d0.size w0) (hO : Swo (ltOf cf)) (n : Nat) (IH : ∀ (d : Array α) (w : World) (hs : d0.size = d.size) (S : SWK enc k w0 blk off d w) (X A B Z : List α) (hd : d.toList = X ++ (A ++ (B ++ Z))) (hn : A.length + B.length ≤ n) (hA0 : A ≠ []) (hB0 : B ≠ []) (hA : Srt (ltOf cf) A) (hB : Srt (ltOf cf) B) (len : Nat) (hl : len = d.size) (az mz bz : Int) (haz : az = X.length) (hmz : mz = (X.length + A.length : Nat)) (hbz : bz = (X.length + A.length + B.length : Nat)), Calls P 84 #[.slice (some ⟨blk, off, none⟩) len cap, .int .i64 az, .int .i64 mz, .int .i64 bz, .func (.func g) #[] cb] w fun e w' => e = .returned (.tuple #[]) ∧ ∃ d' : Array α, d'.size = d.size ∧ d'.toList = X ++ (mrg (ltOf cf) A B ++ Z) ∧ SWK enc k w0 blk off d' w') (X A B Z : List α) (hd : d.toList = X ++ (A ++ (B ++ Z))) (hn : A.length + B.length ≤ n + 1) (hA2 : 2 ≤ A.length) (hB2 : 2 ≤ B.length) (hA : Srt (ltOf cf) A) (hB : Srt (ltOf cf) B) {a m b : Nat} (ha : a = X.length) (hm : m = a + A.length) (hb : b = m + B.length) (hsz : d.size < 1000000000000) (mid : Nat) (hmid1 : 2 * mid ≤ a + b) (hmid2 : a + b ≤ 2 * mid + 1) (hmm : ¬ mid < m) :
  Calls P 84 #[.slice (some ⟨blk, off, none⟩) d.size cap, .int .i64 a, .int .i64 m, .int .i64 b, .func (.func g) #[] cb] w fun e w' => e = .returned (.tuple #[]) ∧ ∃ d' : Array α, d'.size = d.size ∧ d'.toList = X ++ (mrg (ltOf cf) A B ++ Z) ∧ SWK enc k w0 blk off d' w' := by
 have mixed := L.mixed; have t3 := L.t3; have a3 := L.a3; have z3 := L.z3; have v3 := L.v3; have t4 := L.t4; have a4 := L.a4; have z4 := L.z4; have v4 := L.v4; have tu := L.tu; have au := L.au; have zu := L.zu; have e1 := L.en.1; have e2 := L.en.2.1; have e3 := L.en.2.2.1; have e4 := L.en.2.2.2.1; have e5 := L.en.2.2.2.2; have t22 := L.t22; have a22 := L.a22; have z22 := L.z22; have aE := L.aE; have zE := L.zE
 have hlen := congrArg List.length hd
 simp at hlen
 have S0 : Aside (SWK enc k w0 blk off d w) := S
 have HC : Aside (CmpLays P g cb enc k cf blk off d0.size w0) := hcmp
 have HO := Lib.hid hO
 have HD := Lib.hid hd
 have HS := Lib.hid (show Srt (ltOf cf) A ∧ Srt (ltOf cf) B from ⟨hA, hB⟩)
 have HAB := Lib.hid (show a = X.length ∧ m = a + A.length ∧ b = m + B.length ∧ d.size = X.length + (A.length + (B.length + Z.length)) from ⟨ha, hm, hb, hlen⟩)
 have hbd : b ≤ d.size := by omega
 have hmb : m + 2 ≤ b := by omega
 have ham : a + 2 ≤ m := by omega
 have hnb : b ≤ a + n + 1 := by omega
 have HROT := Lib.hid (fun (w : World) (S : SWK enc k w0 blk off d w) (X A B Z : List α) (hd : d.toList = X ++ (A ++ (B ++ Z))) (hA0 : A ≠ []) (hB0 : B ≠ []) (a m b : Nat) (ha : a = X.length) (hm : m = a + A.length) (hb : b = m + B.length) => rotate_any L enc g cb blk off cap d0 d w0 w R hs S X A B Z hd hA0 hB0 ha hm hb hsz)
 have IH := Lib.hid IH
 have hmid : ((a : Int) + (b : Int)) / 2 = (mid : Int) := by omega
 have hb1 : ((m : Int) - (a : Int) == 1) = false := by simp; omega
 have hb2 : ((b : Int) - (m : Int) == 1) = false := by simp; omega
 clear S hd hlen hA hB hcmp hO hn hA2 hB2 ha hm hb
 have hz : ¬ (mid : Int) < (m : Int) := by omega
 obtain ⟨lo, hlo⟩ : ∃ lo, lo = a := ⟨_, rfl⟩
 obtain ⟨hi, hhi⟩ : ∃ hi, hi = m := ⟨_, rfl⟩
 go_enter L.FsymMerge, Tryz.ntmps84
 go_wp2
 go_loopg [20, 21] (hi - lo) (fun kx s20 s21 wr => ∃ i j : Nat, s20 = .int .i64 i ∧ s21 = .int .i64 j ∧ lo ≤ i ∧ i ≤ j ∧ j ≤ hi ∧ j - i ≤ kx ∧ Aside (SWK enc k w0 blk off d wr) ∧ Hid ((i = lo ∨ ltOf cf d[mid + m - i]! d[i - 1]! = false) ∧ (j = hi ∨ ltOf cf d[mid + m - 1 - j]! d[j]! = true)))
 case atStart => exact ⟨lo, hi, by (rw [hlo]), by (rw [hhi]), by omega, by omega, by omega, Nat.le_refl _, S0, Lib.hid ⟨.inl rfl, .inl rfl⟩⟩
 case round =>
  clear S0
  obtain ⟨i, j, rfl, rfl, hmi, hij, hjb, hkx, S1, HI⟩ := hrel
  by_cases hlt : i < j
  ·
   have hpc : ((i : Int) + (j : Int)) / 2 ≤ (mid : Int) + (m : Int) - 1 := by omega
   cases hL : ltOf cf d[mid + m - 1 - (i + j) / 2]! d[(i + j) / 2]! with
   | false =>
    have ea1 : ((mid : Int) + (m : Int) - 1 - ((i : Int) + (j : Int)) / 2).toNat = mid + m - 1 - (i + j) / 2 := by omega
    have pa1 : (0 : Int) ≤ (mid : Int) + (m : Int) - 1 - ((i : Int) + (j : Int)) / 2 := by omega
    have ba1 : (mid : Int) + (m : Int) - 1 - ((i : Int) + (j : Int)) / 2 < (d.size : Int) := by omega
    have ra1 : IntKind.i64.wrap ((mid : Int) + (m : Int) - 1 - ((i : Int) + (j : Int)) / 2) = (mid : Int) + (m : Int) - 1 - ((i : Int) + (j : Int)) / 2 := by rw [IntKind.wrap_i64]; omega
    have ec1 : (((i : Int) + (j : Int)) / 2).toNat = (i + j) / 2 := by omega
    have pc1 : (0 : Int) ≤ ((i : Int) + (j : Int)) / 2 := by omega
    have bc1 : ((i : Int) + (j : Int)) / 2 < (d.size : Int) := by omega
    have rc1 : IntKind.i64.wrap (((i : Int) + (j : Int)) / 2) = ((i : Int) + (j : Int)) / 2 := by rw [IntKind.wrap_i64]; omega
    obtain ⟨x1, hx1⟩ : ∃ x, x = d[mid + m - 1 - (i + j) / 2]! := ⟨_, rfl⟩
    obtain ⟨y1, hy1⟩ : ∃ x, x = d[(i + j) / 2]! := ⟨_, rfl⟩
    have l1a := S1.out.ld R (by omega) P (mid + m - 1 - (i + j) / 2) (by omega)
    have l1b := S1.out.ld R (by omega) P ((i + j) / 2) (by omega)
    rw [← hx1] at l1a
    rw [← hy1] at l1b
    have hc1 := S1.out.cmp HC.out (by omega) x1 y1
    have hv1 : ¬ cf x1 y1 < 0 := by rw [hx1, hy1]; exact of_decide_eq_false hL
    have hd1 : decide (cf x1 y1 < 0) = false := decide_eq_false hv1
    clear hx1 hy1
    go_wp2_with fail
    go_quiet_grown (first | (go_at_fn g; refine Calls.grown_of (hc1 _ _)))
    have S3 : Aside (SWK enc k w0 blk off d (grow (wr.drewN nq) osq)) := S1.out.grown nq osq
    clear l1a l1b hc1 S1
    generalize grow (wr.drewN nq) osq = w3 at S3 ⊢
    clear nq osq
    go_wp2
    go_roundg (j - ((i + j) / 2 + 1))
    case measure => omega
    case rel => exact ⟨(i + j) / 2 + 1, j, by rw [show ((i : Int) + (j : Int)) / 2 + 1 = (((i + j) / 2 + 1 : Nat) : Int) by omega], rfl, by omega, by omega, hjb, Nat.le_refl _, S3, Lib.hid ⟨.inr (by rw [show mid + m - ((i + j) / 2 + 1) = mid + m - 1 - (i + j) / 2 by omega]; simpa using hL), HI.out.2⟩⟩
   | true =>
    have ea2 : ((mid : Int) + (m : Int) - 1 - ((i : Int) + (j : Int)) / 2).toNat = mid + m - 1 - (i + j) / 2 := by omega
    have pa2 : (0 : Int) ≤ (mid : Int) + (m : Int) - 1 - ((i : Int) + (j : Int)) / 2 := by omega
    have ba2 : (mid : Int) + (m : Int) - 1 - ((i : Int) + (j : Int)) / 2 < (d.size : Int) := by omega
    have ra2 : IntKind.i64.wrap ((mid : Int) + (m : Int) - 1 - ((i : Int) + (j : Int)) / 2) = (mid : Int) + (m : Int) - 1 - ((i : Int) + (j : Int)) / 2 := by rw [IntKind.wrap_i64]; omega
    have ec2 : (((i : Int) + (j : Int)) / 2).toNat = (i + j) / 2 := by omega
    have pc2 : (0 : Int) ≤ ((i : Int) + (j : Int)) / 2 := by omega
    have bc2 : ((i : Int) + (j : Int)) / 2 < (d.size : Int) := by omega
    have rc2 : IntKind.i64.wrap (((i : Int) + (j : Int)) / 2) = ((i : Int) + (j : Int)) / 2 := by rw [IntKind.wrap_i64]; omega
    obtain ⟨x2, hx2⟩ : ∃ x, x = d[mid + m - 1 - (i + j) / 2]! := ⟨_, rfl⟩
    obtain ⟨y2, hy2⟩ : ∃ x, x = d[(i + j) / 2]! := ⟨_, rfl⟩
    have l2a := S1.out.ld R (by omega) P (mid + m - 1 - (i + j) / 2) (by omega)
    have l2b := S1.out.ld R (by omega) P ((i + j) / 2) (by omega)
    rw [← hx2] at l2a
    rw [← hy2] at l2b
    have hc2 := S1.out.cmp HC.out (by omega) x2 y2
    have hv2 : cf x2 y2 < 0 := by rw [hx2, hy2]; exact of_decide_eq_true hL
    have hd2 : decide (cf x2 y2 < 0) = true := decide_eq_true hv2
    clear hx2 hy2
    go_wp2_with fail
    go_quiet_grown (first | (go_at_fn g; refine Calls.grown_of (hc2 _ _)))
    have S3 : Aside (SWK enc k w0 blk off d (grow (wr.drewN nq) osq)) := S1.out.grown nq osq
    clear l2a l2b hc2 S1
    generalize grow (wr.drewN nq) osq = w3 at S3 ⊢
    clear nq osq
    go_wp2
    go_roundg ((i + j) / 2 - i)
    case measure => omega
    case rel => exact ⟨i, (i + j) / 2, rfl, by rw [show ((i : Int) + (j : Int)) / 2 = (((i + j) / 2 : Nat) : Int) by omega], hmi, by omega, by omega, Nat.le_refl _, S3, Lib.hid ⟨HI.out.1, .inr hL⟩⟩
  ·
   obtain rfl : i = j := by omega
   obtain ⟨e, he⟩ : ∃ e, e = mid + m - i := ⟨_, rfl⟩
   have hez : (mid : Int) + (m : Int) - (i : Int) = (e : Int) := by omega
   have he1 : m ≤ e := by omega
   have he2 : e ≤ b := by omega
   have hei : e + i = mid + m := by omega
   obtain ⟨A1, A2, B1, B2, HM⟩ : ∃ A1 A2 B1 B2, Hid (A = A1 ++ A2 ∧ B = B1 ++ B2 ∧ A1.length = i - a ∧ A2.length = m - i ∧ B1.length = e - m ∧ B2.length = b - e ∧ mrg (ltOf cf) A B = mrg (ltOf cf) A1 B1 ++ mrg (ltOf cf) A2 B2 ∧ Srt (ltOf cf) A1 ∧ Srt (ltOf cf) A2 ∧ Srt (ltOf cf) B1 ∧ Srt (ltOf cf) B2) := by
    obtain ⟨g1, g2, g3, g4⟩ := HAB.out
    obtain ⟨hA, hB⟩ := HS.out
    obtain ⟨q1, q2⟩ := HI.out
    have hsp := sym_split HO.out (dk := d) (X := X) (A := A) (B := B) (Z := Z) HD.out hA hB (a := a) (m := m) (b := b) (s := i) (e := e) g1 g2 g3 (by omega) (by omega) he1 he2
     (by
       rcases q1 with q1 | q1
       ·
        exact .inl (by omega)
       ·
        rw [he]; exact .inr (.inr q1))
     (by
       rcases q2 with q2 | q2
       ·
        exact .inl (by omega)
       ·
        rw [he, show mid + m - i - 1 = mid + m - 1 - i by omega]; exact .inr (.inr q2))
    refine ⟨A.take (i - a), A.drop (i - a), B.take (e - m), B.drop (e - m), Lib.hid ⟨(List.take_append_drop _ _).symm, (List.take_append_drop _ _).symm, by simp; omega, by simp; omega, by simp; omega, by simp; omega, hsp, ?_, ?_, ?_, ?_⟩⟩
    ·
     exact List.Pairwise.sublist (List.take_sublist _ _) hA
    ·
     exact List.Pairwise.sublist (List.drop_sublist _ _) hA
    ·
     exact List.Pairwise.sublist (List.take_sublist _ _) hB
    ·
     exact List.Pairwise.sublist (List.drop_sublist _ _) hB
   clear HI he
   go_upto_region 39 with fail
   go_cut [185] (fun sc wx => ∃ c : Bool, sc = .bool c ∧ CqP c (i < m) (m < e) ∧ wx = wr)
   case first =>
    as_aux_lemma =>
     by_cases hp : i < m
     ·
      have hpz : (i : Int) < (m : Int) := by omega
      by_cases hq : m < e
      ·
       have hqz : (m : Int) < (e : Int) := by omega
       have HC1 : CqP true (i < m) (m < e) := by unfold CqP; simp [hp, hq]
       go_wp2_with fail
       go_meet
       exact ⟨true, rfl, HC1, rfl⟩
      ·
       have hqz : ¬ ((m : Int) < (e : Int)) := by omega
       have HC1 : CqP false (i < m) (m < e) := by unfold CqP; simp [hp, hq]
       go_wp2_with fail
       go_meet
       exact ⟨false, rfl, HC1, rfl⟩
     ·
      have hpz : ¬ ((i : Int) < (m : Int)) := by omega
      have HC1 : CqP false (i < m) (m < e) := by unfold CqP; simp [hp]
      go_wp2_with fail
      go_meet
      exact ⟨false, rfl, HC1, rfl⟩
   case rest =>
    as_aux_lemma =>
     obtain ⟨cq, rfl, HCQ, rfl⟩ := hcut
     go_upto_if 185 with fail
     go_cut [] (fun wx => ∃ d2 : Array α, d2.size = d.size ∧ Aside (SWK enc k w0 blk off d2 wx) ∧ Hid (d2.toList = X ++ (A1 ++ (B1 ++ (A2 ++ (B2 ++ Z))))))
     case first =>
      as_aux_lemma =>
       rcases cq with _ | _
       ·
        have hn : ¬ (i < m ∧ m < e) := fun h => by have := HCQ.2 h; cases this
        go_wp2
        go_meet
        refine ⟨d, rfl, S1, Lib.hid ?_⟩
        obtain ⟨m1, m2, m3, m4, m5, m6, m7, m8, m9, m10, m11⟩ := HM.out; obtain ⟨g1, g2, g3, g4⟩ := HAB.out; have lA := congrArg List.length m1; have lB := congrArg List.length m2; simp only [List.length_append] at lA lB
        rw [HD.out, m1, m2]
        have : A2 = [] ∨ B1 = [] := by
         by_cases h : i < m
         ·
          exact .inr (List.eq_nil_of_length_eq_zero (by omega))
         ·
          exact .inl (List.eq_nil_of_length_eq_zero (by omega))
        rcases this with rfl | rfl <;> simp
       ·
        have hc := HCQ.1 rfl
        have S4 := S1.out
        clear S1
        go_wp2_with fail
        refine Calls.mono (HROT.out _ S4 (X ++ A1) A2 B1 (B2 ++ Z) ?a1 ?a2 ?a3 i m e ?a4 ?a5 ?a6) ?_
        case a1 => obtain ⟨m1, m2, m3, m4, m5, m6, m7, m8, m9, m10, m11⟩ := HM.out; obtain ⟨g1, g2, g3, g4⟩ := HAB.out; have lA := congrArg List.length m1; have lB := congrArg List.length m2; simp only [List.length_append] at lA lB; rw [HD.out, m1, m2]; simp
        case a2 => obtain ⟨m1, m2, m3, m4, m5, m6, m7, m8, m9, m10, m11⟩ := HM.out; obtain ⟨g1, g2, g3, g4⟩ := HAB.out; have lA := congrArg List.length m1; have lB := congrArg List.length m2; simp only [List.length_append] at lA lB; exact List.length_pos_iff.1 (by omega)
        case a3 => obtain ⟨m1, m2, m3, m4, m5, m6, m7, m8, m9, m10, m11⟩ := HM.out; obtain ⟨g1, g2, g3, g4⟩ := HAB.out; have lA := congrArg List.length m1; have lB := congrArg List.length m2; simp only [List.length_append] at lA lB; exact List.length_pos_iff.1 (by omega)
        case a4 => obtain ⟨m1, m2, m3, m4, m5, m6, m7, m8, m9, m10, m11⟩ := HM.out; obtain ⟨g1, g2, g3, g4⟩ := HAB.out; have lA := congrArg List.length m1; have lB := congrArg List.length m2; simp only [List.length_append] at lA lB; rw [List.length_append]; omega
        case a5 => obtain ⟨m1, m2, m3, m4, m5, m6, m7, m8, m9, m10, m11⟩ := HM.out; obtain ⟨g1, g2, g3, g4⟩ := HAB.out; have lA := congrArg List.length m1; have lB := congrArg List.length m2; simp only [List.length_append] at lA lB; omega
        case a6 => obtain ⟨m1, m2, m3, m4, m5, m6, m7, m8, m9, m10, m11⟩ := HM.out; obtain ⟨g1, g2, g3, g4⟩ := HAB.out; have lA := congrArg List.length m1; have lB := congrArg List.length m2; simp only [List.length_append] at lA lB; omega
        rintro en w5 ⟨rfl, d5, hd5, hdl, S5⟩
        have HDL := Lib.hid hdl
        clear hdl
        go_wp2
        go_meet
        exact ⟨d5, hd5, S5, Lib.hid (by rw [HDL.out]; simp)⟩
     case rest =>
      as_aux_lemma =>
       obtain ⟨d2, hd2, S2, H2⟩ := hcut
       clear S1 HCQ
       generalize hwr : wc = wr at S2 ⊢
       clear hwr
       go_upto_region 41 with fail
       go_cut [199] (fun sc wx => ∃ c : Bool, sc = .bool c ∧ CqP c (a < i) (i < mid) ∧ wx = wr)
       case first =>
        as_aux_lemma =>
         by_cases hp : a < i
         ·
          have hpz : (a : Int) < (i : Int) := by omega
          by_cases hq : i < mid
          ·
           have hqz : (i : Int) < (mid : Int) := by omega
           have HC1 : CqP true (a < i) (i < mid) := by unfold CqP; simp [hp, hq]
           go_wp2_with fail
           go_meet
           exact ⟨true, rfl, HC1, rfl⟩
          ·
           have hqz : ¬ ((i : Int) < (mid : Int)) := by omega
           have HC1 : CqP false (a < i) (i < mid) := by unfold CqP; simp [hp, hq]
           go_wp2_with fail
           go_meet
           exact ⟨false, rfl, HC1, rfl⟩
         ·
          have hpz : ¬ ((a : Int) < (i : Int)) := by omega
          have HC1 : CqP false (a < i) (i < mid) := by unfold CqP; simp [hp]
          go_wp2_with fail
          go_meet
          exact ⟨false, rfl, HC1, rfl⟩
       case rest =>
        as_aux_lemma =>
         obtain ⟨cq, rfl, HCQ, rfl⟩ := hcut
         go_upto_if 199 with fail
         go_cut [] (fun wx => ∃ d3 : Array α, d3.size = d.size ∧ Aside (SWK enc k w0 blk off d3 wx) ∧ Hid (d3.toList = X ++ (mrg (ltOf cf) A1 B1 ++ (A2 ++ (B2 ++ Z)))))
         case first =>
          as_aux_lemma =>
           rcases cq with _ | _
           ·
            have hn : ¬ (a < i ∧ i < mid) := fun h => by have := HCQ.2 h; cases this
            go_wp2
            go_meet
            refine ⟨d2, hd2, S2, Lib.hid ?_⟩
            obtain ⟨m1, m2, m3, m4, m5, m6, m7, m8, m9, m10, m11⟩ := HM.out; obtain ⟨g1, g2, g3, g4⟩ := HAB.out; have lA := congrArg List.length m1; have lB := congrArg List.length m2; simp only [List.length_append] at lA lB
            rw [H2.out]
            have : A1 = [] ∨ B1 = [] := by
             by_cases h : a < i
             ·
              exact .inr (List.eq_nil_of_length_eq_zero (by omega))
             ·
              exact .inl (List.eq_nil_of_length_eq_zero (by omega))
            rcases this with rfl | rfl
            ·
             rw [mrg_nil_left]; simp
            ·
             rw [mrg_nil_right]; simp
           ·
            have hc := HCQ.1 rfl
            have S4 := S2.out
            clear S2
            go_wp2_with fail
            refine Calls.mono (IH.out d2 _ (by omega) S4 (X) A1 B1 (A2 ++ (B2 ++ Z)) ?b1 ?b2 ?b3 ?b4 (HM.out.2.2.2.2.2.2.2.1) (HM.out.2.2.2.2.2.2.2.2.2.1) _ ?b5 _ _ _ ?b6 ?b7 ?b8) ?_
            case b1 => rw [H2.out]
            case b2 => obtain ⟨m1, m2, m3, m4, m5, m6, m7, m8, m9, m10, m11⟩ := HM.out; obtain ⟨g1, g2, g3, g4⟩ := HAB.out; have lA := congrArg List.length m1; have lB := congrArg List.length m2; simp only [List.length_append] at lA lB; omega
            case b3 => obtain ⟨m1, m2, m3, m4, m5, m6, m7, m8, m9, m10, m11⟩ := HM.out; obtain ⟨g1, g2, g3, g4⟩ := HAB.out; have lA := congrArg List.length m1; have lB := congrArg List.length m2; simp only [List.length_append] at lA lB; exact List.length_pos_iff.1 (by omega)
            case b4 => obtain ⟨m1, m2, m3, m4, m5, m6, m7, m8, m9, m10, m11⟩ := HM.out; obtain ⟨g1, g2, g3, g4⟩ := HAB.out; have lA := congrArg List.length m1; have lB := congrArg List.length m2; simp only [List.length_append] at lA lB; exact List.length_pos_iff.1 (by omega)
            case b5 => omega
            case b6 => obtain ⟨m1, m2, m3, m4, m5, m6, m7, m8, m9, m10, m11⟩ := HM.out; obtain ⟨g1, g2, g3, g4⟩ := HAB.out; have lA := congrArg List.length m1; have lB := congrArg List.length m2; simp only [List.length_append] at lA lB; omega
            case b7 => obtain ⟨m1, m2, m3, m4, m5, m6, m7, m8, m9, m10, m11⟩ := HM.out; obtain ⟨g1, g2, g3, g4⟩ := HAB.out; have lA := congrArg List.length m1; have lB := congrArg List.length m2; simp only [List.length_append] at lA lB; omega
            case b8 => obtain ⟨m1, m2, m3, m4, m5, m6, m7, m8, m9, m10, m11⟩ := HM.out; obtain ⟨g1, g2, g3, g4⟩ := HAB.out; have lA := congrArg List.length m1; have lB := congrArg List.length m2; simp only [List.length_append] at lA lB; omega
            rintro en w5 ⟨rfl, d5, hd5, hdl, S5⟩
            have HDL := Lib.hid hdl
            clear hdl
            go_wp2
            go_meet
            exact ⟨d5, by omega, S5, HDL⟩
         case rest =>
          as_aux_lemma =>
           obtain ⟨d3, hd3, S3, H3⟩ := hcut
           clear S2 HCQ
           generalize hwr : wc = wr at S3 ⊢
           clear hwr
           go_upto_region 43 with fail
           go_cut [213] (fun sc wx => ∃ c : Bool, sc = .bool c ∧ CqP c (mid < e) (e < b) ∧ wx = wr)
           case first =>
            as_aux_lemma =>
             by_cases hp : mid < e
             ·
              have hpz : (mid : Int) < (e : Int) := by omega
              by_cases hq : e < b
              ·
               have hqz : (e : Int) < (b : Int) := by omega
               have HC1 : CqP true (mid < e) (e < b) := by unfold CqP; simp [hp, hq]
               go_wp2_with fail
               go_meet
               exact ⟨true, rfl, HC1, rfl⟩
              ·
               have hqz : ¬ ((e : Int) < (b : Int)) := by omega
               have HC1 : CqP false (mid < e) (e < b) := by unfold CqP; simp [hp, hq]
               go_wp2_with fail
               go_meet
               exact ⟨false, rfl, HC1, rfl⟩
             ·
              have hpz : ¬ ((mid : Int) < (e : Int)) := by omega
              have HC1 : CqP false (mid < e) (e < b) := by unfold CqP; simp [hp]
              go_wp2_with fail
              go_meet
              exact ⟨false, rfl, HC1, rfl⟩
           case rest =>
            as_aux_lemma =>
             obtain ⟨cq, rfl, HCQ, rfl⟩ := hcut
             rcases cq with _ | _
             ·
              have hn : ¬ (mid < e ∧ e < b) := fun h => by have := HCQ.2 h; cases this
              go_wp2
              go_end0
              obtain ⟨m1, m2, m3, m4, m5, m6, m7, m8, m9, m10, m11⟩ := HM.out; obtain ⟨g1, g2, g3, g4⟩ := HAB.out; have lA := congrArg List.length m1; have lB := congrArg List.length m2; simp only [List.length_append] at lA lB
              refine ⟨rfl, d3, hd3, ?_, S3.out⟩
              rw [H3.out, m7]
              have : A2 = [] ∨ B2 = [] := by
               by_cases h : mid < e
               ·
                exact .inr (List.eq_nil_of_length_eq_zero (by omega))
               ·
                exact .inl (List.eq_nil_of_length_eq_zero (by omega))
              rcases this with rfl | rfl
              ·
               rw [mrg_nil_left]; simp
              ·
               rw [mrg_nil_right]; simp
             ·
              have hc := HCQ.1 rfl
              have S4 := S3.out
              clear S3
              go_wp2_with fail
              refine Calls.mono (IH.out d3 _ (by omega) S4 (X ++ mrg (ltOf cf) A1 B1) A2 B2 (Z) ?c1 ?c2 ?c3 ?c4 (HM.out.2.2.2.2.2.2.2.2.1) (HM.out.2.2.2.2.2.2.2.2.2.2) _ ?c5 _ _ _ ?c6 ?c7 ?c8) ?_
              case c1 => rw [H3.out]; simp
              case c2 => obtain ⟨m1, m2, m3, m4, m5, m6, m7, m8, m9, m10, m11⟩ := HM.out; obtain ⟨g1, g2, g3, g4⟩ := HAB.out; have lA := congrArg List.length m1; have lB := congrArg List.length m2; simp only [List.length_append] at lA lB; omega
              case c3 => obtain ⟨m1, m2, m3, m4, m5, m6, m7, m8, m9, m10, m11⟩ := HM.out; obtain ⟨g1, g2, g3, g4⟩ := HAB.out; have lA := congrArg List.length m1; have lB := congrArg List.length m2; simp only [List.length_append] at lA lB; exact List.length_pos_iff.1 (by omega)
              case c4 => obtain ⟨m1, m2, m3, m4, m5, m6, m7, m8, m9, m10, m11⟩ := HM.out; obtain ⟨g1, g2, g3, g4⟩ := HAB.out; have lA := congrArg List.length m1; have lB := congrArg List.length m2; simp only [List.length_append] at lA lB; exact List.length_pos_iff.1 (by omega)
              case c5 => omega
              case c6 => obtain ⟨m1, m2, m3, m4, m5, m6, m7, m8, m9, m10, m11⟩ := HM.out; obtain ⟨g1, g2, g3, g4⟩ := HAB.out; have lA := congrArg List.length m1; have lB := congrArg List.length m2; simp only [List.length_append] at lA lB; rw [List.length_append, mrg_length]; omega
              case c7 => obtain ⟨m1, m2, m3, m4, m5, m6, m7, m8, m9, m10, m11⟩ := HM.out; obtain ⟨g1, g2, g3, g4⟩ := HAB.out; have lA := congrArg List.length m1; have lB := congrArg List.length m2; simp only [List.length_append] at lA lB; rw [List.length_append, mrg_length]; omega
              case c8 => obtain ⟨m1, m2, m3, m4, m5, m6, m7, m8, m9, m10, m11⟩ := HM.out; obtain ⟨g1, g2, g3, g4⟩ := HAB.out; have lA := congrArg List.length m1; have lB := congrArg List.length m2; simp only [List.length_append] at lA lB; rw [List.length_append, mrg_length]; omega
              rintro en w5 ⟨rfl, d5, hd5, hdl, S5⟩
              have HDL := Lib.hid hdl
              clear hdl
              go_wp2
              go_end0
              obtain ⟨m1, m2, m3, m4, m5, m6, m7, m8, m9, m10, m11⟩ := HM.out; obtain ⟨g1, g2, g3, g4⟩ := HAB.out; have lA := congrArg List.length m1; have lB := congrArg List.length m2; simp only [List.length_append] at lA lB
              exact ⟨rfl, d5, by omega, by rw [HDL.out, m7]; simp, S5⟩

end Go.Proofs.YtdiaecgpjgdkdaaGreat

namespace Go.Proofs.YtdiaecgpjgdkdaaGreat
open Go.Shelf Go.RowKit Go.Lib Go.Sort

variable {P : Program} {k : Nat} {α : Type} [Inhabited α]

theorem symMerge_any (L : StF P k) (enc : α → List Value) (g : Nat) (cb : Array Value) (blk off cap : Nat) (d0 : Array α) (w0 : World) (R : RowK enc k w0 blk off d0) (cf : α → α → Int) (eg : ∀ args w, (callFunc g args).run P w = .ok (.enter g args) w) (hcmp : CmpLays P g cb enc k cf blk off d0.size w0) (hO : Swo (ltOf cf)) (hsz : d0.size < 1000000000000) (n : Nat) :
  ∀ (d : Array α) (w : World) (hs : d0.size = d.size) (S : SWK enc k w0 blk off d w) (X A B Z : List α) (hd : d.toList = X ++ (A ++ (B ++ Z))) (hn : A.length + B.length ≤ n) (hA0 : A ≠ []) (hB0 : B ≠ []) (hA : Srt (ltOf cf) A) (hB : Srt (ltOf cf) B) (len : Nat) (hl : len = d.size) (az mz bz : Int) (haz : az = X.length) (hmz : mz = (X.length + A.length : Nat)) (hbz : bz = (X.length + A.length + B.length : Nat)), Calls P 84 #[.slice (some ⟨blk, off, none⟩) len cap, .int .i64 az, .int .i64 mz, .int .i64 bz, .func (.func g) #[] cb] w fun e w' => e = .returned (.tuple #[]) ∧ ∃ d' : Array α, d'.size = d.size ∧ d'.toList = X ++ (mrg (ltOf cf) A B ++ Z) ∧ SWK enc k w0 blk off d' w' := by
 induction n with
 | zero =>
  intro d w hs S X A B Z hd hn hA0
  have := List.length_pos_iff.2 hA0
  omega
 | succ n ih =>
  intro d w hs S X A B Z hd hn hA0 hB0 hA hB len hl az mz bz haz hmz hbz
  subst hl haz hmz hbz
  have p1 := List.length_pos_iff.2 hA0
  have p2 := List.length_pos_iff.2 hB0
  by_cases h12 : A.length = 1 ∨ (¬ A.length = 1 ∧ B.length = 1)
  ·
   exact sym12 L enc g cb blk off cap d0 d w0 w R hs S cf eg hcmp hO X A B Z hd hA0 hB0 hA hB h12 rfl rfl rfl (by omega)
  ·
   obtain ⟨mid, hm1, hm2⟩ : ∃ mid : Nat, 2 * mid ≤ X.length + (X.length + A.length + B.length) ∧ X.length + (X.length + A.length + B.length) ≤ 2 * mid + 1 := ⟨(X.length + (X.length + A.length + B.length)) / 2, by omega, by omega⟩
   by_cases hmm : mid < X.length + A.length
   ·
    exact sym_bigA L enc g cb blk off cap d0 d w0 w R hs S cf eg hcmp hO n ih X A B Z hd hn (by omega) (by omega) hA hB rfl rfl rfl (by omega) mid hm1 hm2 hmm
   ·
    exact sym_bigB L enc g cb blk off cap d0 d w0 w R hs S cf eg hcmp hO n ih X A B Z hd hn (by omega) (by omega) hA hB rfl rfl rfl (by omega) mid hm1 hm2 hmm
theorem ins_z (L : StF P k) (enc : α → List Value) (g : Nat) (cb : Array Value) (blk off cap : Nat) (d0 d : Array α) (w0 w : World) (R : RowK enc k w0 blk off d0) (hs : d0.size = d.size) (S : SWK enc k w0 blk off d w) (cf : α → α → Int) (eg : ∀ args w, (callFunc g args).run P w = .ok (.enter g args) w) (hcmp : CmpLays P g cb enc k cf blk off d0.size w0) (hO : Swo (ltOf cf)) (X U Z : List α) (hd : d.toList = X ++ (U ++ Z)) (len : Nat) (hl : len = d.size) (az bz : Int) (haz : az = X.length) (hbz : bz = (X.length + U.length : Nat)) (hsz : d.size < 1000000000000) :
  Calls P 83 #[.slice (some ⟨blk, off, none⟩) len cap, .int .i64 az, .int .i64 bz, .func (.func g) #[] cb] w fun e w' => e = .returned (.tuple #[]) ∧ ∃ d' : Array α, d'.size = d.size ∧ d'.toList = X ++ (isort (ltOf cf) U ++ Z) ∧ SWK enc k w0 blk off d' w' := by
 subst hl haz hbz
 exact ins_any L enc g cb blk off cap d0 d w0 w R hs S cf eg hcmp hO X U Z hd rfl rfl hsz

set_option maxHeartbeats 8000000 in
set_option maxRecDepth 1000000 in
theorem stable_any (L : StF P k) (enc : α → List Value) (g : Nat) (cb : Array Value) (blk off cap : Nat) (d0 d : Array α) (w0 w : World) (R : RowK enc k w0 blk off d0) (hs : d0.size = d.size) (S : SWK enc k w0 blk off d w) (cf : α → α → Int) (eg : ∀ args w, (callFunc g args).run P w = .ok (.enter g args) w) (hcmp : CmpLays P g cb enc k cf blk off d0.size w0) (hO : Swo (ltOf cf)) (hsz : d.size < 1000000000000) :
  Calls P 44 #[.slice (some ⟨blk, off, none⟩) d.size cap, .int .i64 d.size, .func (.func g) #[] cb] w fun e w' => e = .returned (.tuple #[]) ∧ ∃ d' : Array α, d'.size = d.size ∧ d'.toList = isort (ltOf cf) d.toList ∧ SWK enc k w0 blk off d' w' := by
 have mixed := L.mixed; have t3 := L.t3; have a3 := L.a3; have z3 := L.z3; have v3 := L.v3; have t4 := L.t4; have a4 := L.a4; have z4 := L.z4; have v4 := L.v4; have tu := L.tu; have au := L.au; have zu := L.zu; have e1 := L.en.1; have e2 := L.en.2.1; have e3 := L.en.2.2.1; have e4 := L.en.2.2.2.1; have e5 := L.en.2.2.2.2; have t22 := L.t22; have a22 := L.a22; have z22 := L.z22; have aE := L.aE; have zE := L.zE
 have S0 : Aside (SWK enc k w0 blk off d w) := S
 have HINS := Lib.hid (fun (dk : Array α) (hk : d0.size = dk.size) (hk2 : dk.size < 1000000000000) (w : World) (S : SWK enc k w0 blk off dk w) (X U Z : List α) (hd : dk.toList = X ++ (U ++ Z)) (len : Nat) (hl : len = dk.size) (az bz : Int) (haz : az = X.length) (hbz : bz = (X.length + U.length : Nat)) => ins_z L enc g cb blk off cap d0 dk w0 w R hk S cf eg hcmp hO X U Z hd len hl az bz haz hbz hk2)
 have HSYM := Lib.hid (fun (n : Nat) => symMerge_any L enc g cb blk off cap d0 w0 R cf eg hcmp hO (by omega) n)
 have HSO := Lib.hid (fun U => isort_srt hO U)
 have HAP := Lib.hid (fun U V => isort_append hO U V)
 obtain ⟨D, hD⟩ : ∃ D, D = d.toList := ⟨_, rfl⟩
 have HD := Lib.hid (show D.length = d.size by rw [hD]; simp)
 have HD0 := Lib.hid hD
 rw [← hD]
 clear S hD hcmp hO eg
 generalize hn : d.size = n at HD hsz ⊢
 have HN := Lib.hid hn
 clear hn
 go_enter L.Fstable, Tryz.ntmps44
 go_wp2
 go_loopg [7, 8] (n + 1) (fun kx s7 s8 wr => ∃ (a q : Nat) (dk : Array α), s7 = .int .i64 a ∧ s8 = .int .i64 ((a : Int) + 20) ∧ a ≤ n ∧ n + 1 - a ≤ kx ∧ dk.size = n ∧ Aside (SWK enc k w0 blk off dk wr) ∧ Hid (a = q * 20 ∧ dk.toList = chunkS (ltOf cf) 20 (D.take a) ++ D.drop a))
 case atStart => exact ⟨0, 0, d, rfl, by first | rfl | go_num | simp, by omega, Nat.le_refl _, HN.out, S0, Lib.hid ⟨rfl, by rw [List.take_zero, chunkS_end (by simp), isort_nil, ← HD0.out]; rfl⟩⟩
 case round =>
  clear S0
  obtain ⟨a, q, dk, rfl, rfl, han, hkx, hds, S1, HI⟩ := hrel
  by_cases hlt : a + 20 ≤ n
  ·
   have hz : (a : Int) + 20 ≤ (n : Int) := by omega
   have S2 := S1.out
   clear S1
   go_wp2_with fail
   refine Calls.mono (HINS.out dk (by have := HN.out; omega) (by omega) _ S2 (chunkS (ltOf cf) 20 (D.take a)) ((D.drop a).take 20) (D.drop (a + 20)) ?a1 _ ?a2 _ _ ?a3 ?a4) ?_
   case a1 => rw [HI.out.2, ← List.drop_drop, List.take_append_drop]
   case a2 => exact hds.symm
   case a3 => rw [chunkS_length, List.length_take]; have := HD.out; omega
   case a4 => rw [chunkS_length, List.length_take, List.length_take, List.length_drop]; have := HD.out; omega
   rintro en w2 ⟨rfl, d2, hd2, hdl, S3⟩
   have HDL := Lib.hid hdl
   have S4 : Aside (SWK enc k w0 blk off d2 w2) := S3
   clear hdl S3 S2
   go_wp2
   go_roundg (n + 1 - (a + 20))
   case measure => omega
   case rel =>
    refine ⟨a + 20, q + 1, d2, by go_num, by first | rfl | go_num | (congr 1; omega), by omega, Nat.le_refl _, by omega, S4, Lib.hid ⟨by have := HI.out.1; omega, ?_⟩⟩
    have hL := HD.out
    rw [HDL.out, show D.take (a + 20) = D.take a ++ (D.drop a).take 20 from List.take_add, chunkS_append (by omega) q _ _ (by rw [List.length_take]; have := HI.out.1; omega), chunkS_end (bs := 20) (l := (D.drop a).take 20) (by simp; omega)]
    simp
  ·
   have hz : ¬ ((a : Int) + 20 ≤ (n : Int)) := by omega
   have S2 := S1.out
   clear S1
   go_wp2_with fail
   refine Calls.mono (HINS.out dk (by have := HN.out; omega) (by omega) _ S2 (chunkS (ltOf cf) 20 (D.take a)) (D.drop a) [] ?b1 _ ?b2 _ _ ?b3 ?b4) ?_
   case b1 => rw [HI.out.2]; simp
   case b2 => exact hds.symm
   case b3 => rw [chunkS_length, List.length_take]; have := HD.out; omega
   case b4 => rw [chunkS_length, List.length_take, List.length_drop]; have := HD.out; omega
   rintro en w2 ⟨rfl, d2, hd2, hdl, S3⟩
   have HDL : Hid (d2.toList = chunkS (ltOf cf) 20 D) := Lib.hid (by
    have hL := HD.out
    have h1 := chunkS_append (lt := ltOf cf) (bs := 20) (by omega) q (D.take a) (D.drop a) (by rw [List.length_take]; have := HI.out.1; omega)
    rw [List.take_append_drop] at h1
    rw [hdl, h1, chunkS_end (bs := 20) (l := D.drop a) (by simp; omega)]
    simp)
   have S4 : Aside (SWK enc k w0 blk off d2 w2) := S3
   clear hdl S3 S2 HI
   go_wp2
   go_loopg [6] (n + 1) (fun kx s6 wr => ∃ (bs : Nat) (dk : Array α), s6 = .int .i64 bs ∧ 20 ≤ bs ∧ bs ≤ 2000000000000 ∧ n + 1 - bs ≤ kx ∧ dk.size = n ∧ Aside (SWK enc k w0 blk off dk wr) ∧ Hid (dk.toList = chunkS (ltOf cf) bs D))
   case atStart => exact ⟨20, d2, rfl, by omega, by omega, by omega, by omega, S4, HDL⟩
   case round =>
    clear S4 HDL
    obtain ⟨bs, dk, rfl, hb20, hbb, hkx2, hds2, S1, HI⟩ := hrel
    by_cases hlt2 : bs < n
    ·
     go_wp2
     go_loopg [7, 8] (n + 1) (fun kx s7 s8 wr => ∃ (a q : Nat) (dk : Array α), s7 = .int .i64 a ∧ s8 = .int .i64 ((a : Int) + 2 * (bs : Int)) ∧ a ≤ n ∧ n + 1 - a ≤ kx ∧ dk.size = n ∧ Aside (SWK enc k w0 blk off dk wr) ∧ Hid (a = q * (2 * bs) ∧ dk.toList = chunkS (ltOf cf) (2 * bs) (D.take a) ++ chunkS (ltOf cf) bs (D.drop a)))
     case atStart => exact ⟨0, 0, dk, rfl, by first | rfl | go_num | simp, by omega, Nat.le_refl _, hds2, S1, Lib.hid ⟨by omega, by rw [List.take_zero, chunkS_end (by simp), isort_nil, HI.out]; rfl⟩⟩
     case round =>
      clear S1
      obtain ⟨a, q, dk, rfl, rfl, han, hkx, hds, S1, HJ⟩ := hrel
      by_cases hlt3 : a + 2 * bs ≤ n
      ·
       have hz3 : (a : Int) + 2 * (bs : Int) ≤ (n : Int) := by omega
       obtain ⟨U1, U2, V, HU⟩ : ∃ U1 U2 V, Hid (D.drop a = U1 ++ (U2 ++ V) ∧ U1.length = bs ∧ U2.length = bs ∧ V = D.drop (a + 2 * bs) ∧ D.take (a + 2 * bs) = D.take a ++ (U1 ++ U2)) := by
        have hL := HD.out
        refine ⟨(D.drop a).take bs, ((D.drop a).drop bs).take bs, (D.drop a).drop (bs + bs), Lib.hid ⟨?_, by simp; omega, by simp; omega, by rw [List.drop_drop]; congr 1; omega, ?_⟩⟩
        ·
         rw [← List.drop_drop, List.take_append_drop, List.take_append_drop]
        ·
         rw [List.take_add, show 2 * bs = bs + bs by omega, List.take_add]
       have HJ2 : Hid (dk.toList = chunkS (ltOf cf) (2 * bs) (D.take a) ++ (isort (ltOf cf) U1 ++ (isort (ltOf cf) U2 ++ chunkS (ltOf cf) bs V))) := Lib.hid (by
        obtain ⟨u1, u2, u3, u4, u5⟩ := HU.out
        rw [HJ.out.2, u1, chunkS_head (by omega) u2, chunkS_head (by omega) u3])
       have S2 := S1.out
       clear S1
       go_wp2_with fail
       refine Calls.mono (HSYM.out (2 * bs) dk _ (by have := HN.out; omega) S2 (chunkS (ltOf cf) (2 * bs) (D.take a)) (isort (ltOf cf) U1) (isort (ltOf cf) U2) (chunkS (ltOf cf) bs V) HJ2.out ?c1 ?c2 ?c3 (HSO.out _) (HSO.out _) _ ?c4 _ _ _ ?c5 ?c6 ?c7) ?_
       case c1 => obtain ⟨u1, u2, u3, u4, u5⟩ := HU.out; rw [isort_length, isort_length]; omega
       case c2 => obtain ⟨u1, u2, u3, u4, u5⟩ := HU.out; exact List.length_pos_iff.1 (by rw [isort_length]; omega)
       case c3 => obtain ⟨u1, u2, u3, u4, u5⟩ := HU.out; exact List.length_pos_iff.1 (by rw [isort_length]; omega)
       case c4 => exact hds.symm
       case c5 => rw [chunkS_length, List.length_take]; have := HD.out; omega
       case c6 => obtain ⟨u1, u2, u3, u4, u5⟩ := HU.out; rw [chunkS_length, List.length_take, isort_length]; have := HD.out; omega
       case c7 => obtain ⟨u1, u2, u3, u4, u5⟩ := HU.out; rw [chunkS_length, List.length_take, isort_length, isort_length]; have := HD.out; omega
       rintro en w2 ⟨rfl, d2, hd2, hdl, S3⟩
       have HDL := Lib.hid hdl
       have S4 : Aside (SWK enc k w0 blk off d2 w2) := S3
       clear hdl S3 S2
       go_wp2
       go_roundg (n + 1 - (a + 2 * bs))
       case measure => omega
       case rel =>
        obtain ⟨u1, u2, u3, u4, u5⟩ := HU.out
        have hL := HD.out
        have hq := HJ.out.1
        refine ⟨a + 2 * bs, q + 1, d2, by go_num, by first | rfl | go_num | (congr 1; omega), by omega, Nat.le_refl _, by omega, S4, Lib.hid ⟨by rw [Nat.add_mul]; omega, ?_⟩⟩
        rw [HDL.out, u5, chunkS_append (by omega) q _ _ (by rw [List.length_take]; omega), chunkS_end (bs := 2 * bs) (l := U1 ++ U2) (by simp; omega), HAP.out, ← u4]
        simp
      ·
       have hz3 : ¬ ((a : Int) + 2 * (bs : Int) ≤ (n : Int)) := by omega
       by_cases hlt4 : a + bs < n
       ·
        have hz4 : (a : Int) + (bs : Int) < (n : Int) := by omega
        obtain ⟨U1, V, HU⟩ : ∃ U1 V, Hid (D.drop a = U1 ++ V ∧ U1.length = bs ∧ V.length = n - a - bs) := by
         have hL := HD.out
         exact ⟨(D.drop a).take bs, (D.drop a).drop bs, Lib.hid ⟨(List.take_append_drop _ _).symm, by simp; omega, by simp; omega⟩⟩
        have HJ2 : Hid (dk.toList = chunkS (ltOf cf) (2 * bs) (D.take a) ++ (isort (ltOf cf) U1 ++ (isort (ltOf cf) V ++ []))) := Lib.hid (by
         obtain ⟨u1, u2, u3⟩ := HU.out
         rw [HJ.out.2, u1, chunkS_head (by omega) u2, chunkS_end (bs := bs) (l := V) (by omega), List.append_nil])
        have S2 := S1.out
        clear S1
        go_wp2_with fail
        refine Calls.mono (HSYM.out n dk _ (by have := HN.out; omega) S2 (chunkS (ltOf cf) (2 * bs) (D.take a)) (isort (ltOf cf) U1) (isort (ltOf cf) V) [] HJ2.out ?e1 ?e2 ?e3 (HSO.out _) (HSO.out _) _ ?e4 _ _ _ ?e5 ?e6 ?e7) ?_
        case e1 => obtain ⟨u1, u2, u3⟩ := HU.out; rw [isort_length, isort_length]; omega
        case e2 => obtain ⟨u1, u2, u3⟩ := HU.out; exact List.length_pos_iff.1 (by rw [isort_length]; omega)
        case e3 => obtain ⟨u1, u2, u3⟩ := HU.out; exact List.length_pos_iff.1 (by rw [isort_length]; omega)
        case e4 => exact hds.symm
        case e5 => rw [chunkS_length, List.length_take]; have := HD.out; omega
        case e6 => obtain ⟨u1, u2, u3⟩ := HU.out; rw [chunkS_length, List.length_take, isort_length]; have := HD.out; omega
        case e7 => obtain ⟨u1, u2, u3⟩ := HU.out; rw [chunkS_length, List.length_take, isort_length, isort_length]; have := HD.out; omega
        rintro en w2 ⟨rfl, d2, hd2, hdl, S3⟩
        have HDL := Lib.hid hdl
        have S4 : Aside (SWK enc k w0 blk off d2 w2) := S3
        clear hdl S3 S2
        go_wp2
        go_roundg (n + 1 - 2 * bs)
        case measure => omega
        case rel =>
         obtain ⟨u1, u2, u3⟩ := HU.out
         have hL := HD.out
         refine ⟨2 * bs, d2, by first | rfl | go_num | (congr 1; omega), by omega, by omega, by omega, by omega, S4, Lib.hid ?_⟩
         have h1 := chunkS_append (lt := ltOf cf) (bs := 2 * bs) (by omega) q (D.take a) (D.drop a) (by rw [List.length_take]; have := HJ.out.1; omega)
         rw [List.take_append_drop] at h1
         rw [HDL.out, h1, chunkS_end (bs := 2 * bs) (l := D.drop a) (by simp; omega), u1, HAP.out]
         simp
       ·
        have hz4 : ¬ ((a : Int) + (bs : Int) < (n : Int)) := by omega
        go_wp2
        go_roundg (n + 1 - 2 * bs)
        case measure => omega
        case rel =>
         have hL := HD.out
         refine ⟨2 * bs, dk, by first | rfl | go_num | (congr 1; omega), by omega, by omega, by omega, by omega, S1, Lib.hid ?_⟩
         have h1 := chunkS_append (lt := ltOf cf) (bs := 2 * bs) (by omega) q (D.take a) (D.drop a) (by rw [List.length_take]; have := HJ.out.1; omega)
         rw [List.take_append_drop] at h1
         rw [HJ.out.2, h1, chunkS_end (bs := 2 * bs) (l := D.drop a) (by simp; omega), chunkS_end (bs := bs) (l := D.drop a) (by simp; omega)]
    ·
     go_wp2
     go_end0
     refine ⟨rfl, dk, by have := HN.out; omega, ?_, S1.out⟩
     rw [HI.out, chunkS_end (by have := HD.out; omega)]

theorem sortStable_any (L : StF P k) (enc : α → List Value) (g : Nat) (cb : Array Value) (blk off cap : Nat) (d0 d : Array α) (w0 w : World) (R : RowK enc k w0 blk off d0) (hs : d0.size = d.size) (S : SWK enc k w0 blk off d w) (cf : α → α → Int) (eg : ∀ args w, (callFunc g args).run P w = .ok (.enter g args) w) (hcmp : CmpLays P g cb enc k cf blk off d0.size w0) (hO : Swo (ltOf cf)) (hsz : d.size < 1000000000000) :
  Calls P 23 #[.slice (some ⟨blk, off, none⟩) d.size cap, .func (.func g) #[] cb] w fun e w' => e = .returned (.tuple #[]) ∧ ∃ d' : Array α, d'.size = d.size ∧ d'.toList = isort (ltOf cf) d.toList ∧ SWK enc k w0 blk off d' w' := by
 have mixed := L.mixed; have t3 := L.t3; have a3 := L.a3; have z3 := L.z3; have v3 := L.v3; have t4 := L.t4; have a4 := L.a4; have z4 := L.z4; have v4 := L.v4; have tu := L.tu; have au := L.au; have zu := L.zu; have e1 := L.en.1; have e2 := L.en.2.1; have e3 := L.en.2.2.1; have e4 := L.en.2.2.2.1; have e5 := L.en.2.2.2.2; have t22 := L.t22; have a22 := L.a22; have z22 := L.z22; have aE := L.aE; have zE := L.zE
 have H := Lib.hid (stable_any L enc g cb blk off cap d0 d w0 w R hs S cf eg hcmp hO hsz)
 clear S hcmp hO eg R
 go_enter L.Ftop, Tryz.ntmps23
 go_wp2_with fail
 refine Calls.mono H.out ?_
 rintro en w2 ⟨rfl, d2, hd2, hdl, S3⟩
 have HDL := Lib.hid hdl
 clear hdl
 go_wp2
 go_end0
 exact ⟨rfl, d2, hd2, HDL.out, S3⟩

end Go.Proofs.YtdiaecgpjgdkdaaGreat
