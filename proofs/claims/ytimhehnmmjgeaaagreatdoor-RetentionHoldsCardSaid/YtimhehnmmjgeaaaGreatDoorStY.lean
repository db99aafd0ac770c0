/- The walk of the merge of the stable sort at versions. -/
import Derived.Test.YtimhehnmmjgeaaaGreatDoorStX
import Derived.Deep.DeepCutAuto
set_option linter.unusedSimpArgs false
set_option linter.unusedVariables false
namespace Go.Proofs.YtimhehnmmjgeaaaGreatDoor
open Go.Shelf Go.RowKit Go.Lib Go.Sort

variable {P : Program} {k : Nat} {α : Type} [Inhabited α]


set_option maxHeartbeats 16000000 in
set_option maxRecDepth 1000000 in
theorem sym12 (L : StF P k) (enc : α → List Value) (g : Nat) (cb : Array Value) (blk off cap : Nat) (d0 d : Array α) (w0 w : World) (R : RowK enc k w0 blk off d0) (hs : d0.size = d.size) (S : SWK enc k w0 blk off d w) (cf : α → α → Int) (eg : ∀ args w, (callFunc g args).run P w = .ok (.enter g args) w) (hcmp : CmpLays P g cb enc k cf blk off d0.size w0) (hO : Swo (ltOf cf)) (X A B Z : List α) (hd : d.toList = X ++ (A ++ (B ++ Z))) (hA0 : A ≠ []) (hB0 : B ≠ []) (hA : Srt (ltOf cf) A) (hB : Srt (ltOf cf) B) (h12 : A.length = 1 ∨ (¬ A.length = 1 ∧ B.length = 1)) {a m b : Nat} (ha : a = X.length) (hm : m = a + A.length) (hb : b = m + B.length) (hsz : d.size < 1000000000000) :
    Calls P 71 #[.slice (some ⟨blk, off, none⟩) d.size cap, .int .i64 a, .int .i64 m, .int .i64 b, .func (.func g) #[] cb] w fun e w' => e = .returned (.tuple #[]) ∧ ∃ d' : Array α, d'.size = d.size ∧ d'.toList = X ++ (mrg (ltOf cf) A B ++ Z) ∧ SWK enc k w0 blk off d' w' := by
  have mixed := L.mixed; have t3 := L.t3; have a3 := L.a3; have z3 := L.z3; have v3 := L.v3; have t4 := L.t4; have a4 := L.a4; have z4 := L.z4; have v4 := L.v4; have tu := L.tu; have au := L.au; have zu := L.zu; have e1 := L.en.1; have e2 := L.en.2.1; have e3 := L.en.2.2.1; have e4 := L.en.2.2.2.1; have e5 := L.en.2.2.2.2; have t22 := L.t22; have a22 := L.a22; have z22 := L.z22; have aE := L.aE; have zE := L.zE
  have hlen := congrArg List.length hd
  simp at hlen
  have S0 : Aside (SWK enc k w0 blk off d w) := S
  have HC : Aside (CmpLays P g cb enc k cf blk off d0.size w0) := hcmp
  have HO := Lib.hid hO
  have HD := Lib.hid hd
  have HS := Lib.hid (show Srt (ltOf cf) A ∧ Srt (ltOf cf) B from ⟨hA, hB⟩)
  have hA1 := List.length_pos_iff.2 hA0
  have hB1 := List.length_pos_iff.2 hB0
  have HAB := Lib.hid (show a = X.length ∧ m = a + A.length ∧ b = m + B.length ∧ d.size = X.length + (A.length + (B.length + Z.length)) from ⟨ha, hm, hb, hlen⟩)
  have hbd : b ≤ d.size := by omega
  have hmb : m < b := by omega
  have ham : a < m := by omega
  rcases h12 with h1 | ⟨h1, h2⟩
  · have HA1 := Lib.hid h1
    have hb1 : ((m : Int) - (a : Int) == 1) = true := by simp; omega
    clear S hd ha hm hb hlen hA0 hB0 hA1 hB1 hA hB h1 hcmp hO
    go_enter L.FsymMerge, Tryz.ntmps71
    go_wp2
    go_loopg [10, 11] (b - m) (fun kx s10 s11 wr => ∃ i j : Nat, s10 = .int .i64 i ∧ s11 = .int .i64 j ∧ m ≤ i ∧ i ≤ j ∧ j ≤ b ∧ j - i ≤ kx ∧ Aside (SWK enc k w0 blk off d wr) ∧ Hid ((i = m ∨ ltOf cf d[i - 1]! d[a]! = true) ∧ (j = b ∨ ltOf cf d[j]! d[a]! = false)))
    case atStart => exact ⟨m, b, rfl, rfl, by omega, by omega, by omega, Nat.le_refl _, S0, Lib.hid ⟨.inl rfl, .inl rfl⟩⟩
    case round =>
      clear S0
      obtain ⟨i, j, rfl, rfl, hmi, hij, hjb, hkx, S1, HI⟩ := hrel
      by_cases hlt : i < j
      · cases hL : ltOf cf d[(i + j) / 2]! d[a]! with
        | true =>
          have ea1 : (((i : Int) + (j : Int)) / 2).toNat = (i + j) / 2 := by omega
          have pa1 : (0 : Int) ≤ ((i : Int) + (j : Int)) / 2 := by omega
          have ba1 : ((i : Int) + (j : Int)) / 2 < (d.size : Int) := by omega
          have ra1 : IntKind.i64.wrap (((i : Int) + (j : Int)) / 2) = ((i : Int) + (j : Int)) / 2 := by rw [IntKind.wrap_i64]; omega
          have ec1 : ((a : Int)).toNat = a := by omega
          have pc1 : (0 : Int) ≤ (a : Int) := by omega
          have bc1 : (a : Int) < (d.size : Int) := by omega
          have rc1 : IntKind.i64.wrap ((a : Int)) = (a : Int) := by rw [IntKind.wrap_i64]; omega
          obtain ⟨x1, hx1⟩ : ∃ x, x = d[(i + j) / 2]! := ⟨_, rfl⟩
          obtain ⟨y1, hy1⟩ : ∃ x, x = d[a]! := ⟨_, rfl⟩
          have l1a := S1.out.ld R (by omega) P ((i + j) / 2) (by omega)
          have l1b := S1.out.ld R (by omega) P (a) (by omega)
          rw [← hx1] at l1a
          rw [← hy1] at l1b
          have hc1 := S1.out.cmp HC.out (by omega) x1 y1
          have hv1 : cf x1 y1 < 0 := by rw [hx1, hy1]; exact of_decide_eq_true hL
          have hd1 : decide (cf x1 y1 < 0) = true := decide_eq_true hv1
          clear hx1 hy1
          go_wp2_with fail
          go_quiet_grown (first | (go_at_fn g; refine Calls.grown_of (hc1 _ _)))
          have S3 : Aside (SWK enc k w0 blk off d (grow (wr.drewN nq) osq)) := S1.out.grown nq osq
          clear l1a l1b hc1 S1
          generalize grow (wr.drewN nq) osq = w3 at S3 ⊢
          clear nq osq
          go_wp2
          go_roundg (j - ((i + j) / 2 + 1))
          case measure => omega
          case rel => exact ⟨(i + j) / 2 + 1, j, by rw [show ((i : Int) + (j : Int)) / 2 + 1 = (((i + j) / 2 + 1 : Nat) : Int) by omega], rfl, by omega, by omega, hjb, Nat.le_refl _, S3, Lib.hid ⟨.inr (by simpa using hL), HI.out.2⟩⟩
        | false =>
          have ea2 : (((i : Int) + (j : Int)) / 2).toNat = (i + j) / 2 := by omega
          have pa2 : (0 : Int) ≤ ((i : Int) + (j : Int)) / 2 := by omega
          have ba2 : ((i : Int) + (j : Int)) / 2 < (d.size : Int) := by omega
          have ra2 : IntKind.i64.wrap (((i : Int) + (j : Int)) / 2) = ((i : Int) + (j : Int)) / 2 := by rw [IntKind.wrap_i64]; omega
          have ec2 : ((a : Int)).toNat = a := by omega
          have pc2 : (0 : Int) ≤ (a : Int) := by omega
          have bc2 : (a : Int) < (d.size : Int) := by omega
          have rc2 : IntKind.i64.wrap ((a : Int)) = (a : Int) := by rw [IntKind.wrap_i64]; omega
          obtain ⟨x2, hx2⟩ : ∃ x, x = d[(i + j) / 2]! := ⟨_, rfl⟩
          obtain ⟨y2, hy2⟩ : ∃ x, x = d[a]! := ⟨_, rfl⟩
          have l2a := S1.out.ld R (by omega) P ((i + j) / 2) (by omega)
          have l2b := S1.out.ld R (by omega) P (a) (by omega)
          rw [← hx2] at l2a
          rw [← hy2] at l2b
          have hc2 := S1.out.cmp HC.out (by omega) x2 y2
          have hv2 : ¬ cf x2 y2 < 0 := by rw [hx2, hy2]; exact of_decide_eq_false hL
          have hd2 : decide (cf x2 y2 < 0) = false := decide_eq_false hv2
          clear hx2 hy2
          go_wp2_with fail
          go_quiet_grown (first | (go_at_fn g; refine Calls.grown_of (hc2 _ _)))
          have S3 : Aside (SWK enc k w0 blk off d (grow (wr.drewN nq) osq)) := S1.out.grown nq osq
          clear l2a l2b hc2 S1
          generalize grow (wr.drewN nq) osq = w3 at S3 ⊢
          clear nq osq
          go_wp2
          go_roundg ((i + j) / 2 - i)
          case measure => omega
          case rel => exact ⟨i, (i + j) / 2, rfl, by rw [show ((i : Int) + (j : Int)) / 2 = (((i + j) / 2 : Nat) : Int) by omega], hmi, by omega, by omega, Nat.le_refl _, S3, Lib.hid ⟨HI.out.1, .inr hL⟩⟩
      · obtain rfl : i = j := by omega
        have HM : Hid (∃ x, A = [x] ∧ mrg (ltOf cf) A B = B.take (i - m) ++ x :: B.drop (i - m)) := Lib.hid (by
          obtain ⟨g1, g2, g3, g4⟩ := HAB.out
          obtain ⟨x, hx⟩ := List.length_eq_one_iff.1 HA1.out
          refine ⟨x, hx, ?_⟩
          have hd2 := HD.out
          rw [hx] at hd2 ⊢
          have ex : d[a]! = x := arr_at (X := X) (Z := B ++ Z) (by rw [hd2]; simp) (by omega)
          have hh := HI.out
          rw [ex] at hh
          exact sym_one HO.out (X := X) (Z := Z) (by rw [hd2]; simp) HS.out.2 (a := a) (m := m) (b := b) (i := i) (by omega) (by have := HA1.out; omega) (by omega) hmi hjb hh.1 hh.2)
        go_wp2
        go_loopg [13] (i - 1 - a) (fun kx s13 wr => ∃ (q : Nat) (dk : Array α) (L1 L2 : List α), s13 = .int .i64 q ∧ a ≤ q ∧ q ≤ i - 1 ∧ i - 1 - q ≤ kx ∧ dk.size = d.size ∧ Aside (SWK enc k w0 blk off dk wr) ∧ Hid (B.take (i - m) = L1 ++ L2 ∧ L1.length = q - a ∧ ∃ x, A = [x] ∧ dk.toList = X ++ (L1 ++ x :: (L2 ++ (B.drop (i - m) ++ Z)))))
        case atStart => exact ⟨a, d, [], B.take (i - m), rfl, by omega, by omega, Nat.le_refl _, rfl, S1, Lib.hid ⟨rfl, by simp, by
          obtain ⟨x, hx, _⟩ := HM.out
          exact ⟨x, hx, by rw [HD.out, hx, ← List.append_assoc (B.take (i - m)), List.take_append_drop]; simp⟩⟩⟩
        case round =>
          clear S1
          obtain ⟨q, dk, L1, L2, rfl, haq, hqi, hkx, hds, S2, HQ⟩ := hrel
          by_cases hlt2 : q < i - 1
          · have hz2 : (q : Int) < (i : Int) - 1 := by omega
            have ea3 : ((q : Int)).toNat = q := by omega
            have pa3 : (0 : Int) ≤ (q : Int) := by omega
            have ba3 : (q : Int) < (d.size : Int) := by omega
            have ra3 : IntKind.i64.wrap ((q : Int)) = (q : Int) := by rw [IntKind.wrap_i64]; omega
            have ec3 : ((q : Int) + 1).toNat = q + 1 := by omega
            have pc3 : (0 : Int) ≤ (q : Int) + 1 := by omega
            have bc3 : (q : Int) + 1 < (d.size : Int) := by omega
            have rc3 : IntKind.i64.wrap ((q : Int) + 1) = (q : Int) + 1 := by rw [IntKind.wrap_i64]; omega
            have S4 : Aside (SWK enc k w0 blk off (swp dk (q) (q + 1)) ((wr.drew.setCells blk (off + (q) * k) (enc dk[q + 1]!)).setCells blk (off + (q + 1) * k) (enc dk[q]!))) := S2.out.swapped R (q) (q + 1) (by omega) (by omega)
            have l3a := S2.out.ld1 R (by omega) P (q) (by omega)
            have l3b := S2.out.ld1 R (by omega) P (q + 1) (by omega)
            have s3a := S2.out.st1 R (by omega) P (q) (by omega) dk[q + 1]!
            have s3b := S2.out.st2 R (by omega) P (q) (q + 1) (by omega) (by omega) dk[q + 1]! dk[q]!
            have n3a : (enc dk[q]!).length = k := R.hk _
            have n3b : (enc dk[q + 1]!).length = k := R.hk _
            generalize enc dk[q]! = cI3 at S4 l3a s3b n3a
            generalize enc dk[q + 1]! = cJ3 at S4 l3b s3a s3b n3b
            clear S2
            go_wp2_with fail
            go_big_region_o
            clear l3a l3b s3a s3b
            generalize (wr.drew.setCells blk (off + (q) * k) cJ3).setCells blk (off + (q + 1) * k) cI3 = w4 at S4 ⊢
            go_wp2
            go_roundg (i - 1 - (q + 1))
            case measure => omega
            case rel =>
              obtain ⟨h1, h2, x, h3, h4⟩ := HQ.out
              obtain ⟨g1, g2, g3, g4⟩ := HAB.out
              have hA' := HA1.out
              have hlen := congrArg List.length h1
              simp at hlen
              cases L2 with
              | nil => simp at hlen; omega
              | cons y L2 =>
                have hsw := swp_next (dk := dk) (X := X ++ L1) (x := x) (y := y) (Z := L2 ++ (B.drop (i - m) ++ Z)) (by rw [h4]; simp) (i := q) (j := q + 1) (by simp; omega) (by simp; omega)
                exact ⟨q + 1, swp dk q (q + 1), L1 ++ [y], L2, by go_num, by omega, by omega, Nat.le_refl _, by rw [size_swp]; exact hds, S4, Lib.hid ⟨by rw [h1]; simp, by simp; omega, x, h3, by rw [hsw]; simp⟩⟩
          · have hz2 : ¬ (q : Int) < (i : Int) - 1 := by omega
            go_wp2
            (try simp only [Exit.inBlock, Exit.then]); refine bodyPost_ret (results_none rfl _ _ _) rfl ?_
            obtain ⟨h1, h2, x, h3, h4⟩ := HQ.out
            obtain ⟨g1, g2, g3, g4⟩ := HAB.out
            obtain ⟨x', hx', hm⟩ := HM.out
            rw [h3] at hx'
            obtain rfl : x = x' := by simpa using hx'
            have hlen := congrArg List.length h1
            simp at hlen
            obtain rfl : L2 = [] := List.eq_nil_of_length_eq_zero (by omega)
            refine ⟨rfl, dk, hds, ?_, S2.out⟩
            rw [hm, h4, h1]
            simp
  · have HB1 := Lib.hid h2
    have hb1 : ((m : Int) - (a : Int) == 1) = false := by simp; omega
    have hb2 : ((b : Int) - (m : Int) == 1) = true := by simp; omega
    clear S hd ha hm hb hlen hA0 hB0 hA1 hB1 hA hB h1 h2 hcmp hO
    go_enter L.FsymMerge, Tryz.ntmps71
    go_wp2
    go_loopg [14, 15] (m - a) (fun kx s14 s15 wr => ∃ i j : Nat, s14 = .int .i64 i ∧ s15 = .int .i64 j ∧ a ≤ i ∧ i ≤ j ∧ j ≤ m ∧ j - i ≤ kx ∧ Aside (SWK enc k w0 blk off d wr) ∧ Hid ((i = a ∨ ltOf cf d[m]! d[i - 1]! = false) ∧ (j = m ∨ ltOf cf d[m]! d[j]! = true)))
    case atStart => exact ⟨a, m, rfl, rfl, by omega, by omega, by omega, Nat.le_refl _, S0, Lib.hid ⟨.inl rfl, .inl rfl⟩⟩
    case round =>
      clear S0
      obtain ⟨i, j, rfl, rfl, hmi, hij, hjb, hkx, S1, HI⟩ := hrel
      by_cases hlt : i < j
      · cases hL : ltOf cf d[m]! d[(i + j) / 2]! with
        | false =>
          have ea1 : ((m : Int)).toNat = m := by omega
          have pa1 : (0 : Int) ≤ (m : Int) := by omega
          have ba1 : (m : Int) < (d.size : Int) := by omega
          have ra1 : IntKind.i64.wrap ((m : Int)) = (m : Int) := by rw [IntKind.wrap_i64]; omega
          have ec1 : (((i : Int) + (j : Int)) / 2).toNat = (i + j) / 2 := by omega
          have pc1 : (0 : Int) ≤ ((i : Int) + (j : Int)) / 2 := by omega
          have bc1 : ((i : Int) + (j : Int)) / 2 < (d.size : Int) := by omega
          have rc1 : IntKind.i64.wrap (((i : Int) + (j : Int)) / 2) = ((i : Int) + (j : Int)) / 2 := by rw [IntKind.wrap_i64]; omega
          obtain ⟨x1, hx1⟩ : ∃ x, x = d[m]! := ⟨_, rfl⟩
          obtain ⟨y1, hy1⟩ : ∃ x, x = d[(i + j) / 2]! := ⟨_, rfl⟩
          have l1a := S1.out.ld R (by omega) P (m) (by omega)
          have l1b := S1.out.ld R (by omega) P ((i + j) / 2) (by omega)
          rw [← hx1] at l1a
          rw [← hy1] at l1b
          have hc1 := S1.out.cmp HC.out (by omega) x1 y1
          have hv1 : ¬ cf x1 y1 < 0 := by rw [hx1, hy1]; exact of_decide_eq_false hL
          have hd1 : decide (cf x1 y1 < 0) = false := decide_eq_false hv1
          clear hx1 hy1
          go_wp2_with fail
          go_quiet_grown (first | (go_at_fn g; refine Calls.grown_of (hc1 _ _)))
          have S3 : Aside (SWK enc k w0 blk off d (grow (wr.drewN nq) osq)) := S1.out.grown nq osq
          clear l1a l1b hc1 S1
          generalize grow (wr.drewN nq) osq = w3 at S3 ⊢
          clear nq osq
          go_wp2
          go_roundg (j - ((i + j) / 2 + 1))
          case measure => omega
          case rel => exact ⟨(i + j) / 2 + 1, j, by rw [show ((i : Int) + (j : Int)) / 2 + 1 = (((i + j) / 2 + 1 : Nat) : Int) by omega], rfl, by omega, by omega, hjb, Nat.le_refl _, S3, Lib.hid ⟨.inr (by simpa using hL), HI.out.2⟩⟩
        | true =>
          have ea2 : ((m : Int)).toNat = m := by omega
          have pa2 : (0 : Int) ≤ (m : Int) := by omega
          have ba2 : (m : Int) < (d.size : Int) := by omega
          have ra2 : IntKind.i64.wrap ((m : Int)) = (m : Int) := by rw [IntKind.wrap_i64]; omega
          have ec2 : (((i : Int) + (j : Int)) / 2).toNat = (i + j) / 2 := by omega
          have pc2 : (0 : Int) ≤ ((i : Int) + (j : Int)) / 2 := by omega
          have bc2 : ((i : Int) + (j : Int)) / 2 < (d.size : Int) := by omega
          have rc2 : IntKind.i64.wrap (((i : Int) + (j : Int)) / 2) = ((i : Int) + (j : Int)) / 2 := by rw [IntKind.wrap_i64]; omega
          obtain ⟨x2, hx2⟩ : ∃ x, x = d[m]! := ⟨_, rfl⟩
          obtain ⟨y2, hy2⟩ : ∃ x, x = d[(i + j) / 2]! := ⟨_, rfl⟩
          have l2a := S1.out.ld R (by omega) P (m) (by omega)
          have l2b := S1.out.ld R (by omega) P ((i + j) / 2) (by omega)
          rw [← hx2] at l2a
          rw [← hy2] at l2b
          have hc2 := S1.out.cmp HC.out (by omega) x2 y2
          have hv2 : cf x2 y2 < 0 := by rw [hx2, hy2]; exact of_decide_eq_true hL
          have hd2 : decide (cf x2 y2 < 0) = true := decide_eq_true hv2
          clear hx2 hy2
          go_wp2_with fail
          go_quiet_grown (first | (go_at_fn g; refine Calls.grown_of (hc2 _ _)))
          have S3 : Aside (SWK enc k w0 blk off d (grow (wr.drewN nq) osq)) := S1.out.grown nq osq
          clear l2a l2b hc2 S1
          generalize grow (wr.drewN nq) osq = w3 at S3 ⊢
          clear nq osq
          go_wp2
          go_roundg ((i + j) / 2 - i)
          case measure => omega
          case rel => exact ⟨i, (i + j) / 2, rfl, by rw [show ((i : Int) + (j : Int)) / 2 = (((i + j) / 2 : Nat) : Int) by omega], hmi, by omega, by omega, Nat.le_refl _, S3, Lib.hid ⟨HI.out.1, .inr hL⟩⟩
      · obtain rfl : i = j := by omega
        have HM : Hid (∃ y, B = [y] ∧ mrg (ltOf cf) A B = A.take (i - a) ++ y :: A.drop (i - a)) := Lib.hid (by
          obtain ⟨g1, g2, g3, g4⟩ := HAB.out
          obtain ⟨y, hy⟩ := List.length_eq_one_iff.1 HB1.out
          refine ⟨y, hy, ?_⟩
          have hd2 := HD.out
          rw [hy] at hd2 ⊢
          have ey : d[m]! = y := arr_at (X := X ++ A) (Z := Z) (by rw [hd2]; simp) (by simp; omega)
          have hh := HI.out
          rw [ey] at hh
          exact sym_last HO.out (X := X) (Z := Z) (by rw [hd2]; simp) HS.out.1 (a := a) (m := m) (i := i) (by omega) (by omega) hmi hjb hh.1 hh.2)
        go_wp2
        go_loopg [17] (m - i) (fun kx s17 wr => ∃ (q : Nat) (dk : Array α) (L1 L2 : List α), s17 = .int .i64 q ∧ i ≤ q ∧ q ≤ m ∧ q - i ≤ kx ∧ dk.size = d.size ∧ Aside (SWK enc k w0 blk off dk wr) ∧ Hid (A.drop (i - a) = L1 ++ L2 ∧ L1.length = q - i ∧ ∃ y, B = [y] ∧ dk.toList = X ++ (A.take (i - a) ++ (L1 ++ y :: (L2 ++ Z)))))
        case atStart => exact ⟨m, d, A.drop (i - a), [], rfl, by omega, by omega, Nat.le_refl _, rfl, S1, Lib.hid ⟨by simp, by obtain ⟨g1, g2, g3, g4⟩ := HAB.out; simp; omega, by
          obtain ⟨y, hy, _⟩ := HM.out
          exact ⟨y, hy, by rw [HD.out, hy, ← List.append_assoc (A.take (i - a)), List.take_append_drop]; simp⟩⟩⟩
        case round =>
          clear S1
          obtain ⟨q, dk, L1, L2, rfl, haq, hqi, hkx, hds, S2, HQ⟩ := hrel
          by_cases hlt2 : i < q
          · have hz2 : (i : Int) < (q : Int) := by omega
            obtain ⟨qp, rfl⟩ : ∃ qp, q = qp + 1 := ⟨q - 1, by omega⟩
            have hz3 : (i : Int) < (qp : Int) + 1 := by omega
            have ea3 : ((qp : Int) + 1).toNat = qp + 1 := by omega
            have pa3 : (0 : Int) ≤ (qp : Int) + 1 := by omega
            have ba3 : (qp : Int) + 1 < (d.size : Int) := by omega
            have ra3 : IntKind.i64.wrap ((qp : Int) + 1) = (qp : Int) + 1 := by rw [IntKind.wrap_i64]; omega
            have ec3 : ((qp : Int)).toNat = qp := by omega
            have pc3 : (0 : Int) ≤ (qp : Int) := by omega
            have bc3 : (qp : Int) < (d.size : Int) := by omega
            have rc3 : IntKind.i64.wrap ((qp : Int)) = (qp : Int) := by rw [IntKind.wrap_i64]; omega
            have S4 : Aside (SWK enc k w0 blk off (swp dk (qp + 1) (qp)) ((wr.drew.setCells blk (off + (qp + 1) * k) (enc dk[qp]!)).setCells blk (off + (qp) * k) (enc dk[qp + 1]!))) := S2.out.swapped R (qp + 1) (qp) (by omega) (by omega)
            have l3a := S2.out.ld1 R (by omega) P (qp + 1) (by omega)
            have l3b := S2.out.ld1 R (by omega) P (qp) (by omega)
            have s3a := S2.out.st1 R (by omega) P (qp + 1) (by omega) dk[qp]!
            have s3b := S2.out.st2 R (by omega) P (qp + 1) (qp) (by omega) (by omega) dk[qp]! dk[qp + 1]!
            have n3a : (enc dk[qp + 1]!).length = k := R.hk _
            have n3b : (enc dk[qp]!).length = k := R.hk _
            generalize enc dk[qp + 1]! = cI3 at S4 l3a s3b n3a
            generalize enc dk[qp]! = cJ3 at S4 l3b s3a s3b n3b
            clear S2
            go_wp2_with fail
            go_big_region_o
            clear l3a l3b s3a s3b
            generalize (wr.drew.setCells blk (off + (qp + 1) * k) cJ3).setCells blk (off + (qp) * k) cI3 = w4 at S4 ⊢
            go_wp2
            go_roundg (qp - i)
            case measure => omega
            case rel =>
              obtain ⟨h1, h2, y, h3, h4⟩ := HQ.out
              obtain ⟨g1, g2, g3, g4⟩ := HAB.out
              obtain ⟨L3, z, rfl⟩ : ∃ L3 z, L1 = L3 ++ [z] := by
                rcases List.eq_nil_or_concat L1 with rfl | ⟨L3, z, rfl⟩
                · simp at h2; omega
                · exact ⟨L3, z, List.concat_eq_append⟩
              simp at h2
              have hlen := congrArg List.length h1
              simp at hlen
              have hsw := swp_next (dk := dk) (X := X ++ (A.take (i - a) ++ L3)) (x := z) (y := y) (Z := L2 ++ Z) (by rw [h4]; simp) (i := qp) (j := qp + 1) (by simp; omega) (by simp; omega)
              rw [swp_comm] at hsw
              exact ⟨qp, swp dk (qp + 1) qp, L3, z :: L2, by first | rfl | go_num | (congr 1; omega), by omega, by omega, Nat.le_refl _, by rw [size_swp]; exact hds, S4, Lib.hid ⟨by rw [h1]; simp, by omega, y, h3, by rw [hsw]; simp⟩⟩
          · have hz2 : ¬ (i : Int) < (q : Int) := by omega
            go_wp2
            (try simp only [Exit.inBlock, Exit.then]); refine bodyPost_ret (results_none rfl _ _ _) rfl ?_
            obtain ⟨h1, h2, y, h3, h4⟩ := HQ.out
            obtain ⟨g1, g2, g3, g4⟩ := HAB.out
            obtain ⟨y', hy', hm⟩ := HM.out
            rw [h3] at hy'
            obtain rfl : y = y' := by simpa using hy'
            obtain rfl : L1 = [] := List.eq_nil_of_length_eq_zero (by omega)
            refine ⟨rfl, dk, hds, ?_, S2.out⟩
            rw [hm, h4, h1]
            simp

end Go.Proofs.YtimhehnmmjgeaaaGreatDoor
