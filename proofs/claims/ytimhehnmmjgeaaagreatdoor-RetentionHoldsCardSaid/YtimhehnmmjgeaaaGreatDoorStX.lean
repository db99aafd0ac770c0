/- The walks of insertion and of the merge of the stable sort at versions. -/
import Derived.Test.YtimhehnmmjgeaaaGreatDoorStW
set_option linter.unusedSimpArgs false
set_option linter.unusedVariables false
namespace Go.Proofs.YtimhehnmmjgeaaaGreatDoor
open Go.Shelf Go.RowKit Go.Lib Go.Sort

variable {P : Program} {k : Nat} {α : Type} [Inhabited α]


set_option maxHeartbeats 4000000 in
set_option maxRecDepth 1000000 in
theorem ins_any (L : StF P k) (enc : α → List Value) (g : Nat) (cb : Array Value) (blk off cap : Nat) (d0 d : Array α) (w0 w : World) (R : RowK enc k w0 blk off d0) (hs : d0.size = d.size) (S : SWK enc k w0 blk off d w) (cf : α → α → Int) (eg : ∀ args w, (callFunc g args).run P w = .ok (.enter g args) w) (hcmp : CmpLays P g cb enc k cf blk off d0.size w0) (hO : Swo (ltOf cf)) (X U Z : List α) (hd : d.toList = X ++ (U ++ Z)) {a b : Nat} (ha : a = X.length) (hb : b = a + U.length) (hsz : d.size < 1000000000000) :
    Calls P 70 #[.slice (some ⟨blk, off, none⟩) d.size cap, .int .i64 a, .int .i64 b, .func (.func g) #[] cb] w fun e w' => e = .returned (.tuple #[]) ∧ ∃ d' : Array α, d'.size = d.size ∧ d'.toList = X ++ (isort (ltOf cf) U ++ Z) ∧ SWK enc k w0 blk off d' w' := by
  have mixed := L.mixed; have t3 := L.t3; have a3 := L.a3; have z3 := L.z3; have v3 := L.v3; have t4 := L.t4; have a4 := L.a4; have z4 := L.z4; have v4 := L.v4; have tu := L.tu; have au := L.au; have zu := L.zu; have e1 := L.en.1; have e2 := L.en.2.1; have e3 := L.en.2.2.1; have e4 := L.en.2.2.2.1; have e5 := L.en.2.2.2.2; have t22 := L.t22; have a22 := L.a22; have z22 := L.z22; have aE := L.aE; have zE := L.zE
  have hlen := congrArg List.length hd
  simp at hlen
  have S0 : Aside (SWK enc k w0 blk off d w) := S
  have HC : Aside (CmpLays P g cb enc k cf blk off d0.size w0) := hcmp
  have HO := Lib.hid hO
  have HAB := Lib.hid (show a = X.length ∧ b = a + U.length ∧ d.size = X.length + (U.length + Z.length) from ⟨ha, hb, hlen⟩)
  have HST : Hid (d.toList = X ++ (isort (ltOf cf) (U.take (a + 1 - a)) ++ (U.drop (a + 1 - a) ++ Z))) := Lib.hid (by
    rw [hd, show a + 1 - a = 1 by omega]
    cases U with
    | nil => simp [isort_nil]
    | cons x U => simp [isort_one])
  have hbd : b ≤ d.size := by omega
  have hab : a ≤ b := by omega
  clear S hd ha hb hlen hcmp hO
  go_enter L.Fins, Tryz.ntmps70
  go_wp2
  go_loopg [8] (b - a) (fun g1 s8 wr => ∃ (i : Nat) (dk : Array α), s8 = .int .i64 i ∧ a < i ∧ i ≤ b + 1 ∧ b + 1 - i ≤ g1 + 1 ∧ dk.size = d.size ∧ Aside (SWK enc k w0 blk off dk wr) ∧ Hid (dk.toList = X ++ (isort (ltOf cf) (U.take (i - a)) ++ (U.drop (i - a) ++ Z))))
  case atStart => exact ⟨a + 1, d, by go_num, by omega, by omega, by omega, rfl, S0, HST⟩
  case round =>
    clear S0 HST
    obtain ⟨i, dk, rfl, hai, hib, hg1, hsk, S1, HI⟩ := hrel
    by_cases hlt : i < b
    · have hltz : (i : Int) < (b : Int) := by omega
      obtain ⟨x, HX⟩ : ∃ x, Hid (U.drop (i - a) = x :: U.drop (i + 1 - a) ∧ U.take (i + 1 - a) = U.take (i - a) ++ [x]) := by
        obtain ⟨g1, g2, g3⟩ := HAB.out
        have hu : i - a < U.length := by omega
        exact ⟨U[i - a], Lib.hid ⟨by rw [List.drop_eq_getElem_cons hu, show i + 1 - a = i - a + 1 by omega], by rw [show i + 1 - a = i - a + 1 by omega, List.take_succ_eq_append_getElem hu]⟩⟩
      go_wp2
      go_loopg [9] i (fun g2 s9 wr2 => ∃ (j : Nat) (dj : Array α) (L1 L2 : List α), s9 = .int .i64 j ∧ a ≤ j ∧ j ≤ i ∧ j ≤ g2 ∧ dj.size = d.size ∧ Aside (SWK enc k w0 blk off dj wr2) ∧ Hid (isort (ltOf cf) (U.take (i - a)) = L1 ++ L2 ∧ j = a + L1.length ∧ (∀ y ∈ L2, ltOf cf x y = true) ∧ dj.toList = X ++ (L1 ++ x :: (L2 ++ (U.drop (i + 1 - a) ++ Z)))))
      case atStart => exact ⟨i, dk, isort (ltOf cf) (U.take (i - a)), [], rfl, by omega, Nat.le_refl _, Nat.le_refl _, hsk, S1, Lib.hid ⟨by simp, by obtain ⟨g1, g2, g3⟩ := HAB.out; rw [isort_length, List.length_take]; omega, by simp, by rw [HI.out, HX.out.1]; simp⟩⟩
      case round =>
        clear S1
        obtain ⟨j, dj, L1, L2, rfl, haj, hji, hg2, hsj, S2, HJ⟩ := hrel
        have OUT : Aside ((j ≤ a ∨ ltOf cf dj[j]! dj[j - 1]! = false) → Hid (dj.toList = X ++ (isort (ltOf cf) (U.take (i + 1 - a)) ++ (U.drop (i + 1 - a) ++ Z)))) := fun hh => Lib.hid (by
          obtain ⟨h1, h2, h3, h4⟩ := HJ.out
          obtain ⟨g1, g2, g3⟩ := HAB.out
          have hsrt := isort_srt HO.out (U.take (i - a))
          rw [h1] at hsrt
          have hl : ∀ y ∈ L1, ltOf cf x y = false := by
            intro y hy
            rcases hh with hh | hh
            · have : L1.length = 0 := by omega
              rw [List.eq_nil_of_length_eq_zero this] at hy; simp at hy
            · have ex : dj[j]! = x := arr_at (X := X ++ L1) (Z := L2 ++ (U.drop (i + 1 - a) ++ Z)) (by rw [h4]; simp) (by simp; omega)
              rw [ex] at hh
              have hl0 : 0 < L1.length := List.length_pos_of_mem hy
              have ey : dj[j - 1]! = L1[L1.length - 1] := arr_get (X := X) (A := L1) (Z := x :: (L2 ++ (U.drop (i + 1 - a) ++ Z))) h4 (t := L1.length - 1) (by omega) (by omega)
              rw [ey] at hh
              obtain ⟨t, ht, rfl⟩ := List.getElem_of_mem hy
              have hs1 : Srt (ltOf cf) L1 := (List.pairwise_append.1 hsrt).1
              exact HO.out.le_trans (hs1.at HO.out (i := t) (j := L1.length - 1) (by omega) (by omega)) hh
          have hm := mrg_ins (lt := ltOf cf) (x := x) hl h3
          rw [HX.out.2, isort_snoc, h1, hm, h4]
          simp)
        by_cases hja : a < j
        · have hjaz : (a : Int) < (j : Int) := by omega
          obtain ⟨jp, rfl⟩ : ∃ jp, j = jp + 1 := ⟨j - 1, by omega⟩
          have hjaz' : (a : Int) < (jp : Int) + 1 := by omega
          cases hL : ltOf cf dj[jp + 1]! dj[jp]! with
          | true =>
            have ea1 : ((jp : Int) + 1).toNat = jp + 1 := by omega
            have pa1 : (0 : Int) ≤ (jp : Int) + 1 := by omega
            have ba1 : (jp : Int) + 1 < (d.size : Int) := by omega
            have ra1 : IntKind.i64.wrap ((jp : Int) + 1) = (jp : Int) + 1 := by rw [IntKind.wrap_i64]; omega
            have ec1 : ((jp : Int)).toNat = jp := by omega
            have pc1 : (0 : Int) ≤ (jp : Int) := by omega
            have bc1 : (jp : Int) < (d.size : Int) := by omega
            have rc1 : IntKind.i64.wrap ((jp : Int)) = (jp : Int) := by rw [IntKind.wrap_i64]; omega
            obtain ⟨x1, hx1⟩ : ∃ x, x = dj[jp + 1]! := ⟨_, rfl⟩
            obtain ⟨y1, hy1⟩ : ∃ x, x = dj[jp]! := ⟨_, rfl⟩
            have l1a := S2.out.ld R (by omega) P (jp + 1) (by omega)
            have l1b := S2.out.ld R (by omega) P (jp) (by omega)
            rw [← hx1] at l1a
            rw [← hy1] at l1b
            have hc1 := S2.out.cmp HC.out (by omega) x1 y1
            have hv1 : cf x1 y1 < 0 := by rw [hx1, hy1]; exact of_decide_eq_true hL
            have hd1 : decide (cf x1 y1 < 0) = true := decide_eq_true hv1
            clear hx1 hy1
            go_wp2_with fail
            go_quiet_grown (first | (go_at_fn g; refine Calls.grown_of (hc1 _ _)))
            have S3 : Aside (SWK enc k w0 blk off dj (grow (wr.drewN nq) osq)) := S2.out.grown nq osq
            clear l1a l1b hc1 S2
            generalize grow (wr.drewN nq) osq = w3 at S3 ⊢
            clear nq osq
            go_wp2_with fail
            have ea2 : ((jp : Int) + 1).toNat = jp + 1 := by omega
            have pa2 : (0 : Int) ≤ (jp : Int) + 1 := by omega
            have ba2 : (jp : Int) + 1 < (d.size : Int) := by omega
            have ra2 : IntKind.i64.wrap ((jp : Int) + 1) = (jp : Int) + 1 := by rw [IntKind.wrap_i64]; omega
            have ec2 : ((jp : Int)).toNat = jp := by omega
            have pc2 : (0 : Int) ≤ (jp : Int) := by omega
            have bc2 : (jp : Int) < (d.size : Int) := by omega
            have rc2 : IntKind.i64.wrap ((jp : Int)) = (jp : Int) := by rw [IntKind.wrap_i64]; omega
            have S4 : Aside (SWK enc k w0 blk off (swp dj (jp + 1) (jp)) ((w3.drew.setCells blk (off + (jp + 1) * k) (enc dj[jp]!)).setCells blk (off + (jp) * k) (enc dj[jp + 1]!))) := S3.out.swapped R (jp + 1) (jp) (by omega) (by omega)
            have l2a := S3.out.ld1 R (by omega) P (jp + 1) (by omega)
            have l2b := S3.out.ld1 R (by omega) P (jp) (by omega)
            have s2a := S3.out.st1 R (by omega) P (jp + 1) (by omega) dj[jp]!
            have s2b := S3.out.st2 R (by omega) P (jp + 1) (jp) (by omega) (by omega) dj[jp]! dj[jp + 1]!
            have n2a : (enc dj[jp + 1]!).length = k := R.hk _
            have n2b : (enc dj[jp]!).length = k := R.hk _
            generalize enc dj[jp + 1]! = cI2 at S4 l2a s2b n2a
            generalize enc dj[jp]! = cJ2 at S4 l2b s2a s2b n2b
            clear S3
            go_wp2_with fail
            go_big_region_o
            clear l2a l2b s2a s2b
            generalize (w3.drew.setCells blk (off + (jp + 1) * k) cJ2).setCells blk (off + (jp) * k) cI2 = w4 at S4 ⊢
            all_goals go_wp2
            go_roundg jp
            case measure => omega
            case rel =>
              obtain ⟨h1, h2, h3, h4⟩ := HJ.out
              obtain ⟨g1, g2, g3⟩ := HAB.out
              obtain ⟨L3, y, rfl⟩ : ∃ L3 y, L1 = L3 ++ [y] := by
                rcases List.eq_nil_or_concat L1 with rfl | ⟨L3, y, rfl⟩
                · simp at h2; omega
                · exact ⟨L3, y, List.concat_eq_append⟩
              simp at h2
              have h5 : dj.toList = (X ++ L3) ++ y :: x :: (L2 ++ (U.drop (i + 1 - a) ++ Z)) := by rw [h4]; simp
              have hsw := swp_next h5 (i := jp) (j := jp + 1) (by simp; omega) (by simp; omega)
              rw [swp_comm] at hsw
              have ex : dj[jp + 1]! = x := arr_at (X := X ++ L3 ++ [y]) (Z := L2 ++ (U.drop (i + 1 - a) ++ Z)) (by rw [h4]; simp) (by simp; omega)
              have ey : dj[jp]! = y := arr_at (X := X ++ L3) (Z := x :: (L2 ++ (U.drop (i + 1 - a) ++ Z))) (by rw [h4]; simp) (by simp; omega)
              rw [ex, ey] at hL
              exact ⟨jp, swp dj (jp + 1) jp, L3, y :: L2, by first | rfl | go_num | (congr 1; omega), by omega, by omega, Nat.le_refl _, by rw [size_swp]; exact hsj, S4, Lib.hid ⟨by rw [h1]; simp, by omega, by intro z hz; rcases List.mem_cons.1 hz with rfl | hz <;> first | exact h3 _ hz | exact hL, by rw [hsw]; simp⟩⟩
          | false =>
            have OUT2 : Aside (Hid (dj.toList = X ++ (isort (ltOf cf) (U.take (i + 1 - a)) ++ (U.drop (i + 1 - a) ++ Z)))) := OUT.out (Or.inr (by simpa using hL))
            have ea3 : ((jp : Int) + 1).toNat = jp + 1 := by omega
            have pa3 : (0 : Int) ≤ (jp : Int) + 1 := by omega
            have ba3 : (jp : Int) + 1 < (d.size : Int) := by omega
            have ra3 : IntKind.i64.wrap ((jp : Int) + 1) = (jp : Int) + 1 := by rw [IntKind.wrap_i64]; omega
            have ec3 : ((jp : Int)).toNat = jp := by omega
            have pc3 : (0 : Int) ≤ (jp : Int) := by omega
            have bc3 : (jp : Int) < (d.size : Int) := by omega
            have rc3 : IntKind.i64.wrap ((jp : Int)) = (jp : Int) := by rw [IntKind.wrap_i64]; omega
            obtain ⟨x3, hx3⟩ : ∃ x, x = dj[jp + 1]! := ⟨_, rfl⟩
            obtain ⟨y3, hy3⟩ : ∃ x, x = dj[jp]! := ⟨_, rfl⟩
            have l3a := S2.out.ld R (by omega) P (jp + 1) (by omega)
            have l3b := S2.out.ld R (by omega) P (jp) (by omega)
            rw [← hx3] at l3a
            rw [← hy3] at l3b
            have hc3 := S2.out.cmp HC.out (by omega) x3 y3
            have hv3 : ¬ cf x3 y3 < 0 := by rw [hx3, hy3]; exact of_decide_eq_false hL
            have hd3 : decide (cf x3 y3 < 0) = false := decide_eq_false hv3
            clear hx3 hy3
            go_wp2_with fail
            go_quiet_grown (first | (go_at_fn g; refine Calls.grown_of (hc3 _ _)))
            have S3 : Aside (SWK enc k w0 blk off dj (grow (wr.drewN nq) osq)) := S2.out.grown nq osq
            clear l3a l3b hc3 S2
            generalize grow (wr.drewN nq) osq = w3 at S3 ⊢
            clear nq osq
            go_wp2
            go_roundg (b - (i + 1))
            case measure => omega
            case rel => exact ⟨i + 1, dj, by go_num, by omega, by omega, by omega, hsj, S3, OUT2.out⟩
        · have OUT2 : Aside (Hid (dj.toList = X ++ (isort (ltOf cf) (U.take (i + 1 - a)) ++ (U.drop (i + 1 - a) ++ Z)))) := OUT.out (Or.inl (by omega))
          have hjaz : decide ((j : Int) > (a : Int)) = false := decide_eq_false (by omega)
          have hjaz' : ¬ (a : Int) < (j : Int) := by omega
          have S3 : Aside (SWK enc k w0 blk off dj wr.drew) := S2.out.drew
          clear S2
          go_wp2_with fail
          go_big_region_o
          all_goals go_wp2
          go_roundg (b - (i + 1))
          case measure => omega
          case rel => exact ⟨i + 1, dj, by go_num, by omega, by omega, by omega, hsj, S3, OUT2.out⟩
    · have hltz : ¬ (i : Int) < (b : Int) := by omega
      go_wp2
      go_end0
      obtain ⟨g1, g2, g3⟩ := HAB.out
      refine ⟨rfl, dk, hsk, ?_, S1.out⟩
      rw [HI.out, List.take_of_length_le (by omega), List.drop_eq_nil_of_le (by omega)]
      simp

end Go.Proofs.YtimhehnmmjgeaaaGreatDoor
