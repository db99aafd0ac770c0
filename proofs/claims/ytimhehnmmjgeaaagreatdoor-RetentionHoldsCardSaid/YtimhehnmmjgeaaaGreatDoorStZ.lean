/- The whole merge of the stable sort at versions. -/
import Derived.Test.YtimhehnmmjgeaaaGreatDoorStY
import Derived.Deep.DeepCutAuto
set_option linter.unusedSimpArgs false
set_option linter.unusedVariables false
namespace Go.Proofs.YtimhehnmmjgeaaaGreatDoor
open Go.Shelf Go.RowKit Go.Lib Go.Sort

variable {P : Program} {k : Nat} {α : Type} [Inhabited α]


def CqP (c : Bool) (p q : Prop) : Prop := c = true ↔ (p ∧ q)


set_option maxHeartbeats 32000000 in
set_option maxRecDepth 1000000 in
theorem sym_bigA (L : StF P k) (enc : α → List Value) (g : Nat) (cb : Array Value) (blk off cap : Nat) (d0 d : Array α) (w0 w : World) (R : RowK enc k w0 blk off d0) (hs : d0.size = d.size) (S : SWK enc k w0 blk off d w) (cf : α → α → Int) (eg : ∀ args w, (callFunc g args).run P w = .ok (.enter g args) w) (hcmp : CmpLays P g cb enc k cf blk off d0.size w0) (hO : Swo (ltOf cf)) (n : Nat) (IH : ∀ (d : Array α) (w : World) (hs : d0.size = d.size) (S : SWK enc k w0 blk off d w) (X A B Z : List α) (hd : d.toList = X ++ (A ++ (B ++ Z))) (hn : A.length + B.length ≤ n) (hA0 : A ≠ []) (hB0 : B ≠ []) (hA : Srt (ltOf cf) A) (hB : Srt (ltOf cf) B) (len : Nat) (hl : len = d.size) (az mz bz : Int) (haz : az = X.length) (hmz : mz = (X.length + A.length : Nat)) (hbz : bz = (X.length + A.length + B.length : Nat)), Calls P 71 #[.slice (some ⟨blk, off, none⟩) len cap, .int .i64 az, .int .i64 mz, .int .i64 bz, .func (.func g) #[] cb] w fun e w' => e = .returned (.tuple #[]) ∧ ∃ d' : Array α, d'.size = d.size ∧ d'.toList = X ++ (mrg (ltOf cf) A B ++ Z) ∧ SWK enc k w0 blk off d' w') (X A B Z : List α) (hd : d.toList = X ++ (A ++ (B ++ Z))) (hn : A.length + B.length ≤ n + 1) (hA2 : 2 ≤ A.length) (hB2 : 2 ≤ B.length) (hA : Srt (ltOf cf) A) (hB : Srt (ltOf cf) B) {a m b : Nat} (ha : a = X.length) (hm : m = a + A.length) (hb : b = m + B.length) (hsz : d.size < 1000000000000) (mid : Nat) (hmid1 : 2 * mid ≤ a + b) (hmid2 : a + b ≤ 2 * mid + 1) (hmm : mid < m) :
    Calls P 71 #[.slice (some ⟨blk, off, none⟩) d.size cap, .int .i64 a, .int .i64 m, .int .i64 b, .func (.func g) #[] cb] w fun e w' => e = .returned (.tuple #[]) ∧ ∃ d' : Array α, d'.size = d.size ∧ d'.toList = X ++ (mrg (ltOf cf) A B ++ Z) ∧ SWK enc k w0 blk off d' w' := by
  have mixed := L.mixed; have t3 := L.t3; have a3 := L.a3; have z3 := L.z3; have v3 := L.v3; have t4 := L.t4; have a4 := L.a4; have z4 := L.z4; have v4 := L.v4; have tu := L.tu; have au := L.au; have zu := L.zu; have e1 := L.en.1; have e2 := L.en.2.1; have e3 := L.en.2.2.1; have e4 := L.en.2.2.2.1; have e5 := L.en.2.2.2.2; have t22 := L.t22; have a22 := L.a22; have z22 := L.z22; have aE := L.aE; have zE := L.zE
  have hlen := congrArg List.length hd
  simp at hlen
  have S0 : Aside (SWK enc k w0 blk off d w) := S
  have HC : Aside (CmpLays P g cb enc k cf blk off d0.size w0) := hcmp
  have HO := Lib.hid hO
  have HD := Lib.hid hd
  have HS := Lib.hid (show Srt (ltOf cf) A ∧ Srt (ltOf cf) B from ⟨hA, hB⟩)
  have HAB := Lib.hid (show a = X.length ∧ m = a + A.length ∧ b = m + B.length ∧ d.size = X.length + (A.length + (B.length + Z.length)) from ⟨ha, hm, hb, hlen⟩)
  have hbd : b ≤ d.size := by omega
  have hmb : m + 2 ≤ b := by omega
  have ham : a + 2 ≤ m := by omega
  have hnb : b ≤ a + n + 1 := by omega
  have HROT := Lib.hid (fun (w : World) (S : SWK enc k w0 blk off d w) (X A B Z : List α) (hd : d.toList = X ++ (A ++ (B ++ Z))) (hA0 : A ≠ []) (hB0 : B ≠ []) (a m b : Nat) (ha : a = X.length) (hm : m = a + A.length) (hb : b = m + B.length) => rotate_any L enc g cb blk off cap d0 d w0 w R hs S X A B Z hd hA0 hB0 ha hm hb hsz)
  have IH := Lib.hid IH
  have hmid : ((a : Int) + (b : Int)) / 2 = (mid : Int) := by omega
  have hb1 : ((m : Int) - (a : Int) == 1) = false := by simp; omega
  have hb2 : ((b : Int) - (m : Int) == 1) = false := by simp; omega
  clear S hd hlen hA hB hcmp hO hn hA2 hB2 ha hm hb
  have hz : (mid : Int) < (m : Int) := by omega
  obtain ⟨lo, hlo⟩ : ∃ lo, lo + b = mid + m := ⟨mid + m - b, by omega⟩
  obtain ⟨hi, hhi⟩ : ∃ hi, hi = mid := ⟨_, rfl⟩
  go_enter L.FsymMerge, Tryz.ntmps71
  go_wp2
  go_loopg [20, 21] (hi - lo) (fun kx s20 s21 wr => ∃ i j : Nat, s20 = .int .i64 i ∧ s21 = .int .i64 j ∧ lo ≤ i ∧ i ≤ j ∧ j ≤ hi ∧ j - i ≤ kx ∧ Aside (SWK enc k w0 blk off d wr) ∧ Hid ((i = lo ∨ ltOf cf d[mid + m - i]! d[i - 1]! = false) ∧ (j = hi ∨ ltOf cf d[mid + m - 1 - j]! d[j]! = true)))
  case atStart => exact ⟨lo, hi, by (congr 1; omega), by (rw [hhi]), by omega, by omega, by omega, Nat.le_refl _, S0, Lib.hid ⟨.inl rfl, .inl rfl⟩⟩
  case round =>
    clear S0
    obtain ⟨i, j, rfl, rfl, hmi, hij, hjb, hkx, S1, HI⟩ := hrel
    by_cases hlt : i < j
    · have hpc : ((i : Int) + (j : Int)) / 2 ≤ (mid : Int) + (m : Int) - 1 := by omega
      cases hL : ltOf cf d[mid + m - 1 - (i + j) / 2]! d[(i + j) / 2]! with
      | false =>
        have ea1 : ((mid : Int) + (m : Int) - 1 - ((i : Int) + (j : Int)) / 2).toNat = mid + m - 1 - (i + j) / 2 := by omega
        have pa1 : (0 : Int) ≤ (mid : Int) + (m : Int) - 1 - ((i : Int) + (j : Int)) / 2 := by omega
        have ba1 : (mid : Int) + (m : Int) - 1 - ((i : Int) + (j : Int)) / 2 < (d.size : Int) := by omega
        have ra1 : IntKind.i64.wrap ((mid : Int) + (m : Int) - 1 - ((i : Int) + (j : Int)) / 2) = (mid : Int) + (m : Int) - 1 - ((i : Int) + (j : Int)) / 2 := by rw [IntKind.wrap_i64]; omega
        have ec1 : (((i : Int) + (j : Int)) / 2).toNat = (i + j) / 2 := by omega
        have pc1 : (0 : Int) ≤ ((i : Int) + (j : Int)) / 2 := by omega
        have bc1 : ((i : Int) + (j : Int)) / 2 < (d.size : Int) := by omega
        have rc1 : IntKind.i64.wrap (((i : Int) + (j : Int)) / 2) = ((i : Int) + (j : Int)) / 2 := by rw [IntKind.wrap_i64]; omega
        obtain ⟨x1, hx1⟩ : ∃ x, x = d[mid + m - 1 - (i + j) / 2]! := ⟨_, rfl⟩
        obtain ⟨y1, hy1⟩ : ∃ x, x = d[(i + j) / 2]! := ⟨_, rfl⟩
        have l1a := S1.out.ld R (by omega) P (mid + m - 1 - (i + j) / 2) (by omega)
        have l1b := S1.out.ld R (by omega) P ((i + j) / 2) (by omega)
        rw [← hx1] at l1a
        rw [← hy1] at l1b
        have hc1 := S1.out.cmp HC.out (by omega) x1 y1
        have hv1 : ¬ cf x1 y1 < 0 := by rw [hx1, hy1]; exact of_decide_eq_false hL
        have hd1 : decide (cf x1 y1 < 0) = false := decide_eq_false hv1
        clear hx1 hy1
        go_wp2_with fail
        go_quiet_grown (first | (go_at_fn g; refine Calls.grown_of (hc1 _ _)))
        have S3 : Aside (SWK enc k w0 blk off d (grow (wr.drewN nq) osq)) := S1.out.grown nq osq
        clear l1a l1b hc1 S1
        generalize grow (wr.drewN nq) osq = w3 at S3 ⊢
        clear nq osq
        go_wp2
        go_roundg (j - ((i + j) / 2 + 1))
        case measure => omega
        case rel => exact ⟨(i + j) / 2 + 1, j, by rw [show ((i : Int) + (j : Int)) / 2 + 1 = (((i + j) / 2 + 1 : Nat) : Int) by omega], rfl, by omega, by omega, hjb, Nat.le_refl _, S3, Lib.hid ⟨.inr (by rw [show mid + m - ((i + j) / 2 + 1) = mid + m - 1 - (i + j) / 2 by omega]; simpa using hL), HI.out.2⟩⟩
      | true =>
        have ea2 : ((mid : Int) + (m : Int) - 1 - ((i : Int) + (j : Int)) / 2).toNat = mid + m - 1 - (i + j) / 2 := by omega
        have pa2 : (0 : Int) ≤ (mid : Int) + (m : Int) - 1 - ((i : Int) + (j : Int)) / 2 := by omega
        have ba2 : (mid : Int) + (m : Int) - 1 - ((i : Int) + (j : Int)) / 2 < (d.size : Int) := by omega
        have ra2 : IntKind.i64.wrap ((mid : Int) + (m : Int) - 1 - ((i : Int) + (j : Int)) / 2) = (mid : Int) + (m : Int) - 1 - ((i : Int) + (j : Int)) / 2 := by rw [IntKind.wrap_i64]; omega
        have ec2 : (((i : Int) + (j : Int)) / 2).toNat = (i + j) / 2 := by omega
        have pc2 : (0 : Int) ≤ ((i : Int) + (j : Int)) / 2 := by omega
        have bc2 : ((i : Int) + (j : Int)) / 2 < (d.size : Int) := by omega
        have rc2 : IntKind.i64.wrap (((i : Int) + (j : Int)) / 2) = ((i : Int) + (j : Int)) / 2 := by rw [IntKind.wrap_i64]; omega
        obtain ⟨x2, hx2⟩ : ∃ x, x = d[mid + m - 1 - (i + j) / 2]! := ⟨_, rfl⟩
        obtain ⟨y2, hy2⟩ : ∃ x, x = d[(i + j) / 2]! := ⟨_, rfl⟩
        have l2a := S1.out.ld R (by omega) P (mid + m - 1 - (i + j) / 2) (by omega)
        have l2b := S1.out.ld R (by omega) P ((i + j) / 2) (by omega)
        rw [← hx2] at l2a
        rw [← hy2] at l2b
        have hc2 := S1.out.cmp HC.out (by omega) x2 y2
        have hv2 : cf x2 y2 < 0 := by rw [hx2, hy2]; exact of_decide_eq_true hL
        have hd2 : decide (cf x2 y2 < 0) = true := decide_eq_true hv2
        clear hx2 hy2
        go_wp2_with fail
        go_quiet_grown (first | (go_at_fn g; refine Calls.grown_of (hc2 _ _)))
        have S3 : Aside (SWK enc k w0 blk off d (grow (wr.drewN nq) osq)) := S1.out.grown nq osq
        clear l2a l2b hc2 S1
        generalize grow (wr.drewN nq) osq = w3 at S3 ⊢
        clear nq osq
        go_wp2
        go_roundg ((i + j) / 2 - i)
        case measure => omega
        case rel => exact ⟨i, (i + j) / 2, rfl, by rw [show ((i : Int) + (j : Int)) / 2 = (((i + j) / 2 : Nat) : Int) by omega], hmi, by omega, by omega, Nat.le_refl _, S3, Lib.hid ⟨HI.out.1, .inr hL⟩⟩
    · obtain rfl : i = j := by omega
      obtain ⟨e, he⟩ : ∃ e, e = mid + m - i := ⟨_, rfl⟩
      have hez : (mid : Int) + (m : Int) - (i : Int) = (e : Int) := by omega
      have he1 : m ≤ e := by omega
      have he2 : e ≤ b := by omega
      have hei : e + i = mid + m := by omega
      obtain ⟨A1, A2, B1, B2, HM⟩ : ∃ A1 A2 B1 B2, Hid (A = A1 ++ A2 ∧ B = B1 ++ B2 ∧ A1.length = i - a ∧ A2.length = m - i ∧ B1.length = e - m ∧ B2.length = b - e ∧ mrg (ltOf cf) A B = mrg (ltOf cf) A1 B1 ++ mrg (ltOf cf) A2 B2 ∧ Srt (ltOf cf) A1 ∧ Srt (ltOf cf) A2 ∧ Srt (ltOf cf) B1 ∧ Srt (ltOf cf) B2) := by
        obtain ⟨g1, g2, g3, g4⟩ := HAB.out
        obtain ⟨hA, hB⟩ := HS.out
        obtain ⟨q1, q2⟩ := HI.out
        have hsp := sym_split HO.out (dk := d) (X := X) (A := A) (B := B) (Z := Z) HD.out hA hB (a := a) (m := m) (b := b) (s := i) (e := e) g1 g2 g3 (by omega) (by omega) he1 he2
          (by rcases q1 with q1 | q1
              · exact .inr (.inl (by omega))
              · rw [he]; exact .inr (.inr q1))
          (by rcases q2 with q2 | q2
              · exact .inr (.inl (by omega))
              · rw [he, show mid + m - i - 1 = mid + m - 1 - i by omega]; exact .inr (.inr q2))
        refine ⟨A.take (i - a), A.drop (i - a), B.take (e - m), B.drop (e - m), Lib.hid ⟨(List.take_append_drop _ _).symm, (List.take_append_drop _ _).symm, by simp; omega, by simp; omega, by simp; omega, by simp; omega, hsp, ?_, ?_, ?_, ?_⟩⟩
        · exact List.Pairwise.sublist (List.take_sublist _ _) hA
        · exact List.Pairwise.sublist (List.drop_sublist _ _) hA
        · exact List.Pairwise.sublist (List.take_sublist _ _) hB
        · exact List.Pairwise.sublist (List.drop_sublist _ _) hB
      clear HI he
      go_upto_region 39 with fail
      go_cut [185] (fun sc wx => ∃ c : Bool, sc = .bool c ∧ CqP c (i < m) (m < e) ∧ wx = wr)
      case first =>
        as_aux_lemma =>
          by_cases hp : i < m
          · have hpz : (i : Int) < (m : Int) := by omega
            by_cases hq : m < e
            · have hqz : (m : Int) < (e : Int) := by omega
              have HC1 : CqP true (i < m) (m < e) := by unfold CqP; simp [hp, hq]
              go_wp2_with fail
              go_meet
              exact ⟨true, rfl, HC1, rfl⟩
            · have hqz : ¬ ((m : Int) < (e : Int)) := by omega
              have HC1 : CqP false (i < m) (m < e) := by unfold CqP; simp [hp, hq]
              go_wp2_with fail
              go_meet
              exact ⟨false, rfl, HC1, rfl⟩
          · have hpz : ¬ ((i : Int) < (m : Int)) := by omega
            have HC1 : CqP false (i < m) (m < e) := by unfold CqP; simp [hp]
            go_wp2_with fail
            go_meet
            exact ⟨false, rfl, HC1, rfl⟩
      case rest =>
        as_aux_lemma =>
          obtain ⟨cq, rfl, HCQ, rfl⟩ := hcut
          go_upto_if 185 with fail
          go_cut [] (fun wx => ∃ d2 : Array α, d2.size = d.size ∧ Aside (SWK enc k w0 blk off d2 wx) ∧ Hid (d2.toList = X ++ (A1 ++ (B1 ++ (A2 ++ (B2 ++ Z))))))
          case first =>
            as_aux_lemma =>
              rcases cq with _ | _
              · have hn : ¬ (i < m ∧ m < e) := fun h => by have := HCQ.2 h; cases this
                go_wp2
                go_meet
                refine ⟨d, rfl, S1, Lib.hid ?_⟩
                obtain ⟨m1, m2, m3, m4, m5, m6, m7, m8, m9, m10, m11⟩ := HM.out; obtain ⟨g1, g2, g3, g4⟩ := HAB.out; have lA := congrArg List.length m1; have lB := congrArg List.length m2; simp only [List.length_append] at lA lB
                rw [HD.out, m1, m2]
                have : A2 = [] ∨ B1 = [] := by
                  by_cases h : i < m
                  · exact .inr (List.eq_nil_of_length_eq_zero (by omega))
                  · exact .inl (List.eq_nil_of_length_eq_zero (by omega))
                rcases this with rfl | rfl <;> simp
              · have hc := HCQ.1 rfl
                have S4 := S1.out
                clear S1
                go_wp2_with fail
                refine Calls.mono (HROT.out _ S4 (X ++ A1) A2 B1 (B2 ++ Z) ?a1 ?a2 ?a3 i m e ?a4 ?a5 ?a6) ?_
                case a1 => obtain ⟨m1, m2, m3, m4, m5, m6, m7, m8, m9, m10, m11⟩ := HM.out; obtain ⟨g1, g2, g3, g4⟩ := HAB.out; have lA := congrArg List.length m1; have lB := congrArg List.length m2; simp only [List.length_append] at lA lB; rw [HD.out, m1, m2]; simp
                case a2 => obtain ⟨m1, m2, m3, m4, m5, m6, m7, m8, m9, m10, m11⟩ := HM.out; obtain ⟨g1, g2, g3, g4⟩ := HAB.out; have lA := congrArg List.length m1; have lB := congrArg List.length m2; simp only [List.length_append] at lA lB; exact List.length_pos_iff.1 (by omega)
                case a3 => obtain ⟨m1, m2, m3, m4, m5, m6, m7, m8, m9, m10, m11⟩ := HM.out; obtain ⟨g1, g2, g3, g4⟩ := HAB.out; have lA := congrArg List.length m1; have lB := congrArg List.length m2; simp only [List.length_append] at lA lB; exact List.length_pos_iff.1 (by omega)
                case a4 => obtain ⟨m1, m2, m3, m4, m5, m6, m7, m8, m9, m10, m11⟩ := HM.out; obtain ⟨g1, g2, g3, g4⟩ := HAB.out; have lA := congrArg List.length m1; have lB := congrArg List.length m2; simp only [List.length_append] at lA lB; rw [List.length_append]; omega
                case a5 => obtain ⟨m1, m2, m3, m4, m5, m6, m7, m8, m9, m10, m11⟩ := HM.out; obtain ⟨g1, g2, g3, g4⟩ := HAB.out; have lA := congrArg List.length m1; have lB := congrArg List.length m2; simp only [List.length_append] at lA lB; omega
                case a6 => obtain ⟨m1, m2, m3, m4, m5, m6, m7, m8, m9, m10, m11⟩ := HM.out; obtain ⟨g1, g2, g3, g4⟩ := HAB.out; have lA := congrArg List.length m1; have lB := congrArg List.length m2; simp only [List.length_append] at lA lB; omega
                rintro en w5 ⟨rfl, d5, hd5, hdl, S5⟩
                have HDL := Lib.hid hdl
                clear hdl
                go_wp2
                go_meet
                exact ⟨d5, hd5, S5, Lib.hid (by rw [HDL.out]; simp)⟩
          case rest =>
            as_aux_lemma =>
              obtain ⟨d2, hd2, S2, H2⟩ := hcut
              clear S1 HCQ
              generalize hwr : wc = wr at S2 ⊢
              clear hwr
              go_upto_region 41 with fail
              go_cut [199] (fun sc wx => ∃ c : Bool, sc = .bool c ∧ CqP c (a < i) (i < mid) ∧ wx = wr)
              case first =>
                as_aux_lemma =>
                  by_cases hp : a < i
                  · have hpz : (a : Int) < (i : Int) := by omega
                    by_cases hq : i < mid
                    · have hqz : (i : Int) < (mid : Int) := by omega
                      have HC1 : CqP true (a < i) (i < mid) := by unfold CqP; simp [hp, hq]
                      go_wp2_with fail
                      go_meet
                      exact ⟨true, rfl, HC1, rfl⟩
                    · have hqz : ¬ ((i : Int) < (mid : Int)) := by omega
                      have HC1 : CqP false (a < i) (i < mid) := by unfold CqP; simp [hp, hq]
                      go_wp2_with fail
                      go_meet
                      exact ⟨false, rfl, HC1, rfl⟩
                  · have hpz : ¬ ((a : Int) < (i : Int)) := by omega
                    have HC1 : CqP false (a < i) (i < mid) := by unfold CqP; simp [hp]
                    go_wp2_with fail
                    go_meet
                    exact ⟨false, rfl, HC1, rfl⟩
              case rest =>
                as_aux_lemma =>
                  obtain ⟨cq, rfl, HCQ, rfl⟩ := hcut
                  go_upto_if 199 with fail
                  go_cut [] (fun wx => ∃ d3 : Array α, d3.size = d.size ∧ Aside (SWK enc k w0 blk off d3 wx) ∧ Hid (d3.toList = X ++ (mrg (ltOf cf) A1 B1 ++ (A2 ++ (B2 ++ Z)))))
                  case first =>
                    as_aux_lemma =>
                      rcases cq with _ | _
                      · have hn : ¬ (a < i ∧ i < mid) := fun h => by have := HCQ.2 h; cases this
                        go_wp2
                        go_meet
                        refine ⟨d2, hd2, S2, Lib.hid ?_⟩
                        obtain ⟨m1, m2, m3, m4, m5, m6, m7, m8, m9, m10, m11⟩ := HM.out; obtain ⟨g1, g2, g3, g4⟩ := HAB.out; have lA := congrArg List.length m1; have lB := congrArg List.length m2; simp only [List.length_append] at lA lB
                        rw [H2.out]
                        have : A1 = [] ∨ B1 = [] := by
                          by_cases h : a < i
                          · exact .inr (List.eq_nil_of_length_eq_zero (by omega))
                          · exact .inl (List.eq_nil_of_length_eq_zero (by omega))
                        rcases this with rfl | rfl
                        · rw [mrg_nil_left]; simp
                        · rw [mrg_nil_right]; simp
                      · have hc := HCQ.1 rfl
                        have S4 := S2.out
                        clear S2
                        go_wp2_with fail
                        refine Calls.mono (IH.out d2 _ (by omega) S4 (X) A1 B1 (A2 ++ (B2 ++ Z)) ?b1 ?b2 ?b3 ?b4 (HM.out.2.2.2.2.2.2.2.1) (HM.out.2.2.2.2.2.2.2.2.2.1) _ ?b5 _ _ _ ?b6 ?b7 ?b8) ?_
                        case b1 => rw [H2.out]
                        case b2 => obtain ⟨m1, m2, m3, m4, m5, m6, m7, m8, m9, m10, m11⟩ := HM.out; obtain ⟨g1, g2, g3, g4⟩ := HAB.out; have lA := congrArg List.length m1; have lB := congrArg List.length m2; simp only [List.length_append] at lA lB; omega
                        case b3 => obtain ⟨m1, m2, m3, m4, m5, m6, m7, m8, m9, m10, m11⟩ := HM.out; obtain ⟨g1, g2, g3, g4⟩ := HAB.out; have lA := congrArg List.length m1; have lB := congrArg List.length m2; simp only [List.length_append] at lA lB; exact List.length_pos_iff.1 (by omega)
                        case b4 => obtain ⟨m1, m2, m3, m4, m5, m6, m7, m8, m9, m10, m11⟩ := HM.out; obtain ⟨g1, g2, g3, g4⟩ := HAB.out; have lA := congrArg List.length m1; have lB := congrArg List.length m2; simp only [List.length_append] at lA lB; exact List.length_pos_iff.1 (by omega)
                        case b5 => omega
                        case b6 => obtain ⟨m1, m2, m3, m4, m5, m6, m7, m8, m9, m10, m11⟩ := HM.out; obtain ⟨g1, g2, g3, g4⟩ := HAB.out; have lA := congrArg List.length m1; have lB := congrArg List.length m2; simp only [List.length_append] at lA lB; omega
                        case b7 => obtain ⟨m1, m2, m3, m4, m5, m6, m7, m8, m9, m10, m11⟩ := HM.out; obtain ⟨g1, g2, g3, g4⟩ := HAB.out; have lA := congrArg List.length m1; have lB := congrArg List.length m2; simp only [List.length_append] at lA lB; omega
                        case b8 => obtain ⟨m1, m2, m3, m4, m5, m6, m7, m8, m9, m10, m11⟩ := HM.out; obtain ⟨g1, g2, g3, g4⟩ := HAB.out; have lA := congrArg List.length m1; have lB := congrArg List.length m2; simp only [List.length_append] at lA lB; omega
                        rintro en w5 ⟨rfl, d5, hd5, hdl, S5⟩
                        have HDL := Lib.hid hdl
                        clear hdl
                        go_wp2
                        go_meet
                        exact ⟨d5, by omega, S5, HDL⟩
                  case rest =>
                    as_aux_lemma =>
                      obtain ⟨d3, hd3, S3, H3⟩ := hcut
                      clear S2 HCQ
                      generalize hwr : wc = wr at S3 ⊢
                      clear hwr
                      go_upto_region 43 with fail
                      go_cut [213] (fun sc wx => ∃ c : Bool, sc = .bool c ∧ CqP c (mid < e) (e < b) ∧ wx = wr)
                      case first =>
                        as_aux_lemma =>
                          by_cases hp : mid < e
                          · have hpz : (mid : Int) < (e : Int) := by omega
                            by_cases hq : e < b
                            · have hqz : (e : Int) < (b : Int) := by omega
                              have HC1 : CqP true (mid < e) (e < b) := by unfold CqP; simp [hp, hq]
                              go_wp2_with fail
                              go_meet
                              exact ⟨true, rfl, HC1, rfl⟩
                            · have hqz : ¬ ((e : Int) < (b : Int)) := by omega
                              have HC1 : CqP false (mid < e) (e < b) := by unfold CqP; simp [hp, hq]
                              go_wp2_with fail
                              go_meet
                              exact ⟨false, rfl, HC1, rfl⟩
                          · have hpz : ¬ ((mid : Int) < (e : Int)) := by omega
                            have HC1 : CqP false (mid < e) (e < b) := by unfold CqP; simp [hp]
                            go_wp2_with fail
                            go_meet
                            exact ⟨false, rfl, HC1, rfl⟩
                      case rest =>
                        as_aux_lemma =>
                          obtain ⟨cq, rfl, HCQ, rfl⟩ := hcut
                          rcases cq with _ | _
                          · have hn : ¬ (mid < e ∧ e < b) := fun h => by have := HCQ.2 h; cases this
                            go_wp2
                            go_end0
                            obtain ⟨m1, m2, m3, m4, m5, m6, m7, m8, m9, m10, m11⟩ := HM.out; obtain ⟨g1, g2, g3, g4⟩ := HAB.out; have lA := congrArg List.length m1; have lB := congrArg List.length m2; simp only [List.length_append] at lA lB
                            refine ⟨rfl, d3, hd3, ?_, S3.out⟩
                            rw [H3.out, m7]
                            have : A2 = [] ∨ B2 = [] := by
                              by_cases h : mid < e
                              · exact .inr (List.eq_nil_of_length_eq_zero (by omega))
                              · exact .inl (List.eq_nil_of_length_eq_zero (by omega))
                            rcases this with rfl | rfl
                            · rw [mrg_nil_left]; simp
                            · rw [mrg_nil_right]; simp
                          · have hc := HCQ.1 rfl
                            have S4 := S3.out
                            clear S3
                            go_wp2_with fail
                            refine Calls.mono (IH.out d3 _ (by omega) S4 (X ++ mrg (ltOf cf) A1 B1) A2 B2 (Z) ?c1 ?c2 ?c3 ?c4 (HM.out.2.2.2.2.2.2.2.2.1) (HM.out.2.2.2.2.2.2.2.2.2.2) _ ?c5 _ _ _ ?c6 ?c7 ?c8) ?_
                            case c1 => rw [H3.out]; simp
                            case c2 => obtain ⟨m1, m2, m3, m4, m5, m6, m7, m8, m9, m10, m11⟩ := HM.out; obtain ⟨g1, g2, g3, g4⟩ := HAB.out; have lA := congrArg List.length m1; have lB := congrArg List.length m2; simp only [List.length_append] at lA lB; omega
                            case c3 => obtain ⟨m1, m2, m3, m4, m5, m6, m7, m8, m9, m10, m11⟩ := HM.out; obtain ⟨g1, g2, g3, g4⟩ := HAB.out; have lA := congrArg List.length m1; have lB := congrArg List.length m2; simp only [List.length_append] at lA lB; exact List.length_pos_iff.1 (by omega)
                            case c4 => obtain ⟨m1, m2, m3, m4, m5, m6, m7, m8, m9, m10, m11⟩ := HM.out; obtain ⟨g1, g2, g3, g4⟩ := HAB.out; have lA := congrArg List.length m1; have lB := congrArg List.length m2; simp only [List.length_append] at lA lB; exact List.length_pos_iff.1 (by omega)
                            case c5 => omega
                            case c6 => obtain ⟨m1, m2, m3, m4, m5, m6, m7, m8, m9, m10, m11⟩ := HM.out; obtain ⟨g1, g2, g3, g4⟩ := HAB.out; have lA := congrArg List.length m1; have lB := congrArg List.length m2; simp only [List.length_append] at lA lB; rw [List.length_append, mrg_length]; omega
                            case c7 => obtain ⟨m1, m2, m3, m4, m5, m6, m7, m8, m9, m10, m11⟩ := HM.out; obtain ⟨g1, g2, g3, g4⟩ := HAB.out; have lA := congrArg List.length m1; have lB := congrArg List.length m2; simp only [List.length_append] at lA lB; rw [List.length_append, mrg_length]; omega
                            case c8 => obtain ⟨m1, m2, m3, m4, m5, m6, m7, m8, m9, m10, m11⟩ := HM.out; obtain ⟨g1, g2, g3, g4⟩ := HAB.out; have lA := congrArg List.length m1; have lB := congrArg List.length m2; simp only [List.length_append] at lA lB; rw [List.length_append, mrg_length]; omega
                            rintro en w5 ⟨rfl, d5, hd5, hdl, S5⟩
                            have HDL := Lib.hid hdl
                            clear hdl
                            go_wp2
                            go_end0
                            obtain ⟨m1, m2, m3, m4, m5, m6, m7, m8, m9, m10, m11⟩ := HM.out; obtain ⟨g1, g2, g3, g4⟩ := HAB.out; have lA := congrArg List.length m1; have lB := congrArg List.length m2; simp only [List.length_append] at lA lB
                            exact ⟨rfl, d5, by omega, by rw [HDL.out, m7]; simp, S5⟩

end Go.Proofs.YtimhehnmmjgeaaaGreatDoor
