/- The stable sort at versions. -/
import Derived.Test.YtimhehnmmjgeaaaGreatDoorStZb
set_option linter.unusedSimpArgs false
set_option linter.unusedVariables false
namespace Go.Proofs.YtimhehnmmjgeaaaGreatDoor
open Go.Shelf Go.RowKit Go.Lib Go.Sort

variable {P : Program} {k : Nat} {α : Type} [Inhabited α]


theorem symMerge_any (L : StF P k) (enc : α → List Value) (g : Nat) (cb : Array Value) (blk off cap : Nat) (d0 : Array α) (w0 : World) (R : RowK enc k w0 blk off d0) (cf : α → α → Int) (eg : ∀ args w, (callFunc g args).run P w = .ok (.enter g args) w) (hcmp : CmpLays P g cb enc k cf blk off d0.size w0) (hO : Swo (ltOf cf)) (hsz : d0.size < 1000000000000) (n : Nat) :
    ∀ (d : Array α) (w : World) (hs : d0.size = d.size) (S : SWK enc k w0 blk off d w) (X A B Z : List α) (hd : d.toList = X ++ (A ++ (B ++ Z))) (hn : A.length + B.length ≤ n) (hA0 : A ≠ []) (hB0 : B ≠ []) (hA : Srt (ltOf cf) A) (hB : Srt (ltOf cf) B) (len : Nat) (hl : len = d.size) (az mz bz : Int) (haz : az = X.length) (hmz : mz = (X.length + A.length : Nat)) (hbz : bz = (X.length + A.length + B.length : Nat)), Calls P 71 #[.slice (some ⟨blk, off, none⟩) len cap, .int .i64 az, .int .i64 mz, .int .i64 bz, .func (.func g) #[] cb] w fun e w' => e = .returned (.tuple #[]) ∧ ∃ d' : Array α, d'.size = d.size ∧ d'.toList = X ++ (mrg (ltOf cf) A B ++ Z) ∧ SWK enc k w0 blk off d' w' := by
  induction n with
  | zero =>
    intro d w hs S X A B Z hd hn hA0
    have := List.length_pos_iff.2 hA0
    omega
  | succ n ih =>
    intro d w hs S X A B Z hd hn hA0 hB0 hA hB len hl az mz bz haz hmz hbz
    subst hl haz hmz hbz
    have p1 := List.length_pos_iff.2 hA0
    have p2 := List.length_pos_iff.2 hB0
    by_cases h12 : A.length = 1 ∨ (¬ A.length = 1 ∧ B.length = 1)
    · exact sym12 L enc g cb blk off cap d0 d w0 w R hs S cf eg hcmp hO X A B Z hd hA0 hB0 hA hB h12 rfl rfl rfl (by omega)
    · obtain ⟨mid, hm1, hm2⟩ : ∃ mid : Nat, 2 * mid ≤ X.length + (X.length + A.length + B.length) ∧ X.length + (X.length + A.length + B.length) ≤ 2 * mid + 1 := ⟨(X.length + (X.length + A.length + B.length)) / 2, by omega, by omega⟩
      by_cases hmm : mid < X.length + A.length
      · exact sym_bigA L enc g cb blk off cap d0 d w0 w R hs S cf eg hcmp hO n ih X A B Z hd hn (by omega) (by omega) hA hB rfl rfl rfl (by omega) mid hm1 hm2 hmm
      · exact sym_bigB L enc g cb blk off cap d0 d w0 w R hs S cf eg hcmp hO n ih X A B Z hd hn (by omega) (by omega) hA hB rfl rfl rfl (by omega) mid hm1 hm2 hmm
theorem ins_z (L : StF P k) (enc : α → List Value) (g : Nat) (cb : Array Value) (blk off cap : Nat) (d0 d : Array α) (w0 w : World) (R : RowK enc k w0 blk off d0) (hs : d0.size = d.size) (S : SWK enc k w0 blk off d w) (cf : α → α → Int) (eg : ∀ args w, (callFunc g args).run P w = .ok (.enter g args) w) (hcmp : CmpLays P g cb enc k cf blk off d0.size w0) (hO : Swo (ltOf cf)) (X U Z : List α) (hd : d.toList = X ++ (U ++ Z)) (len : Nat) (hl : len = d.size) (az bz : Int) (haz : az = X.length) (hbz : bz = (X.length + U.length : Nat)) (hsz : d.size < 1000000000000) :
    Calls P 70 #[.slice (some ⟨blk, off, none⟩) len cap, .int .i64 az, .int .i64 bz, .func (.func g) #[] cb] w fun e w' => e = .returned (.tuple #[]) ∧ ∃ d' : Array α, d'.size = d.size ∧ d'.toList = X ++ (isort (ltOf cf) U ++ Z) ∧ SWK enc k w0 blk off d' w' := by
  subst hl haz hbz
  exact ins_any L enc g cb blk off cap d0 d w0 w R hs S cf eg hcmp hO X U Z hd rfl rfl hsz

set_option maxHeartbeats 8000000 in
set_option maxRecDepth 1000000 in
theorem stable_any (L : StF P k) (enc : α → List Value) (g : Nat) (cb : Array Value) (blk off cap : Nat) (d0 d : Array α) (w0 w : World) (R : RowK enc k w0 blk off d0) (hs : d0.size = d.size) (S : SWK enc k w0 blk off d w) (cf : α → α → Int) (eg : ∀ args w, (callFunc g args).run P w = .ok (.enter g args) w) (hcmp : CmpLays P g cb enc k cf blk off d0.size w0) (hO : Swo (ltOf cf)) (hsz : d.size < 1000000000000) :
    Calls P 50 #[.slice (some ⟨blk, off, none⟩) d.size cap, .int .i64 d.size, .func (.func g) #[] cb] w fun e w' => e = .returned (.tuple #[]) ∧ ∃ d' : Array α, d'.size = d.size ∧ d'.toList = isort (ltOf cf) d.toList ∧ SWK enc k w0 blk off d' w' := by
  have mixed := L.mixed; have t3 := L.t3; have a3 := L.a3; have z3 := L.z3; have v3 := L.v3; have t4 := L.t4; have a4 := L.a4; have z4 := L.z4; have v4 := L.v4; have tu := L.tu; have au := L.au; have zu := L.zu; have e1 := L.en.1; have e2 := L.en.2.1; have e3 := L.en.2.2.1; have e4 := L.en.2.2.2.1; have e5 := L.en.2.2.2.2; have t22 := L.t22; have a22 := L.a22; have z22 := L.z22; have aE := L.aE; have zE := L.zE
  have S0 : Aside (SWK enc k w0 blk off d w) := S
  have HINS := Lib.hid (fun (dk : Array α) (hk : d0.size = dk.size) (hk2 : dk.size < 1000000000000) (w : World) (S : SWK enc k w0 blk off dk w) (X U Z : List α) (hd : dk.toList = X ++ (U ++ Z)) (len : Nat) (hl : len = dk.size) (az bz : Int) (haz : az = X.length) (hbz : bz = (X.length + U.length : Nat)) => ins_z L enc g cb blk off cap d0 dk w0 w R hk S cf eg hcmp hO X U Z hd len hl az bz haz hbz hk2)
  have HSYM := Lib.hid (fun (n : Nat) => symMerge_any L enc g cb blk off cap d0 w0 R cf eg hcmp hO (by omega) n)
  have HSO := Lib.hid (fun U => isort_srt hO U)
  have HAP := Lib.hid (fun U V => isort_append hO U V)
  obtain ⟨D, hD⟩ : ∃ D, D = d.toList := ⟨_, rfl⟩
  have HD := Lib.hid (show D.length = d.size by rw [hD]; simp)
  have HD0 := Lib.hid hD
  rw [← hD]
  clear S hD hcmp hO eg
  generalize hn : d.size = n at HD hsz ⊢
  have HN := Lib.hid hn
  clear hn
  go_enter L.Fstable, Tryz.ntmps50
  go_wp2
  go_loopg [7, 8] (n + 1) (fun kx s7 s8 wr => ∃ (a q : Nat) (dk : Array α), s7 = .int .i64 a ∧ s8 = .int .i64 ((a : Int) + 20) ∧ a ≤ n ∧ n + 1 - a ≤ kx ∧ dk.size = n ∧ Aside (SWK enc k w0 blk off dk wr) ∧ Hid (a = q * 20 ∧ dk.toList = chunkS (ltOf cf) 20 (D.take a) ++ D.drop a))
  case atStart => exact ⟨0, 0, d, rfl, by first | rfl | go_num | simp, by omega, Nat.le_refl _, HN.out, S0, Lib.hid ⟨rfl, by rw [List.take_zero, chunkS_end (by simp), isort_nil, ← HD0.out]; rfl⟩⟩
  case round =>
    clear S0
    obtain ⟨a, q, dk, rfl, rfl, han, hkx, hds, S1, HI⟩ := hrel
    by_cases hlt : a + 20 ≤ n
    · have hz : (a : Int) + 20 ≤ (n : Int) := by omega
      have S2 := S1.out
      clear S1
      go_wp2_with fail
      refine Calls.mono (HINS.out dk (by have := HN.out; omega) (by omega) _ S2 (chunkS (ltOf cf) 20 (D.take a)) ((D.drop a).take 20) (D.drop (a + 20)) ?a1 _ ?a2 _ _ ?a3 ?a4) ?_
      case a1 => rw [HI.out.2, ← List.drop_drop, List.take_append_drop]
      case a2 => exact hds.symm
      case a3 => rw [chunkS_length, List.length_take]; have := HD.out; omega
      case a4 => rw [chunkS_length, List.length_take, List.length_take, List.length_drop]; have := HD.out; omega
      rintro en w2 ⟨rfl, d2, hd2, hdl, S3⟩
      have HDL := Lib.hid hdl
      have S4 : Aside (SWK enc k w0 blk off d2 w2) := S3
      clear hdl S3 S2
      go_wp2
      go_roundg (n + 1 - (a + 20))
      case measure => omega
      case rel =>
        refine ⟨a + 20, q + 1, d2, by go_num, by first | rfl | go_num | (congr 1; omega), by omega, Nat.le_refl _, by omega, S4, Lib.hid ⟨by have := HI.out.1; omega, ?_⟩⟩
        have hL := HD.out
        rw [HDL.out, show D.take (a + 20) = D.take a ++ (D.drop a).take 20 from List.take_add, chunkS_append (by omega) q _ _ (by rw [List.length_take]; have := HI.out.1; omega), chunkS_end (bs := 20) (l := (D.drop a).take 20) (by simp; omega)]
        simp
    · have hz : ¬ ((a : Int) + 20 ≤ (n : Int)) := by omega
      have S2 := S1.out
      clear S1
      go_wp2_with fail
      refine Calls.mono (HINS.out dk (by have := HN.out; omega) (by omega) _ S2 (chunkS (ltOf cf) 20 (D.take a)) (D.drop a) [] ?b1 _ ?b2 _ _ ?b3 ?b4) ?_
      case b1 => rw [HI.out.2]; simp
      case b2 => exact hds.symm
      case b3 => rw [chunkS_length, List.length_take]; have := HD.out; omega
      case b4 => rw [chunkS_length, List.length_take, List.length_drop]; have := HD.out; omega
      rintro en w2 ⟨rfl, d2, hd2, hdl, S3⟩
      have HDL : Hid (d2.toList = chunkS (ltOf cf) 20 D) := Lib.hid (by
        have hL := HD.out
        have h1 := chunkS_append (lt := ltOf cf) (bs := 20) (by omega) q (D.take a) (D.drop a) (by rw [List.length_take]; have := HI.out.1; omega)
        rw [List.take_append_drop] at h1
        rw [hdl, h1, chunkS_end (bs := 20) (l := D.drop a) (by simp; omega)]
        simp)
      have S4 : Aside (SWK enc k w0 blk off d2 w2) := S3
      clear hdl S3 S2 HI
      go_wp2
      go_loopg [6] (n + 1) (fun kx s6 wr => ∃ (bs : Nat) (dk : Array α), s6 = .int .i64 bs ∧ 20 ≤ bs ∧ bs ≤ 2000000000000 ∧ n + 1 - bs ≤ kx ∧ dk.size = n ∧ Aside (SWK enc k w0 blk off dk wr) ∧ Hid (dk.toList = chunkS (ltOf cf) bs D))
      case atStart => exact ⟨20, d2, rfl, by omega, by omega, by omega, by omega, S4, HDL⟩
      case round =>
        clear S4 HDL
        obtain ⟨bs, dk, rfl, hb20, hbb, hkx2, hds2, S1, HI⟩ := hrel
        by_cases hlt2 : bs < n
        · go_wp2
          go_loopg [7, 8] (n + 1) (fun kx s7 s8 wr => ∃ (a q : Nat) (dk : Array α), s7 = .int .i64 a ∧ s8 = .int .i64 ((a : Int) + 2 * (bs : Int)) ∧ a ≤ n ∧ n + 1 - a ≤ kx ∧ dk.size = n ∧ Aside (SWK enc k w0 blk off dk wr) ∧ Hid (a = q * (2 * bs) ∧ dk.toList = chunkS (ltOf cf) (2 * bs) (D.take a) ++ chunkS (ltOf cf) bs (D.drop a)))
          case atStart => exact ⟨0, 0, dk, rfl, by first | rfl | go_num | simp, by omega, Nat.le_refl _, hds2, S1, Lib.hid ⟨by omega, by rw [List.take_zero, chunkS_end (by simp), isort_nil, HI.out]; rfl⟩⟩
          case round =>
            clear S1
            obtain ⟨a, q, dk, rfl, rfl, han, hkx, hds, S1, HJ⟩ := hrel
            by_cases hlt3 : a + 2 * bs ≤ n
            · have hz3 : (a : Int) + 2 * (bs : Int) ≤ (n : Int) := by omega
              obtain ⟨U1, U2, V, HU⟩ : ∃ U1 U2 V, Hid (D.drop a = U1 ++ (U2 ++ V) ∧ U1.length = bs ∧ U2.length = bs ∧ V = D.drop (a + 2 * bs) ∧ D.take (a + 2 * bs) = D.take a ++ (U1 ++ U2)) := by
                have hL := HD.out
                refine ⟨(D.drop a).take bs, ((D.drop a).drop bs).take bs, (D.drop a).drop (bs + bs), Lib.hid ⟨?_, by simp; omega, by simp; omega, by rw [List.drop_drop]; congr 1; omega, ?_⟩⟩
                · rw [← List.drop_drop, List.take_append_drop, List.take_append_drop]
                · rw [List.take_add, show 2 * bs = bs + bs by omega, List.take_add]
              have HJ2 : Hid (dk.toList = chunkS (ltOf cf) (2 * bs) (D.take a) ++ (isort (ltOf cf) U1 ++ (isort (ltOf cf) U2 ++ chunkS (ltOf cf) bs V))) := Lib.hid (by
                obtain ⟨u1, u2, u3, u4, u5⟩ := HU.out
                rw [HJ.out.2, u1, chunkS_head (by omega) u2, chunkS_head (by omega) u3])
              have S2 := S1.out
              clear S1
              go_wp2_with fail
              refine Calls.mono (HSYM.out (2 * bs) dk _ (by have := HN.out; omega) S2 (chunkS (ltOf cf) (2 * bs) (D.take a)) (isort (ltOf cf) U1) (isort (ltOf cf) U2) (chunkS (ltOf cf) bs V) HJ2.out ?c1 ?c2 ?c3 (HSO.out _) (HSO.out _) _ ?c4 _ _ _ ?c5 ?c6 ?c7) ?_
              case c1 => obtain ⟨u1, u2, u3, u4, u5⟩ := HU.out; rw [isort_length, isort_length]; omega
              case c2 => obtain ⟨u1, u2, u3, u4, u5⟩ := HU.out; exact List.length_pos_iff.1 (by rw [isort_length]; omega)
              case c3 => obtain ⟨u1, u2, u3, u4, u5⟩ := HU.out; exact List.length_pos_iff.1 (by rw [isort_length]; omega)
              case c4 => exact hds.symm
              case c5 => rw [chunkS_length, List.length_take]; have := HD.out; omega
              case c6 => obtain ⟨u1, u2, u3, u4, u5⟩ := HU.out; rw [chunkS_length, List.length_take, isort_length]; have := HD.out; omega
              case c7 => obtain ⟨u1, u2, u3, u4, u5⟩ := HU.out; rw [chunkS_length, List.length_take, isort_length, isort_length]; have := HD.out; omega
              rintro en w2 ⟨rfl, d2, hd2, hdl, S3⟩
              have HDL := Lib.hid hdl
              have S4 : Aside (SWK enc k w0 blk off d2 w2) := S3
              clear hdl S3 S2
              go_wp2
              go_roundg (n + 1 - (a + 2 * bs))
              case measure => omega
              case rel =>
                obtain ⟨u1, u2, u3, u4, u5⟩ := HU.out
                have hL := HD.out
                have hq := HJ.out.1
                refine ⟨a + 2 * bs, q + 1, d2, by go_num, by first | rfl | go_num | (congr 1; omega), by omega, Nat.le_refl _, by omega, S4, Lib.hid ⟨by rw [Nat.add_mul]; omega, ?_⟩⟩
                rw [HDL.out, u5, chunkS_append (by omega) q _ _ (by rw [List.length_take]; omega), chunkS_end (bs := 2 * bs) (l := U1 ++ U2) (by simp; omega), HAP.out, ← u4]
                simp
            · have hz3 : ¬ ((a : Int) + 2 * (bs : Int) ≤ (n : Int)) := by omega
              by_cases hlt4 : a + bs < n
              · have hz4 : (a : Int) + (bs : Int) < (n : Int) := by omega
                obtain ⟨U1, V, HU⟩ : ∃ U1 V, Hid (D.drop a = U1 ++ V ∧ U1.length = bs ∧ V.length = n - a - bs) := by
                  have hL := HD.out
                  exact ⟨(D.drop a).take bs, (D.drop a).drop bs, Lib.hid ⟨(List.take_append_drop _ _).symm, by simp; omega, by simp; omega⟩⟩
                have HJ2 : Hid (dk.toList = chunkS (ltOf cf) (2 * bs) (D.take a) ++ (isort (ltOf cf) U1 ++ (isort (ltOf cf) V ++ []))) := Lib.hid (by
                  obtain ⟨u1, u2, u3⟩ := HU.out
                  rw [HJ.out.2, u1, chunkS_head (by omega) u2, chunkS_end (bs := bs) (l := V) (by omega), List.append_nil])
                have S2 := S1.out
                clear S1
                go_wp2_with fail
                refine Calls.mono (HSYM.out n dk _ (by have := HN.out; omega) S2 (chunkS (ltOf cf) (2 * bs) (D.take a)) (isort (ltOf cf) U1) (isort (ltOf cf) V) [] HJ2.out ?e1 ?e2 ?e3 (HSO.out _) (HSO.out _) _ ?e4 _ _ _ ?e5 ?e6 ?e7) ?_
                case e1 => obtain ⟨u1, u2, u3⟩ := HU.out; rw [isort_length, isort_length]; omega
                case e2 => obtain ⟨u1, u2, u3⟩ := HU.out; exact List.length_pos_iff.1 (by rw [isort_length]; omega)
                case e3 => obtain ⟨u1, u2, u3⟩ := HU.out; exact List.length_pos_iff.1 (by rw [isort_length]; omega)
                case e4 => exact hds.symm
                case e5 => rw [chunkS_length, List.length_take]; have := HD.out; omega
                case e6 => obtain ⟨u1, u2, u3⟩ := HU.out; rw [chunkS_length, List.length_take, isort_length]; have := HD.out; omega
                case e7 => obtain ⟨u1, u2, u3⟩ := HU.out; rw [chunkS_length, List.length_take, isort_length, isort_length]; have := HD.out; omega
                rintro en w2 ⟨rfl, d2, hd2, hdl, S3⟩
                have HDL := Lib.hid hdl
                have S4 : Aside (SWK enc k w0 blk off d2 w2) := S3
                clear hdl S3 S2
                go_wp2
                go_roundg (n + 1 - 2 * bs)
                case measure => omega
                case rel =>
                  obtain ⟨u1, u2, u3⟩ := HU.out
                  have hL := HD.out
                  refine ⟨2 * bs, d2, by first | rfl | go_num | (congr 1; omega), by omega, by omega, by omega, by omega, S4, Lib.hid ?_⟩
                  have h1 := chunkS_append (lt := ltOf cf) (bs := 2 * bs) (by omega) q (D.take a) (D.drop a) (by rw [List.length_take]; have := HJ.out.1; omega)
                  rw [List.take_append_drop] at h1
                  rw [HDL.out, h1, chunkS_end (bs := 2 * bs) (l := D.drop a) (by simp; omega), u1, HAP.out]
                  simp
              · have hz4 : ¬ ((a : Int) + (bs : Int) < (n : Int)) := by omega
                go_wp2
                go_roundg (n + 1 - 2 * bs)
                case measure => omega
                case rel =>
                  have hL := HD.out
                  refine ⟨2 * bs, dk, by first | rfl | go_num | (congr 1; omega), by omega, by omega, by omega, by omega, S1, Lib.hid ?_⟩
                  have h1 := chunkS_append (lt := ltOf cf) (bs := 2 * bs) (by omega) q (D.take a) (D.drop a) (by rw [List.length_take]; have := HJ.out.1; omega)
                  rw [List.take_append_drop] at h1
                  rw [HJ.out.2, h1, chunkS_end (bs := 2 * bs) (l := D.drop a) (by simp; omega), chunkS_end (bs := bs) (l := D.drop a) (by simp; omega)]
        · go_wp2
          go_end0
          refine ⟨rfl, dk, by have := HN.out; omega, ?_, S1.out⟩
          rw [HI.out, chunkS_end (by have := HD.out; omega)]


theorem sortStable_any (L : StF P k) (enc : α → List Value) (g : Nat) (cb : Array Value) (blk off cap : Nat) (d0 d : Array α) (w0 w : World) (R : RowK enc k w0 blk off d0) (hs : d0.size = d.size) (S : SWK enc k w0 blk off d w) (cf : α → α → Int) (eg : ∀ args w, (callFunc g args).run P w = .ok (.enter g args) w) (hcmp : CmpLays P g cb enc k cf blk off d0.size w0) (hO : Swo (ltOf cf)) (hsz : d.size < 1000000000000) :
    Calls P 32 #[.slice (some ⟨blk, off, none⟩) d.size cap, .func (.func g) #[] cb] w fun e w' => e = .returned (.tuple #[]) ∧ ∃ d' : Array α, d'.size = d.size ∧ d'.toList = isort (ltOf cf) d.toList ∧ SWK enc k w0 blk off d' w' := by
  have mixed := L.mixed; have t3 := L.t3; have a3 := L.a3; have z3 := L.z3; have v3 := L.v3; have t4 := L.t4; have a4 := L.a4; have z4 := L.z4; have v4 := L.v4; have tu := L.tu; have au := L.au; have zu := L.zu; have e1 := L.en.1; have e2 := L.en.2.1; have e3 := L.en.2.2.1; have e4 := L.en.2.2.2.1; have e5 := L.en.2.2.2.2; have t22 := L.t22; have a22 := L.a22; have z22 := L.z22; have aE := L.aE; have zE := L.zE
  have H := Lib.hid (stable_any L enc g cb blk off cap d0 d w0 w R hs S cf eg hcmp hO hsz)
  clear S hcmp hO eg R
  go_enter L.Ftop, Tryz.ntmps32
  go_wp2_with fail
  refine Calls.mono H.out ?_
  rintro en w2 ⟨rfl, d2, hd2, hdl, S3⟩
  have HDL := Lib.hid hdl
  clear hdl
  go_wp2
  go_end0
  exact ⟨rfl, d2, hd2, HDL.out, S3⟩

end Go.Proofs.YtimhehnmmjgeaaaGreatDoor
