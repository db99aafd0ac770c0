/- The walks of the stable sort at versions. -/
import Derived.Test.YtimhehnmmjgeaaaGreatDoorStQ
import Derived.Lib.Hide
import Derived.Sort.WalkB2
import Derived.Sort.WalkB12
import Derived.Deep.LoopGhost
import Derived.Shelf.SlSortCmp.QuietGrown
import Derived.Shelf.Abstract
set_option linter.unusedSimpArgs false
set_option linter.unusedVariables false
namespace Go.Proofs.YtimhehnmmjgeaaaGreatDoor
open Go.Shelf Go.RowKit Go.Lib Go.Sort


/-- a program that has these functions and types; a version has k cells -/
structure StF (P : Program) (k : Nat) : Prop where
  mixed : P.follows .mixedOrders = true
  FswapRange : P.funcs[97]? = some Tryz.f97
  Frotate : P.funcs[87]? = some Tryz.f87
  FsymMerge : P.funcs[71]? = some Tryz.f71
  Fstable : P.funcs[50]? = some Tryz.f50
  Fins : P.funcs[70]? = some Tryz.f70
  Ftop : P.funcs[32]? = some Tryz.f32
  t3 : P.underlying 3 = some (TypeDesc.int IntKind.i64)
  a3 : ∀ w, (isAgg 3).run P w = .ok false w
  z3 : ∀ w, (Go.sizeOf 3).run P w = .ok 1 w
  v3 : ∀ w, (zeroValue 3).run P w = .ok (Value.int IntKind.i64 0) w
  t4 : P.underlying 4 = some TypeDesc.bool
  a4 : ∀ w, (isAgg 4).run P w = .ok false w
  z4 : ∀ w, (Go.sizeOf 4).run P w = .ok 1 w
  v4 : ∀ w, (zeroValue 4).run P w = .ok (Value.bool false) w
  tu : P.underlying 70 = some (TypeDesc.int IntKind.u64)
  au : ∀ w, (isAgg 70).run P w = .ok false w
  zu : ∀ w, (Go.sizeOf 70).run P w = .ok 1 w
  t22 : P.underlying 50 = some (TypeDesc.slice 49)
  a22 : ∀ w, (isAgg 50).run P w = .ok false w
  z22 : ∀ w, (Go.sizeOf 50).run P w = .ok 1 w
  aE : ∀ w, (isAgg 49).run P w = .ok true w
  zE : ∀ w, (Go.sizeOf 49).run P w = .ok k w
theorem stF : StF Tryz.prog 9 := ⟨by kernel_rfl, Tryz.func97, Tryz.func87, Tryz.func71, Tryz.func50, Tryz.func70, Tryz.func32, Tryz.underlying3, Tryz.isAgg3, Tryz.sizeOf3, Tryz.zeroValue3, Tryz.underlying4, Tryz.isAgg4, Tryz.sizeOf4, Tryz.zeroValue4, Tryz.underlying70, Tryz.isAgg70, Tryz.sizeOf70, Tryz.underlying50, Tryz.isAgg50, Tryz.sizeOf50, Tryz.isAgg49, Tryz.sizeOf49⟩
variable {P : Program} {k : Nat} {α : Type} [Inhabited α]
theorem StF.en (L : StF P k) : (∀ args w, (callFunc 97 args).run P w = .ok (.enter 97 args) w) ∧ (∀ args w, (callFunc 87 args).run P w = .ok (.enter 87 args) w) ∧ (∀ args w, (callFunc 71 args).run P w = .ok (.enter 71 args) w) ∧ (∀ args w, (callFunc 50 args).run P w = .ok (.enter 50 args) w) ∧ (∀ args w, (callFunc 70 args).run P w = .ok (.enter 70 args) w) :=
  ⟨enters_of L.FswapRange (by kernel_rfl) rfl, enters_of L.Frotate (by kernel_rfl) rfl, enters_of L.FsymMerge (by kernel_rfl) rfl, enters_of L.Fstable (by kernel_rfl) rfl, enters_of L.Fins (by kernel_rfl) rfl⟩


set_option maxHeartbeats 4000000 in
set_option maxRecDepth 1000000 in
theorem swapRange_any (L : StF P k) (enc : α → List Value) (g : Nat) (cb : Array Value) (blk off cap : Nat) (d0 d : Array α) (w0 w : World) (R : RowK enc k w0 blk off d0) (hs : d0.size = d.size) (S : SWK enc k w0 blk off d w) (X A Y B Z : List α) (hd : d.toList = X ++ (A ++ (Y ++ (B ++ Z)))) (hAB : A.length = B.length) {a b n : Nat} (ha : a = X.length) (hb : b = X.length + A.length + Y.length) (hn : n = A.length) (hsz : d.size < 1000000000000) :
    Calls P 97 #[.slice (some ⟨blk, off, none⟩) d.size cap, .int .i64 a, .int .i64 b, .int .i64 n, .func (.func g) #[] cb] w fun e w' => e = .returned (.tuple #[]) ∧ ∃ d' : Array α, d'.size = d.size ∧ d'.toList = X ++ (B ++ (Y ++ (A ++ Z))) ∧ SWK enc k w0 blk off d' w' := by
  have mixed := L.mixed; have t3 := L.t3; have a3 := L.a3; have z3 := L.z3; have v3 := L.v3; have t4 := L.t4; have a4 := L.a4; have z4 := L.z4; have v4 := L.v4; have tu := L.tu; have au := L.au; have zu := L.zu; have e1 := L.en.1; have e2 := L.en.2.1; have e3 := L.en.2.2.1; have e4 := L.en.2.2.2.1; have e5 := L.en.2.2.2.2; have t22 := L.t22; have a22 := L.a22; have z22 := L.z22; have aE := L.aE; have zE := L.zE
  have hlen := congrArg List.length hd
  simp at hlen
  have S0 : Aside (SWK enc k w0 blk off d w) := S
  have HD := Lib.hid hd
  have HAB := Lib.hid (show A.length = B.length ∧ a = X.length ∧ b = X.length + A.length + Y.length ∧ n = A.length ∧ d.size = X.length + (A.length + (Y.length + (B.length + Z.length))) from ⟨hAB, ha, hb, hn, hlen⟩)
  have hbn : b + n ≤ d.size := by omega
  have han : a + n ≤ b := by omega
  clear S hd hAB ha hb hn hlen
  go_enter L.FswapRange, Tryz.ntmps97
  go_wp2
  go_loopg [10] n (fun kx s10 wr => ∃ (i : Nat) (dk : Array α) (A1 A2 B1 B2 : List α), s10 = .int .i64 i ∧ i ≤ n ∧ n - i ≤ kx ∧ dk.size = d.size ∧ Aside (SWK enc k w0 blk off dk wr) ∧ Hid (A = A1 ++ A2 ∧ B = B1 ++ B2 ∧ A1.length = i ∧ B1.length = i ∧ dk.toList = X ++ (B1 ++ (A2 ++ (Y ++ (A1 ++ (B2 ++ Z)))))))
  case atStart => exact ⟨0, d, [], A, [], B, rfl, by omega, Nat.le_refl _, rfl, S0, Lib.hid ⟨rfl, rfl, rfl, rfl, HD.out⟩⟩
  case round =>
    clear S0
    obtain ⟨i, dk, A1, A2, B1, B2, rfl, hin, hkx, hds, S1, HI⟩ := hrel
    by_cases hlt : i < n
    · have HN : Hid (∃ x A3 y B3, A2 = x :: A3 ∧ B2 = y :: B3) := Lib.hid (by
        obtain ⟨h1, h2, h3, h4, h5⟩ := HI.out
        obtain ⟨g1, g2, g3, g4, g5⟩ := HAB.out
        have e1 := congrArg List.length h1
        have e2 := congrArg List.length h2
        simp at e1 e2
        cases A2 with
        | nil => simp at e1; omega
        | cons x A3 =>
          cases B2 with
          | nil => simp at e2; omega
          | cons y B3 => exact ⟨x, A3, y, B3, rfl, rfl⟩)
      have ea1 : ((a : Int) + (i : Int)).toNat = a + i := by omega
      have pa1 : (0 : Int) ≤ (a : Int) + (i : Int) := by omega
      have ba1 : (a : Int) + (i : Int) < (d.size : Int) := by omega
      have ra1 : IntKind.i64.wrap ((a : Int) + (i : Int)) = (a : Int) + (i : Int) := by rw [IntKind.wrap_i64]; omega
      have ec1 : ((b : Int) + (i : Int)).toNat = b + i := by omega
      have pc1 : (0 : Int) ≤ (b : Int) + (i : Int) := by omega
      have bc1 : (b : Int) + (i : Int) < (d.size : Int) := by omega
      have rc1 : IntKind.i64.wrap ((b : Int) + (i : Int)) = (b : Int) + (i : Int) := by rw [IntKind.wrap_i64]; omega
      have S2 : Aside (SWK enc k w0 blk off (swp dk (a + i) (b + i)) ((wr.drew.setCells blk (off + (a + i) * k) (enc dk[b + i]!)).setCells blk (off + (b + i) * k) (enc dk[a + i]!))) := S1.out.swapped R (a + i) (b + i) (by omega) (by omega)
      have l1a := S1.out.ld1 R (by omega) P (a + i) (by omega)
      have l1b := S1.out.ld1 R (by omega) P (b + i) (by omega)
      have s1a := S1.out.st1 R (by omega) P (a + i) (by omega) dk[b + i]!
      have s1b := S1.out.st2 R (by omega) P (a + i) (b + i) (by omega) (by omega) dk[b + i]! dk[a + i]!
      have n1a : (enc dk[a + i]!).length = k := R.hk _
      have n1b : (enc dk[b + i]!).length = k := R.hk _
      generalize enc dk[a + i]! = cI1 at S2 l1a s1b n1a
      generalize enc dk[b + i]! = cJ1 at S2 l1b s1a s1b n1b
      clear S1
      go_wp2_with fail
      go_big_region_o
      clear l1a l1b s1a s1b
      generalize (wr.drew.setCells blk (off + (a + i) * k) cJ1).setCells blk (off + (b + i) * k) cI1 = w2 at S2 ⊢
      go_wp2
      go_roundg (n - (i + 1))
      case measure => omega
      case rel =>
        obtain ⟨x, A3, y, B3, rfl, rfl⟩ := HN.out
        obtain ⟨h1, h2, h3, h4, h5⟩ := HI.out
        obtain ⟨g1, g2, g3, g4, g5⟩ := HAB.out
        have e1 := congrArg List.length h1
        simp at e1
        have hsw := swp_list (dk := dk) (X := X ++ B1) (Y := A3 ++ (Y ++ A1)) (Z := B3 ++ Z) (x := x) (y := y) (by rw [h5]; simp) (i := a + i) (j := b + i) (by simp; omega) (by simp; omega)
        exact ⟨i + 1, swp dk (a + i) (b + i), A1 ++ [x], A3, B1 ++ [y], B3, by go_num, by omega, Nat.le_refl _, by rw [size_swp]; exact hds, S2, Lib.hid ⟨by rw [h1]; simp, by rw [h2]; simp, by simp; omega, by simp; omega, by rw [hsw]; simp⟩⟩
    · go_wp2
      go_end0
      obtain ⟨h1, h2, h3, h4, h5⟩ := HI.out
      obtain ⟨g1, g2, g3, g4, g5⟩ := HAB.out
      have e1 := congrArg List.length h1
      have e2 := congrArg List.length h2
      simp at e1 e2
      obtain rfl : A2 = [] := List.eq_nil_of_length_eq_zero (by omega)
      obtain rfl : B2 = [] := List.eq_nil_of_length_eq_zero (by omega)
      exact ⟨rfl, dk, hds, by rw [h5, h1, h2]; simp, S1.out⟩


theorem swapRange_z (L : StF P k) (enc : α → List Value) (g : Nat) (cb : Array Value) (blk off cap : Nat) (d0 d : Array α) (w0 w : World) (R : RowK enc k w0 blk off d0) (hs : d0.size = d.size) (S : SWK enc k w0 blk off d w) (X A Y B Z : List α) (hd : d.toList = X ++ (A ++ (Y ++ (B ++ Z)))) (hAB : A.length = B.length) (len : Nat) (hl : len = d.size) (az bz nz : Int) (ha : az = X.length) (hb : bz = (X.length + A.length + Y.length : Nat)) (hn : nz = A.length) (hsz : d.size < 1000000000000) :
    Calls P 97 #[.slice (some ⟨blk, off, none⟩) len cap, .int .i64 az, .int .i64 bz, .int .i64 nz, .func (.func g) #[] cb] w fun e w' => e = .returned (.tuple #[]) ∧ ∃ d' : Array α, d'.size = d.size ∧ d'.toList = X ++ (B ++ (Y ++ (A ++ Z))) ∧ SWK enc k w0 blk off d' w' := by
  subst hl ha hb hn
  exact swapRange_any L enc g cb blk off cap d0 d w0 w R hs S X A Y B Z hd hAB rfl rfl rfl hsz


set_option maxHeartbeats 4000000 in
set_option maxRecDepth 1000000 in
theorem rotate_any (L : StF P k) (enc : α → List Value) (g : Nat) (cb : Array Value) (blk off cap : Nat) (d0 d : Array α) (w0 w : World) (R : RowK enc k w0 blk off d0) (hs : d0.size = d.size) (S : SWK enc k w0 blk off d w) (X A B Z : List α) (hd : d.toList = X ++ (A ++ (B ++ Z))) (hA0 : A ≠ []) (hB0 : B ≠ []) {a m b : Nat} (ha : a = X.length) (hm : m = a + A.length) (hb : b = m + B.length) (hsz : d.size < 1000000000000) :
    Calls P 87 #[.slice (some ⟨blk, off, none⟩) d.size cap, .int .i64 a, .int .i64 m, .int .i64 b, .func (.func g) #[] cb] w fun e w' => e = .returned (.tuple #[]) ∧ ∃ d' : Array α, d'.size = d.size ∧ d'.toList = X ++ (B ++ (A ++ Z)) ∧ SWK enc k w0 blk off d' w' := by
  have mixed := L.mixed; have t3 := L.t3; have a3 := L.a3; have z3 := L.z3; have v3 := L.v3; have t4 := L.t4; have a4 := L.a4; have z4 := L.z4; have v4 := L.v4; have tu := L.tu; have au := L.au; have zu := L.zu; have e1 := L.en.1; have e2 := L.en.2.1; have e3 := L.en.2.2.1; have e4 := L.en.2.2.2.1; have e5 := L.en.2.2.2.2; have t22 := L.t22; have a22 := L.a22; have z22 := L.z22; have aE := L.aE; have zE := L.zE
  have hlen := congrArg List.length hd
  simp at hlen
  have S0 : Aside (SWK enc k w0 blk off d w) := S
  have HD := Lib.hid hd
  have hA1 := List.length_pos_iff.2 hA0
  have hB1 := List.length_pos_iff.2 hB0
  have HAB := Lib.hid (show a = X.length ∧ m = a + A.length ∧ b = m + B.length ∧ d.size = X.length + (A.length + (B.length + Z.length)) from ⟨ha, hm, hb, hlen⟩)
  have hbd : b ≤ d.size := by omega
  have hmb : m < b := by omega
  have ham : a < m := by omega
  have HSW := Lib.hid (fun (dk : Array α) (len : Nat) (hl : len = dk.size) (hk : d0.size = dk.size) (hk2 : dk.size < 1000000000000) (w : World) (S : SWK enc k w0 blk off dk w) (X A Y B Z : List α) (hd : dk.toList = X ++ (A ++ (Y ++ (B ++ Z)))) (hAB : A.length = B.length) (az bz nz : Int) (ha : az = X.length) (hb : bz = (X.length + A.length + Y.length : Nat)) (hn : nz = A.length) => swapRange_z L enc g cb blk off cap d0 dk w0 w R hk S X A Y B Z hd hAB len hl az bz nz ha hb hn hk2)
  have HR := Lib.hid R
  clear S hd ha hm hb hlen hA0 hB0 hA1 hB1 R
  go_enter L.Frotate, Tryz.ntmps87
  go_wp2
  go_loopg [10, 11] (b - a) (fun kx s10 s11 wr => ∃ (i j : Nat) (dk : Array α) (D1 Q1 Q2 D2 : List α), s10 = .int .i64 i ∧ s11 = .int .i64 j ∧ 0 < i ∧ 0 < j ∧ i ≤ m ∧ m + j ≤ b ∧ i + j ≤ kx ∧ dk.size = d.size ∧ Aside (SWK enc k w0 blk off dk wr) ∧ Hid (Q1.length = i ∧ Q2.length = j ∧ X.length + D1.length + i = m ∧ dk.toList = X ++ (D1 ++ (Q1 ++ (Q2 ++ (D2 ++ Z)))) ∧ D1 ++ (Q2 ++ (Q1 ++ D2)) = B ++ A))
  case atStart => exact ⟨m - a, b - m, d, [], A, B, [], by go_num, by go_num, by omega, by omega, by omega, by omega, by omega, rfl, S0, Lib.hid (by obtain ⟨g1, g2, g3, g4⟩ := HAB.out; exact ⟨by omega, by omega, by simp; omega, by rw [HD.out]; simp, by simp⟩)⟩
  case round =>
    clear S0
    obtain ⟨i, j, dk, D1, Q1, Q2, D2, rfl, rfl, hi0, hj0, him, hmj, hkx, hds, S1, HI⟩ := hrel
    rcases Nat.lt_trichotomy i j with hij | hij | hij
    · have HQ : Hid (∃ U V, Q2 = U ++ V ∧ V.length = i ∧ U.length = j - i) := Lib.hid (by
        obtain ⟨h1, h2, h3, h4, h5⟩ := HI.out
        exact ⟨Q2.take (j - i), Q2.drop (j - i), (List.take_append_drop _ _).symm, by simp; omega, by simp; omega⟩)
      have hb1 : ((i : Int) != (j : Int)) = true := by simp; omega
      obtain ⟨U, V, HQ⟩ : ∃ U V, Hid (Q2 = U ++ V ∧ V.length = i ∧ U.length = j - i) := by obtain ⟨U, V, h⟩ := HQ.out; exact ⟨U, V, Lib.hid h⟩
      have S2 := S1.out
      clear S1
      go_wp2_with fail
      refine Calls.mono (HSW.out dk _ hds.symm (by omega) (by omega) _ S2 (X ++ D1) Q1 U V (D2 ++ Z) ?g01 ?g02 _ _ _ ?g03 ?g04 ?g05) ?_
      case g01 => obtain ⟨h1, h2, h3, h4, h5⟩ := HI.out; obtain ⟨k1, k2, k3⟩ := HQ.out; rw [h4, k1]; simp
      case g02 => obtain ⟨h1, h2, h3, h4, h5⟩ := HI.out; obtain ⟨k1, k2, k3⟩ := HQ.out; omega
      case g03 => obtain ⟨h1, h2, h3, h4, h5⟩ := HI.out; simp; omega
      case g04 => obtain ⟨h1, h2, h3, h4, h5⟩ := HI.out; obtain ⟨k1, k2, k3⟩ := HQ.out; simp; omega
      case g05 => obtain ⟨h1, h2, h3, h4, h5⟩ := HI.out; omega
      rintro e w2 ⟨rfl, dn, hdn, hdl, S3⟩
      have HDL := Lib.hid hdl
      have S4 : Aside (SWK enc k w0 blk off dn w2) := S3
      clear hdl S3 S2
      go_wp2
      go_roundg j
      case measure => omega
      case rel =>
        obtain ⟨h1, h2, h3, h4, h5⟩ := HI.out
        obtain ⟨k1, k2, k3⟩ := HQ.out
        exact ⟨i, j - i, dn, D1, V, U, Q1 ++ D2, rfl, by go_num, hi0, by omega, him, by omega, by omega, by omega, S4, Lib.hid ⟨k2, k3, h3, by rw [HDL.out]; simp, by rw [← h5, k1]; simp⟩⟩
    · subst hij
      have hb1 : ((i : Int) != (i : Int)) = false := by simp
      have S2 := S1.out
      clear S1
      go_wp2_with fail
      refine Calls.mono (HSW.out dk _ hds.symm (by omega) (by omega) _ S2 (X ++ D1) Q1 [] Q2 (D2 ++ Z) ?g11 ?g12 _ _ _ ?g13 ?g14 ?g15) ?_
      case g11 => obtain ⟨h1, h2, h3, h4, h5⟩ := HI.out; rw [h4]; simp
      case g12 => obtain ⟨h1, h2, h3, h4, h5⟩ := HI.out; omega
      case g13 => obtain ⟨h1, h2, h3, h4, h5⟩ := HI.out; simp; omega
      case g14 => obtain ⟨h1, h2, h3, h4, h5⟩ := HI.out; simp; omega
      case g15 => obtain ⟨h1, h2, h3, h4, h5⟩ := HI.out; omega
      rintro e w2 ⟨rfl, dn, hdn, hdl, S3⟩
      have HDL := Lib.hid hdl
      have S4 : Aside (SWK enc k w0 blk off dn w2) := S3
      clear hdl S3 S2
      go_wp2
      go_end0
      obtain ⟨h1, h2, h3, h4, h5⟩ := HI.out
      refine ⟨rfl, dn, by omega, ?_, S4.out⟩
      rw [HDL.out, show X ++ (B ++ (A ++ Z)) = X ++ ((B ++ A) ++ Z) by simp, ← h5]
      simp
    · have hb1 : ((i : Int) != (j : Int)) = true := by simp; omega
      obtain ⟨U, V, HQ⟩ : ∃ U V, Hid (Q1 = U ++ V ∧ U.length = j ∧ V.length = i - j) := by
        obtain ⟨h1, h2, h3, h4, h5⟩ := HI.out
        exact ⟨Q1.take j, Q1.drop j, Lib.hid ⟨(List.take_append_drop _ _).symm, by simp; omega, by simp; omega⟩⟩
      have S2 := S1.out
      clear S1
      go_wp2_with fail
      refine Calls.mono (HSW.out dk _ hds.symm (by omega) (by omega) _ S2 (X ++ D1) U V Q2 (D2 ++ Z) ?g21 ?g22 _ _ _ ?g23 ?g24 ?g25) ?_
      case g21 => obtain ⟨h1, h2, h3, h4, h5⟩ := HI.out; obtain ⟨k1, k2, k3⟩ := HQ.out; rw [h4, k1]; simp
      case g22 => obtain ⟨h1, h2, h3, h4, h5⟩ := HI.out; obtain ⟨k1, k2, k3⟩ := HQ.out; omega
      case g23 => obtain ⟨h1, h2, h3, h4, h5⟩ := HI.out; simp; omega
      case g24 => obtain ⟨h1, h2, h3, h4, h5⟩ := HI.out; obtain ⟨k1, k2, k3⟩ := HQ.out; simp; omega
      case g25 => obtain ⟨h1, h2, h3, h4, h5⟩ := HI.out; obtain ⟨k1, k2, k3⟩ := HQ.out; omega
      rintro e w2 ⟨rfl, dn, hdn, hdl, S3⟩
      have HDL := Lib.hid hdl
      have S4 : Aside (SWK enc k w0 blk off dn w2) := S3
      clear hdl S3 S2
      go_wp2
      go_roundg i
      case measure => omega
      case rel =>
        obtain ⟨h1, h2, h3, h4, h5⟩ := HI.out
        obtain ⟨k1, k2, k3⟩ := HQ.out
        exact ⟨i - j, j, dn, D1 ++ Q2, V, U, D2, by go_num, rfl, by omega, hj0, by omega, hmj, by omega, by omega, S4, Lib.hid ⟨k3, k2, by simp; omega, by rw [HDL.out]; simp, by rw [← h5, k1]; simp⟩⟩

end Go.Proofs.YtimhehnmmjgeaaaGreatDoor
