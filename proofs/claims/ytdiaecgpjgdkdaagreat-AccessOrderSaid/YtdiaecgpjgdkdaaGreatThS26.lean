/- Lemmas for the rows: StW StX. -/
import Derived.Test.YtdiaecgpjgdkdaaGreatThS25
import Derived.Lib.Hide
import Derived.Sort.WalkB2
import Derived.Sort.WalkB12
import Derived.Deep.LoopGhost
import Derived.Shelf.SlSortCmp.QuietGrown
import Derived.Shelf.Abstract
set_option linter.unusedSimpArgs false
set_option linter.unusedVariables false
namespace Go.Proofs.YtdiaecgpjgdkdaaGreat
open Go.Shelf Go.RowKit Go.Lib Go.Sort

structure StF (P : Program) (k : Nat) : Prop where
 mixed : P.follows .mixedOrders = true
 FswapRange : P.funcs[145]? = some Tryz.f145
 Frotate : P.funcs[116]? = some Tryz.f116
 FsymMerge : P.funcs[84]? = some Tryz.f84
 Fstable : P.funcs[44]? = some Tryz.f44
 Fins : P.funcs[83]? = some Tryz.f83
 Ftop : P.funcs[23]? = some Tryz.f23
 t3 : P.underlying 3 = some (TypeDesc.int IntKind.i64)
 a3 : ∀ w, (isAgg 3).run P w = .ok false w
 z3 : ∀ w, (Go.sizeOf 3).run P w = .ok 1 w
 v3 : ∀ w, (zeroValue 3).run P w = .ok (Value.int IntKind.i64 0) w
 t4 : P.underlying 4 = some TypeDesc.bool
 a4 : ∀ w, (isAgg 4).run P w = .ok false w
 z4 : ∀ w, (Go.sizeOf 4).run P w = .ok 1 w
 v4 : ∀ w, (zeroValue 4).run P w = .ok (Value.bool false) w
 tu : P.underlying 103 = some (TypeDesc.int IntKind.u64)
 au : ∀ w, (isAgg 103).run P w = .ok false w
 zu : ∀ w, (Go.sizeOf 103).run P w = .ok 1 w
 t22 : P.underlying 28 = some (TypeDesc.slice 47)
 a22 : ∀ w, (isAgg 28).run P w = .ok false w
 z22 : ∀ w, (Go.sizeOf 28).run P w = .ok 1 w
 aE : ∀ w, (isAgg 47).run P w = .ok true w
 zE : ∀ w, (Go.sizeOf 47).run P w = .ok k w
theorem stF : StF Tryz.prog 9 := ⟨by kernel_rfl, Tryz.func145, Tryz.func116, Tryz.func84, Tryz.func44, Tryz.func83, Tryz.func23, Tryz.underlying3, Tryz.isAgg3, Tryz.sizeOf3, Tryz.zeroValue3, Tryz.underlying4, Tryz.isAgg4, Tryz.sizeOf4, Tryz.zeroValue4, Tryz.underlying103, Tryz.isAgg103, Tryz.sizeOf103, Tryz.underlying28, Tryz.isAgg28, Tryz.sizeOf28, Tryz.isAgg47, Tryz.sizeOf47⟩
variable {P : Program} {k : Nat} {α : Type} [Inhabited α]
theorem StF.en (L : StF P k) : (∀ args w, (callFunc 145 args).run P w = .ok (.enter 145 args) w) ∧ (∀ args w, (callFunc 116 args).run P w = .ok (.enter 116 args) w) ∧ (∀ args w, (callFunc 84 args).run P w = .ok (.enter 84 args) w) ∧ (∀ args w, (callFunc 44 args).run P w = .ok (.enter 44 args) w) ∧ (∀ args w, (callFunc 83 args).run P w = .ok (.enter 83 args) w) :=
 ⟨enters_of L.FswapRange (by kernel_rfl) rfl, enters_of L.Frotate (by kernel_rfl) rfl, enters_of L.FsymMerge (by kernel_rfl) rfl, enters_of L.Fstable (by kernel_rfl) rfl, enters_of L.Fins (by kernel_rfl) rfl⟩

set_option maxHeartbeats 4000000 in
set_option maxRecDepth 1000000 in
theorem swapRange_any (L : StF P k) (enc : α → List Value) (g : Nat) (cb : Array Value) (blk off cap : Nat) (d0 d : Array α) (w0 w : World) (R : RowK enc k w0 blk off d0) (hs : d0.size = d.size) (S : SWK enc k w0 blk off d w) (X A Y B Z : List α) (hd : d.toList = X ++ (A ++ (Y ++ (B ++ Z)))) (hAB : A.length = B.length) {a b n : Nat} (ha : a = X.length) (hb : b = X.length + A.length + Y.length) (hn : n = A.length) (hsz : d.size < 1000000000000) :
  Calls P 145 #[.slice (some ⟨blk, off, none⟩) d.size cap, .int .i64 a, .int .i64 b, .int .i64 n, .func (.func g) #[] cb] w fun e w' => e = .returned (.tuple #[]) ∧ ∃ d' : Array α, d'.size = d.size ∧ d'.toList = X ++ (B ++ (Y ++ (A ++ Z))) ∧ SWK enc k w0 blk off d' w' := by
 have mixed := L.mixed; have t3 := L.t3; have a3 := L.a3; have z3 := L.z3; have v3 := L.v3; have t4 := L.t4; have a4 := L.a4; have z4 := L.z4; have v4 := L.v4; have tu := L.tu; have au := L.au; have zu := L.zu; have e1 := L.en.1; have e2 := L.en.2.1; have e3 := L.en.2.2.1; have e4 := L.en.2.2.2.1; have e5 := L.en.2.2.2.2; have t22 := L.t22; have a22 := L.a22; have z22 := L.z22; have aE := L.aE; have zE := L.zE
 have hlen := congrArg List.length hd
 simp at hlen
 have S0 : Aside (SWK enc k w0 blk off d w) := S
 have HD := Lib.hid hd
 have HAB := Lib.hid (show A.length = B.length ∧ a = X.length ∧ b = X.length + A.length + Y.length ∧ n = A.length ∧ d.size = X.length + (A.length + (Y.length + (B.length + Z.length))) from ⟨hAB, ha, hb, hn, hlen⟩)
 have hbn : b + n ≤ d.size := by omega
 have han : a + n ≤ b := by omega
 clear S hd hAB ha hb hn hlen
 go_enter L.FswapRange, Tryz.ntmps145
 go_wp2
 go_loopg [10] n (fun kx s10 wr => ∃ (i : Nat) (dk : Array α) (A1 A2 B1 B2 : List α), s10 = .int .i64 i ∧ i ≤ n ∧ n - i ≤ kx ∧ dk.size = d.size ∧ Aside (SWK enc k w0 blk off dk wr) ∧ Hid (A = A1 ++ A2 ∧ B = B1 ++ B2 ∧ A1.length = i ∧ B1.length = i ∧ dk.toList = X ++ (B1 ++ (A2 ++ (Y ++ (A1 ++ (B2 ++ Z)))))))
 case atStart => exact ⟨0, d, [], A, [], B, rfl, by omega, Nat.le_refl _, rfl, S0, Lib.hid ⟨rfl, rfl, rfl, rfl, HD.out⟩⟩
 case round =>
  clear S0
  obtain ⟨i, dk, A1, A2, B1, B2, rfl, hin, hkx, hds, S1, HI⟩ := hrel
  by_cases hlt : i < n
  ·
   have HN : Hid (∃ x A3 y B3, A2 = x :: A3 ∧ B2 = y :: B3) := Lib.hid (by
    obtain ⟨h1, h2, h3, h4, h5⟩ := HI.out
    obtain ⟨g1, g2, g3, g4, g5⟩ := HAB.out
    have e1 := congrArg List.length h1
    have e2 := congrArg List.length h2
    simp at e1 e2
    cases A2 with
    | nil => simp at e1; omega
    | cons x A3 =>
     cases B2 with
     | nil => simp at e2; omega
     | cons y B3 => exact ⟨x, A3, y, B3, rfl, rfl⟩)
   have ea1 : ((a : Int) + (i : Int)).toNat = a + i := by omega
   have pa1 : (0 : Int) ≤ (a : Int) + (i : Int) := by omega
   have ba1 : (a : Int) + (i : Int) < (d.size : Int) := by omega
   have ra1 : IntKind.i64.wrap ((a : Int) + (i : Int)) = (a : Int) + (i : Int) := by rw [IntKind.wrap_i64]; omega
   have ec1 : ((b : Int) + (i : Int)).toNat = b + i := by omega
   have pc1 : (0 : Int) ≤ (b : Int) + (i : Int) := by omega
   have bc1 : (b : Int) + (i : Int) < (d.size : Int) := by omega
   have rc1 : IntKind.i64.wrap ((b : Int) + (i : Int)) = (b : Int) + (i : Int) := by rw [IntKind.wrap_i64]; omega
   have S2 : Aside (SWK enc k w0 blk off (swp dk (a + i) (b + i)) ((wr.drew.setCells blk (off + (a + i) * k) (enc dk[b + i]!)).setCells blk (off + (b + i) * k) (enc dk[a + i]!))) := S1.out.swapped R (a + i) (b + i) (by omega) (by omega)
   have l1a := S1.out.ld1 R (by omega) P (a + i) (by omega)
   have l1b := S1.out.ld1 R (by omega) P (b + i) (by omega)
   have s1a := S1.out.st1 R (by omega) P (a + i) (by omega) dk[b + i]!
   have s1b := S1.out.st2 R (by omega) P (a + i) (b + i) (by omega) (by omega) dk[b + i]! dk[a + i]!
   have n1a : (enc dk[a + i]!).length = k := R.hk _
   have n1b : (enc dk[b + i]!).length = k := R.hk _
   generalize enc dk[a + i]! = cI1 at S2 l1a s1b n1a
   generalize enc dk[b + i]! = cJ1 at S2 l1b s1a s1b n1b
   clear S1
   go_wp2_with fail
   go_big_region_o
   clear l1a l1b s1a s1b
   generalize (wr.drew.setCells blk (off + (a + i) * k) cJ1).setCells blk (off + (b + i) * k) cI1 = w2 at S2 ⊢
   go_wp2
   go_roundg (n - (i + 1))
   case measure => omega
   case rel =>
    obtain ⟨x, A3, y, B3, rfl, rfl⟩ := HN.out
    obtain ⟨h1, h2, h3, h4, h5⟩ := HI.out
    obtain ⟨g1, g2, g3, g4, g5⟩ := HAB.out
    have e1 := congrArg List.length h1
    simp at e1
    have hsw := swp_list (dk := dk) (X := X ++ B1) (Y := A3 ++ (Y ++ A1)) (Z := B3 ++ Z) (x := x) (y := y) (by rw [h5]; simp) (i := a + i) (j := b + i) (by simp; omega) (by simp; omega)
    exact ⟨i + 1, swp dk (a + i) (b + i), A1 ++ [x], A3, B1 ++ [y], B3, by go_num, by omega, Nat.le_refl _, by rw [size_swp]; exact hds, S2, Lib.hid ⟨by rw [h1]; simp, by rw [h2]; simp, by simp; omega, by simp; omega, by rw [hsw]; simp⟩⟩
  ·
   go_wp2
   go_end0
   obtain ⟨h1, h2, h3, h4, h5⟩ := HI.out
   obtain ⟨g1, g2, g3, g4, g5⟩ := HAB.out
   have e1 := congrArg List.length h1
   have e2 := congrArg List.length h2
   simp at e1 e2
   obtain rfl : A2 = [] := List.eq_nil_of_length_eq_zero (by omega)
   obtain rfl : B2 = [] := List.eq_nil_of_length_eq_zero (by omega)
   exact ⟨rfl, dk, hds, by rw [h5, h1, h2]; simp, S1.out⟩

theorem swapRange_z (L : StF P k) (enc : α → List Value) (g : Nat) (cb : Array Value) (blk off cap : Nat) (d0 d : Array α) (w0 w : World) (R : RowK enc k w0 blk off d0) (hs : d0.size = d.size) (S : SWK enc k w0 blk off d w) (X A Y B Z : List α) (hd : d.toList = X ++ (A ++ (Y ++ (B ++ Z)))) (hAB : A.length = B.length) (len : Nat) (hl : len = d.size) (az bz nz : Int) (ha : az = X.length) (hb : bz = (X.length + A.length + Y.length : Nat)) (hn : nz = A.length) (hsz : d.size < 1000000000000) :
  Calls P 145 #[.slice (some ⟨blk, off, none⟩) len cap, .int .i64 az, .int .i64 bz, .int .i64 nz, .func (.func g) #[] cb] w fun e w' => e = .returned (.tuple #[]) ∧ ∃ d' : Array α, d'.size = d.size ∧ d'.toList = X ++ (B ++ (Y ++ (A ++ Z))) ∧ SWK enc k w0 blk off d' w' := by
 subst hl ha hb hn
 exact swapRange_any L enc g cb blk off cap d0 d w0 w R hs S X A Y B Z hd hAB rfl rfl rfl hsz

set_option maxHeartbeats 4000000 in
set_option maxRecDepth 1000000 in
theorem rotate_any (L : StF P k) (enc : α → List Value) (g : Nat) (cb : Array Value) (blk off cap : Nat) (d0 d : Array α) (w0 w : World) (R : RowK enc k w0 blk off d0) (hs : d0.size = d.size) (S : SWK enc k w0 blk off d w) (X A B Z : List α) (hd : d.toList = X ++ (A ++ (B ++ Z))) (hA0 : A ≠ []) (hB0 : B ≠ []) {a m b : Nat} (ha : a = X.length) (hm : m = a + A.length) (hb : b = m + B.length) (hsz : d.size < 1000000000000) :
  Calls P 116 #[.slice (some ⟨blk, off, none⟩) d.size cap, .int .i64 a, .int .i64 m, .int .i64 b, .func (.func g) #[] cb] w fun e w' => e = .returned (.tuple #[]) ∧ ∃ d' : Array α, d'.size = d.size ∧ d'.toList = X ++ (B ++ (A ++ Z)) ∧ SWK enc k w0 blk off d' w' := by
 have mixed := L.mixed; have t3 := L.t3; have a3 := L.a3; have z3 := L.z3; have v3 := L.v3; have t4 := L.t4; have a4 := L.a4; have z4 := L.z4; have v4 := L.v4; have tu := L.tu; have au := L.au; have zu := L.zu; have e1 := L.en.1; have e2 := L.en.2.1; have e3 := L.en.2.2.1; have e4 := L.en.2.2.2.1; have e5 := L.en.2.2.2.2; have t22 := L.t22; have a22 := L.a22; have z22 := L.z22; have aE := L.aE; have zE := L.zE
 have hlen := congrArg List.length hd
 simp at hlen
 have S0 : Aside (SWK enc k w0 blk off d w) := S
 have HD := Lib.hid hd
 have hA1 := List.length_pos_iff.2 hA0
 have hB1 := List.length_pos_iff.2 hB0
 have HAB := Lib.hid (show a = X.length ∧ m = a + A.length ∧ b = m + B.length ∧ d.size = X.length + (A.length + (B.length + Z.length)) from ⟨ha, hm, hb, hlen⟩)
 have hbd : b ≤ d.size := by omega
 have hmb : m < b := by omega
 have ham : a < m := by omega
 have HSW := Lib.hid (fun (dk : Array α) (len : Nat) (hl : len = dk.size) (hk : d0.size = dk.size) (hk2 : dk.size < 1000000000000) (w : World) (S : SWK enc k w0 blk off dk w) (X A Y B Z : List α) (hd : dk.toList = X ++ (A ++ (Y ++ (B ++ Z)))) (hAB : A.length = B.length) (az bz nz : Int) (ha : az = X.length) (hb : bz = (X.length + A.length + Y.length : Nat)) (hn : nz = A.length) => swapRange_z L enc g cb blk off cap d0 dk w0 w R hk S X A Y B Z hd hAB len hl az bz nz ha hb hn hk2)
 have HR := Lib.hid R
 clear S hd ha hm hb hlen hA0 hB0 hA1 hB1 R
 go_enter L.Frotate, Tryz.ntmps116
 go_wp2
 go_loopg [10, 11] (b - a) (fun kx s10 s11 wr => ∃ (i j : Nat) (dk : Array α) (D1 Q1 Q2 D2 : List α), s10 = .int .i64 i ∧ s11 = .int .i64 j ∧ 0 < i ∧ 0 < j ∧ i ≤ m ∧ m + j ≤ b ∧ i + j ≤ kx ∧ dk.size = d.size ∧ Aside (SWK enc k w0 blk off dk wr) ∧ Hid (Q1.length = i ∧ Q2.length = j ∧ X.length + D1.length + i = m ∧ dk.toList = X ++ (D1 ++ (Q1 ++ (Q2 ++ (D2 ++ Z)))) ∧ D1 ++ (Q2 ++ (Q1 ++ D2)) = B ++ A))
 case atStart => exact ⟨m - a, b - m, d, [], A, B, [], by go_num, by go_num, by omega, by omega, by omega, by omega, by omega, rfl, S0, Lib.hid (by obtain ⟨g1, g2, g3, g4⟩ := HAB.out; exact ⟨by omega, by omega, by simp; omega, by rw [HD.out]; simp, by simp⟩)⟩
 case round =>
  clear S0
  obtain ⟨i, j, dk, D1, Q1, Q2, D2, rfl, rfl, hi0, hj0, him, hmj, hkx, hds, S1, HI⟩ := hrel
  rcases Nat.lt_trichotomy i j with hij | hij | hij
  ·
   have HQ : Hid (∃ U V, Q2 = U ++ V ∧ V.length = i ∧ U.length = j - i) := Lib.hid (by
    obtain ⟨h1, h2, h3, h4, h5⟩ := HI.out
    exact ⟨Q2.take (j - i), Q2.drop (j - i), (List.take_append_drop _ _).symm, by simp; omega, by simp; omega⟩)
   have hb1 : ((i : Int) != (j : Int)) = true := by simp; omega
   obtain ⟨U, V, HQ⟩ : ∃ U V, Hid (Q2 = U ++ V ∧ V.length = i ∧ U.length = j - i) := by obtain ⟨U, V, h⟩ := HQ.out; exact ⟨U, V, Lib.hid h⟩
   have S2 := S1.out
   clear S1
   go_wp2_with fail
   refine Calls.mono (HSW.out dk _ hds.symm (by omega) (by omega) _ S2 (X ++ D1) Q1 U V (D2 ++ Z) ?g01 ?g02 _ _ _ ?g03 ?g04 ?g05) ?_
   case g01 => obtain ⟨h1, h2, h3, h4, h5⟩ := HI.out; obtain ⟨k1, k2, k3⟩ := HQ.out; rw [h4, k1]; simp
   case g02 => obtain ⟨h1, h2, h3, h4, h5⟩ := HI.out; obtain ⟨k1, k2, k3⟩ := HQ.out; omega
   case g03 => obtain ⟨h1, h2, h3, h4, h5⟩ := HI.out; simp; omega
   case g04 => obtain ⟨h1, h2, h3, h4, h5⟩ := HI.out; obtain ⟨k1, k2, k3⟩ := HQ.out; simp; omega
   case g05 => obtain ⟨h1, h2, h3, h4, h5⟩ := HI.out; omega
   rintro e w2 ⟨rfl, dn, hdn, hdl, S3⟩
   have HDL := Lib.hid hdl
   have S4 : Aside (SWK enc k w0 blk off dn w2) := S3
   clear hdl S3 S2
   go_wp2
   go_roundg j
   case measure => omega
   case rel =>
    obtain ⟨h1, h2, h3, h4, h5⟩ := HI.out
    obtain ⟨k1, k2, k3⟩ := HQ.out
    exact ⟨i, j - i, dn, D1, V, U, Q1 ++ D2, rfl, by go_num, hi0, by omega, him, by omega, by omega, by omega, S4, Lib.hid ⟨k2, k3, h3, by rw [HDL.out]; simp, by rw [← h5, k1]; simp⟩⟩
  ·
   subst hij
   have hb1 : ((i : Int) != (i : Int)) = false := by simp
   have S2 := S1.out
   clear S1
   go_wp2_with fail
   refine Calls.mono (HSW.out dk _ hds.symm (by omega) (by omega) _ S2 (X ++ D1) Q1 [] Q2 (D2 ++ Z) ?g11 ?g12 _ _ _ ?g13 ?g14 ?g15) ?_
   case g11 => obtain ⟨h1, h2, h3, h4, h5⟩ := HI.out; rw [h4]; simp
   case g12 => obtain ⟨h1, h2, h3, h4, h5⟩ := HI.out; omega
   case g13 => obtain ⟨h1, h2, h3, h4, h5⟩ := HI.out; simp; omega
   case g14 => obtain ⟨h1, h2, h3, h4, h5⟩ := HI.out; simp; omega
   case g15 => obtain ⟨h1, h2, h3, h4, h5⟩ := HI.out; omega
   rintro e w2 ⟨rfl, dn, hdn, hdl, S3⟩
   have HDL := Lib.hid hdl
   have S4 : Aside (SWK enc k w0 blk off dn w2) := S3
   clear hdl S3 S2
   go_wp2
   go_end0
   obtain ⟨h1, h2, h3, h4, h5⟩ := HI.out
   refine ⟨rfl, dn, by omega, ?_, S4.out⟩
   rw [HDL.out, show X ++ (B ++ (A ++ Z)) = X ++ ((B ++ A) ++ Z) by simp, ← h5]
   simp
  ·
   have hb1 : ((i : Int) != (j : Int)) = true := by simp; omega
   obtain ⟨U, V, HQ⟩ : ∃ U V, Hid (Q1 = U ++ V ∧ U.length = j ∧ V.length = i - j) := by
    obtain ⟨h1, h2, h3, h4, h5⟩ := HI.out
    exact ⟨Q1.take j, Q1.drop j, Lib.hid ⟨(List.take_append_drop _ _).symm, by simp; omega, by simp; omega⟩⟩
   have S2 := S1.out
   clear S1
   go_wp2_with fail
   refine Calls.mono (HSW.out dk _ hds.symm (by omega) (by omega) _ S2 (X ++ D1) U V Q2 (D2 ++ Z) ?g21 ?g22 _ _ _ ?g23 ?g24 ?g25) ?_
   case g21 => obtain ⟨h1, h2, h3, h4, h5⟩ := HI.out; obtain ⟨k1, k2, k3⟩ := HQ.out; rw [h4, k1]; simp
   case g22 => obtain ⟨h1, h2, h3, h4, h5⟩ := HI.out; obtain ⟨k1, k2, k3⟩ := HQ.out; omega
   case g23 => obtain ⟨h1, h2, h3, h4, h5⟩ := HI.out; simp; omega
   case g24 => obtain ⟨h1, h2, h3, h4, h5⟩ := HI.out; obtain ⟨k1, k2, k3⟩ := HQ.out; simp; omega
   case g25 => obtain ⟨h1, h2, h3, h4, h5⟩ := HI.out; obtain ⟨k1, k2, k3⟩ := HQ.out; omega
   rintro e w2 ⟨rfl, dn, hdn, hdl, S3⟩
   have HDL := Lib.hid hdl
   have S4 : Aside (SWK enc k w0 blk off dn w2) := S3
   clear hdl S3 S2
   go_wp2
   go_roundg i
   case measure => omega
   case rel =>
    obtain ⟨h1, h2, h3, h4, h5⟩ := HI.out
    obtain ⟨k1, k2, k3⟩ := HQ.out
    exact ⟨i - j, j, dn, D1 ++ Q2, V, U, D2, by go_num, rfl, by omega, hj0, by omega, hmj, by omega, by omega, S4, Lib.hid ⟨k3, k2, by simp; omega, by rw [HDL.out]; simp, by rw [← h5, k1]; simp⟩⟩

end Go.Proofs.YtdiaecgpjgdkdaaGreat

namespace Go.Proofs.YtdiaecgpjgdkdaaGreat
open Go.Shelf Go.RowKit Go.Lib Go.Sort

variable {P : Program} {k : Nat} {α : Type} [Inhabited α]

set_option maxHeartbeats 4000000 in
set_option maxRecDepth 1000000 in
theorem ins_any (L : StF P k) (enc : α → List Value) (g : Nat) (cb : Array Value) (blk off cap : Nat) (d0 d : Array α) (w0 w : World) (R : RowK enc k w0 blk off d0) (hs : d0.size = d.size) (S : SWK enc k w0 blk off d w) (cf : α → α → Int) (eg : ∀ args w, (callFunc g args).run P w = .ok (.enter g args) w) (hcmp : CmpLays P g cb enc k cf blk off d0.size w0) (hO : Swo (ltOf cf)) (X U Z : List α) (hd : d.toList = X ++ (U ++ Z)) {a b : Nat} (ha : a = X.length) (hb : b = a + U.length) (hsz : d.size < 1000000000000) :
  Calls P 83 #[.slice (some ⟨blk, off, none⟩) d.size cap, .int .i64 a, .int .i64 b, .func (.func g) #[] cb] w fun e w' => e = .returned (.tuple #[]) ∧ ∃ d' : Array α, d'.size = d.size ∧ d'.toList = X ++ (isort (ltOf cf) U ++ Z) ∧ SWK enc k w0 blk off d' w' := by
 have mixed := L.mixed; have t3 := L.t3; have a3 := L.a3; have z3 := L.z3; have v3 := L.v3; have t4 := L.t4; have a4 := L.a4; have z4 := L.z4; have v4 := L.v4; have tu := L.tu; have au := L.au; have zu := L.zu; have e1 := L.en.1; have e2 := L.en.2.1; have e3 := L.en.2.2.1; have e4 := L.en.2.2.2.1; have e5 := L.en.2.2.2.2; have t22 := L.t22; have a22 := L.a22; have z22 := L.z22; have aE := L.aE; have zE := L.zE
 have hlen := congrArg List.length hd
 simp at hlen
 have S0 : Aside (SWK enc k w0 blk off d w) := S
 have HC : Aside (CmpLays P g cb enc k cf blk off d0.size w0) := hcmp
 have HO := Lib.hid hO
 have HAB := Lib.hid (show a = X.length ∧ b = a + U.length ∧ d.size = X.length + (U.length + Z.length) from ⟨ha, hb, hlen⟩)
 have HST : Hid (d.toList = X ++ (isort (ltOf cf) (U.take (a + 1 - a)) ++ (U.drop (a + 1 - a) ++ Z))) := Lib.hid (by
  rw [hd, show a + 1 - a = 1 by omega]
  cases U with
  | nil => simp [isort_nil]
  | cons x U => simp [isort_one])
 have hbd : b ≤ d.size := by omega
 have hab : a ≤ b := by omega
 clear S hd ha hb hlen hcmp hO
 go_enter L.Fins, Tryz.ntmps83
 go_wp2
 go_loopg [8] (b - a) (fun g1 s8 wr => ∃ (i : Nat) (dk : Array α), s8 = .int .i64 i ∧ a < i ∧ i ≤ b + 1 ∧ b + 1 - i ≤ g1 + 1 ∧ dk.size = d.size ∧ Aside (SWK enc k w0 blk off dk wr) ∧ Hid (dk.toList = X ++ (isort (ltOf cf) (U.take (i - a)) ++ (U.drop (i - a) ++ Z))))
 case atStart => exact ⟨a + 1, d, by go_num, by omega, by omega, by omega, rfl, S0, HST⟩
 case round =>
  clear S0 HST
  obtain ⟨i, dk, rfl, hai, hib, hg1, hsk, S1, HI⟩ := hrel
  by_cases hlt : i < b
  ·
   have hltz : (i : Int) < (b : Int) := by omega
   obtain ⟨x, HX⟩ : ∃ x, Hid (U.drop (i - a) = x :: U.drop (i + 1 - a) ∧ U.take (i + 1 - a) = U.take (i - a) ++ [x]) := by
    obtain ⟨g1, g2, g3⟩ := HAB.out
    have hu : i - a < U.length := by omega
    exact ⟨U[i - a], Lib.hid ⟨by rw [List.drop_eq_getElem_cons hu, show i + 1 - a = i - a + 1 by omega], by rw [show i + 1 - a = i - a + 1 by omega, List.take_succ_eq_append_getElem hu]⟩⟩
   go_wp2
   go_loopg [9] i (fun g2 s9 wr2 => ∃ (j : Nat) (dj : Array α) (L1 L2 : List α), s9 = .int .i64 j ∧ a ≤ j ∧ j ≤ i ∧ j ≤ g2 ∧ dj.size = d.size ∧ Aside (SWK enc k w0 blk off dj wr2) ∧ Hid (isort (ltOf cf) (U.take (i - a)) = L1 ++ L2 ∧ j = a + L1.length ∧ (∀ y ∈ L2, ltOf cf x y = true) ∧ dj.toList = X ++ (L1 ++ x :: (L2 ++ (U.drop (i + 1 - a) ++ Z)))))
   case atStart => exact ⟨i, dk, isort (ltOf cf) (U.take (i - a)), [], rfl, by omega, Nat.le_refl _, Nat.le_refl _, hsk, S1, Lib.hid ⟨by simp, by obtain ⟨g1, g2, g3⟩ := HAB.out; rw [isort_length, List.length_take]; omega, by simp, by rw [HI.out, HX.out.1]; simp⟩⟩
   case round =>
    clear S1
    obtain ⟨j, dj, L1, L2, rfl, haj, hji, hg2, hsj, S2, HJ⟩ := hrel
    have OUT : Aside ((j ≤ a ∨ ltOf cf dj[j]! dj[j - 1]! = false) → Hid (dj.toList = X ++ (isort (ltOf cf) (U.take (i + 1 - a)) ++ (U.drop (i + 1 - a) ++ Z)))) := fun hh => Lib.hid (by
     obtain ⟨h1, h2, h3, h4⟩ := HJ.out
     obtain ⟨g1, g2, g3⟩ := HAB.out
     have hsrt := isort_srt HO.out (U.take (i - a))
     rw [h1] at hsrt
     have hl : ∀ y ∈ L1, ltOf cf x y = false := by
      intro y hy
      rcases hh with hh | hh
      ·
       have : L1.length = 0 := by omega
       rw [List.eq_nil_of_length_eq_zero this] at hy; simp at hy
      ·
       have ex : dj[j]! = x := arr_at (X := X ++ L1) (Z := L2 ++ (U.drop (i + 1 - a) ++ Z)) (by rw [h4]; simp) (by simp; omega)
       rw [ex] at hh
       have hl0 : 0 < L1.length := List.length_pos_of_mem hy
       have ey : dj[j - 1]! = L1[L1.length - 1] := arr_get (X := X) (A := L1) (Z := x :: (L2 ++ (U.drop (i + 1 - a) ++ Z))) h4 (t := L1.length - 1) (by omega) (by omega)
       rw [ey] at hh
       obtain ⟨t, ht, rfl⟩ := List.getElem_of_mem hy
       have hs1 : Srt (ltOf cf) L1 := (List.pairwise_append.1 hsrt).1
       exact HO.out.le_trans (hs1.at HO.out (i := t) (j := L1.length - 1) (by omega) (by omega)) hh
     have hm := mrg_ins (lt := ltOf cf) (x := x) hl h3
     rw [HX.out.2, isort_snoc, h1, hm, h4]
     simp)
    by_cases hja : a < j
    ·
     have hjaz : (a : Int) < (j : Int) := by omega
     obtain ⟨jp, rfl⟩ : ∃ jp, j = jp + 1 := ⟨j - 1, by omega⟩
     have hjaz' : (a : Int) < (jp : Int) + 1 := by omega
     cases hL : ltOf cf dj[jp + 1]! dj[jp]! with
     | true =>
      have ea1 : ((jp : Int) + 1).toNat = jp + 1 := by omega
      have pa1 : (0 : Int) ≤ (jp : Int) + 1 := by omega
      have ba1 : (jp : Int) + 1 < (d.size : Int) := by omega
      have ra1 : IntKind.i64.wrap ((jp : Int) + 1) = (jp : Int) + 1 := by rw [IntKind.wrap_i64]; omega
      have ec1 : ((jp : Int)).toNat = jp := by omega
      have pc1 : (0 : Int) ≤ (jp : Int) := by omega
      have bc1 : (jp : Int) < (d.size : Int) := by omega
      have rc1 : IntKind.i64.wrap ((jp : Int)) = (jp : Int) := by rw [IntKind.wrap_i64]; omega
      obtain ⟨x1, hx1⟩ : ∃ x, x = dj[jp + 1]! := ⟨_, rfl⟩
      obtain ⟨y1, hy1⟩ : ∃ x, x = dj[jp]! := ⟨_, rfl⟩
      have l1a := S2.out.ld R (by omega) P (jp + 1) (by omega)
      have l1b := S2.out.ld R (by omega) P (jp) (by omega)
      rw [← hx1] at l1a
      rw [← hy1] at l1b
      have hc1 := S2.out.cmp HC.out (by omega) x1 y1
      have hv1 : cf x1 y1 < 0 := by rw [hx1, hy1]; exact of_decide_eq_true hL
      have hd1 : decide (cf x1 y1 < 0) = true := decide_eq_true hv1
      clear hx1 hy1
      go_wp2_with fail
      go_quiet_grown (first | (go_at_fn g; refine Calls.grown_of (hc1 _ _)))
      have S3 : Aside (SWK enc k w0 blk off dj (grow (wr.drewN nq) osq)) := S2.out.grown nq osq
      clear l1a l1b hc1 S2
      generalize grow (wr.drewN nq) osq = w3 at S3 ⊢
      clear nq osq
      go_wp2_with fail
      have ea2 : ((jp : Int) + 1).toNat = jp + 1 := by omega
      have pa2 : (0 : Int) ≤ (jp : Int) + 1 := by omega
      have ba2 : (jp : Int) + 1 < (d.size : Int) := by omega
      have ra2 : IntKind.i64.wrap ((jp : Int) + 1) = (jp : Int) + 1 := by rw [IntKind.wrap_i64]; omega
      have ec2 : ((jp : Int)).toNat = jp := by omega
      have pc2 : (0 : Int) ≤ (jp : Int) := by omega
      have bc2 : (jp : Int) < (d.size : Int) := by omega
      have rc2 : IntKind.i64.wrap ((jp : Int)) = (jp : Int) := by rw [IntKind.wrap_i64]; omega
      have S4 : Aside (SWK enc k w0 blk off (swp dj (jp + 1) (jp)) ((w3.drew.setCells blk (off + (jp + 1) * k) (enc dj[jp]!)).setCells blk (off + (jp) * k) (enc dj[jp + 1]!))) := S3.out.swapped R (jp + 1) (jp) (by omega) (by omega)
      have l2a := S3.out.ld1 R (by omega) P (jp + 1) (by omega)
      have l2b := S3.out.ld1 R (by omega) P (jp) (by omega)
      have s2a := S3.out.st1 R (by omega) P (jp + 1) (by omega) dj[jp]!
      have s2b := S3.out.st2 R (by omega) P (jp + 1) (jp) (by omega) (by omega) dj[jp]! dj[jp + 1]!
      have n2a : (enc dj[jp + 1]!).length = k := R.hk _
      have n2b : (enc dj[jp]!).length = k := R.hk _
      generalize enc dj[jp + 1]! = cI2 at S4 l2a s2b n2a
      generalize enc dj[jp]! = cJ2 at S4 l2b s2a s2b n2b
      clear S3
      go_wp2_with fail
      go_big_region_o
      clear l2a l2b s2a s2b
      generalize (w3.drew.setCells blk (off + (jp + 1) * k) cJ2).setCells blk (off + (jp) * k) cI2 = w4 at S4 ⊢
      all_goals go_wp2
      go_roundg jp
      case measure => omega
      case rel =>
       obtain ⟨h1, h2, h3, h4⟩ := HJ.out
       obtain ⟨g1, g2, g3⟩ := HAB.out
       obtain ⟨L3, y, rfl⟩ : ∃ L3 y, L1 = L3 ++ [y] := by
        rcases List.eq_nil_or_concat L1 with rfl | ⟨L3, y, rfl⟩
        ·
         simp at h2; omega
        ·
         exact ⟨L3, y, List.concat_eq_append⟩
       simp at h2
       have h5 : dj.toList = (X ++ L3) ++ y :: x :: (L2 ++ (U.drop (i + 1 - a) ++ Z)) := by rw [h4]; simp
       have hsw := swp_next h5 (i := jp) (j := jp + 1) (by simp; omega) (by simp; omega)
       rw [swp_comm] at hsw
       have ex : dj[jp + 1]! = x := arr_at (X := X ++ L3 ++ [y]) (Z := L2 ++ (U.drop (i + 1 - a) ++ Z)) (by rw [h4]; simp) (by simp; omega)
       have ey : dj[jp]! = y := arr_at (X := X ++ L3) (Z := x :: (L2 ++ (U.drop (i + 1 - a) ++ Z))) (by rw [h4]; simp) (by simp; omega)
       rw [ex, ey] at hL
       exact ⟨jp, swp dj (jp + 1) jp, L3, y :: L2, by first | rfl | go_num | (congr 1; omega), by omega, by omega, Nat.le_refl _, by rw [size_swp]; exact hsj, S4, Lib.hid ⟨by rw [h1]; simp, by omega, by intro z hz; rcases List.mem_cons.1 hz with rfl | hz <;> first | exact h3 _ hz | exact hL, by rw [hsw]; simp⟩⟩
     | false =>
      have OUT2 : Aside (Hid (dj.toList = X ++ (isort (ltOf cf) (U.take (i + 1 - a)) ++ (U.drop (i + 1 - a) ++ Z)))) := OUT.out (Or.inr (by simpa using hL))
      have ea3 : ((jp : Int) + 1).toNat = jp + 1 := by omega
      have pa3 : (0 : Int) ≤ (jp : Int) + 1 := by omega
      have ba3 : (jp : Int) + 1 < (d.size : Int) := by omega
      have ra3 : IntKind.i64.wrap ((jp : Int) + 1) = (jp : Int) + 1 := by rw [IntKind.wrap_i64]; omega
      have ec3 : ((jp : Int)).toNat = jp := by omega
      have pc3 : (0 : Int) ≤ (jp : Int) := by omega
      have bc3 : (jp : Int) < (d.size : Int) := by omega
      have rc3 : IntKind.i64.wrap ((jp : Int)) = (jp : Int) := by rw [IntKind.wrap_i64]; omega
      obtain ⟨x3, hx3⟩ : ∃ x, x = dj[jp + 1]! := ⟨_, rfl⟩
      obtain ⟨y3, hy3⟩ : ∃ x, x = dj[jp]! := ⟨_, rfl⟩
      have l3a := S2.out.ld R (by omega) P (jp + 1) (by omega)
      have l3b := S2.out.ld R (by omega) P (jp) (by omega)
      rw [← hx3] at l3a
      rw [← hy3] at l3b
      have hc3 := S2.out.cmp HC.out (by omega) x3 y3
      have hv3 : ¬ cf x3 y3 < 0 := by rw [hx3, hy3]; exact of_decide_eq_false hL
      have hd3 : decide (cf x3 y3 < 0) = false := decide_eq_false hv3
      clear hx3 hy3
      go_wp2_with fail
      go_quiet_grown (first | (go_at_fn g; refine Calls.grown_of (hc3 _ _)))
      have S3 : Aside (SWK enc k w0 blk off dj (grow (wr.drewN nq) osq)) := S2.out.grown nq osq
      clear l3a l3b hc3 S2
      generalize grow (wr.drewN nq) osq = w3 at S3 ⊢
      clear nq osq
      go_wp2
      go_roundg (b - (i + 1))
      case measure => omega
      case rel => exact ⟨i + 1, dj, by go_num, by omega, by omega, by omega, hsj, S3, OUT2.out⟩
    ·
     have OUT2 : Aside (Hid (dj.toList = X ++ (isort (ltOf cf) (U.take (i + 1 - a)) ++ (U.drop (i + 1 - a) ++ Z)))) := OUT.out (Or.inl (by omega))
     have hjaz : decide ((j : Int) > (a : Int)) = false := decide_eq_false (by omega)
     have hjaz' : ¬ (a : Int) < (j : Int) := by omega
     have S3 : Aside (SWK enc k w0 blk off dj wr.drew) := S2.out.drew
     clear S2
     go_wp2_with fail
     go_big_region_o
     all_goals go_wp2
     go_roundg (b - (i + 1))
     case measure => omega
     case rel => exact ⟨i + 1, dj, by go_num, by omega, by omega, by omega, hsj, S3, OUT2.out⟩
  ·
   have hltz : ¬ (i : Int) < (b : Int) := by omega
   go_wp2
   go_end0
   obtain ⟨g1, g2, g3⟩ := HAB.out
   refine ⟨rfl, dk, hsk, ?_, S1.out⟩
   rw [HI.out, List.take_of_length_le (by omega), List.drop_eq_nil_of_le (by omega)]
   simp

end Go.Proofs.YtdiaecgpjgdkdaaGreat
