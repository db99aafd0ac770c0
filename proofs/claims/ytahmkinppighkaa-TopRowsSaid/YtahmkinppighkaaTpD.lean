/- Numbers read from bytes. -/
import Derived.Test.YtahmkinppighkaaTpC
import Derived.Lib.VarintBits
set_option linter.unusedSimpArgs false
set_option linter.unusedVariables false
namespace Go.Proofs.Ytahmkinppighkaa
open Go.RowKit


theorem and_127 : ∀ a : Nat, a < 256 → a &&& 127 = a % 128 := by decide +kernel
theorem xor_m1 (X : Nat) (h : X < 4611686018427387904) : bits .xor .i64 (X : Int) (-1) = -(X : Int) - 1 := by
  show IntKind.i64.wrap ((BitVec.ofInt 64 (X : Int) ^^^ BitVec.ofInt 64 (-1)).toNat : Int) = _
  have e : (BitVec.ofInt 64 (-1)).toNat = 18446744073709551615 := by decide +kernel
  rw [BitVec.toNat_xor, ofInt_u64 X (by omega), e, xor_ones X (by omega), IntKind.wrap_i64]
  omega
theorem xor_0 (X : Nat) (h : X < 4611686018427387904) : bits .xor .i64 (X : Int) 0 = (X : Int) := by
  show IntKind.i64.wrap ((BitVec.ofInt 64 (X : Int) ^^^ BitVec.ofInt 64 0).toNat : Int) = _
  have e : (BitVec.ofInt 64 0).toNat = 0 := by decide +kernel
  rw [BitVec.toNat_xor, ofInt_u64 X (by omega), e, Nat.xor_zero, IntKind.wrap_i64]
  omega
theorem and_u64_1 (a : Nat) (h : a < 18446744073709551616) : bits .and .u64 (a : Int) 1 = ((a % 2 : Nat) : Int) := by
  rw [show (1 : Int) = ((1 : Nat) : Int) from rfl, u64_and_nat a 1 h (by decide), Nat.and_one_is_mod]
/-- a place in bytes at which an integer stands -/
def IntAt (bs : List UInt8) (at_ : Nat) (i : Int) : Prop := ∃ rest, bs.drop at_ = encI i ++ rest
def TrI (a b c : Int) : Ending := .returned (.tuple #[.int .i64 a, .int .i64 b, .int .i64 c])


/-- one byte of a number: what the walk computes -/
theorem step_u {M acc zl : Nat} (hM : M = 1 ∨ M = 128 ∨ M = 16384 ∨ M = 2097152 ∨ M = 268435456 ∨ M = 34359738368 ∨ M = 4398046511104 ∨ M = 562949953421312) (ha : acc < M) (hz : zl < 128) (hb : zl * M < 18446744073709551616) : bits .or .u64 (acc : Int) ((zl * M : Nat) : Int) = ((acc + zl * M : Nat) : Int) := by
  have e := Int.natCast_add acc (zl * M)
  rcases hM with rfl | rfl | rfl | rfl | rfl | rfl | rfl | rfl
  · rw [u64_orv0 _ _ (by omega) (by omega) (by omega) (by omega) (by omega)]; omega
  · rw [u64_orv7 _ _ (by omega) (by omega) (by omega) (by omega) (by omega)]; omega
  · rw [u64_orv14 _ _ (by omega) (by omega) (by omega) (by omega) (by omega)]; omega
  · rw [u64_orv21 _ _ (by omega) (by omega) (by omega) (by omega) (by omega)]; omega
  · rw [u64_orv28 _ _ (by omega) (by omega) (by omega) (by omega) (by omega)]; omega
  · rw [u64_orv35 _ _ (by omega) (by omega) (by omega) (by omega) (by omega)]; omega
  · rw [u64_orv42 _ _ (by omega) (by omega) (by omega) (by omega) (by omega)]; omega
  · rw [u64_orv49 _ _ (by omega) (by omega) (by omega) (by omega) (by omega)]; omega


def InP (i : Int) (at_ : Nat) (w : World) (e : Ending) (w' : World) : Prop := e = .returned (.tuple #[.int .i64 i, .int .i64 ((at_ + (encI i).length : Nat) : Int), .int .i64 0]) ∧ w' = w
theorem unz (u : Nat) (hu : u < 72057594037927936) : ∃ h p : Nat, (u : Int) / 2 = (h : Int) ∧ IntKind.i64.wrap (h : Int) = (h : Int) ∧ bits .and .u64 (u : Int) 1 = (p : Int) ∧ IntKind.i64.wrap (p : Int) = (p : Int) ∧ ((p = 0 ∧ bits .xor .i64 (h : Int) 0 = unzig u) ∨ (p = 1 ∧ bits .xor .i64 (h : Int) (-1) = unzig u)) := by
  refine ⟨u / 2, u % 2, by omega, by rw [IntKind.wrap_i64]; omega, by rw [and_u64_1 u (by omega)], by rw [IntKind.wrap_i64]; omega, ?_⟩
  unfold unzig
  rcases Nat.mod_two_eq_zero_or_one u with h | h
  · refine .inl ⟨h, ?_⟩
    rw [if_pos h, xor_0 _ (by omega)]
  · refine .inr ⟨h, ?_⟩
    rw [if_neg (by omega), xor_m1 _ (by omega)]
theorem drop_tail {bs : List UInt8} {a : Nat} {z : UInt8} {t r : List UInt8} (h : bs.drop a = (z :: t) ++ r) : bs.drop (a + 1) = t ++ r := by
  rw [← List.drop_drop, h]
  rfl
set_option maxRecDepth 100000 in
set_option maxHeartbeats 8000000 in
theorem int_any (A : Option Addr) (n c : Nat) (bs : List UInt8) (at_ : Nat) (i : Int) (w : World) (hn : bs.length = n) (hc : n ≤ c) (hcm : c ≤ maxLen) (hnb : n ≤ 1048576) (hR : Rd w 1 A n (bcl bs)) (hI : IntAt bs at_ i) (h1 : -36028797018963968 < i) (h2 : i < 36028797018963968) :
    Calls Try.prog 32 #[.slice A n c, .int .i64 at_] w (InP i at_ w) := by
  obtain ⟨rest, hrest⟩ := hI
  have HU : Hid (unzig (zig i) = i) := Lib.hid (unzig_zig i)
  have hub : zig i < 72057594037927936 := by unfold zig; split <;> omega
  unfold encI at hrest
  unfold InP encI
  generalize zig i = u at hrest HU hub ⊢
  have hlt0 : at_ < n := by
    rcases Nat.lt_or_ge at_ n with h | h
    · exact h
    · rw [List.drop_eq_nil_of_le (by omega)] at hrest
      have := congrArg List.length hrest
      have := encU_len u
      simp at *
      omega
  obtain ⟨g, oo, rfl, hg, hcell⟩ := hR.2 (by omega)
  have HC : Hid (∀ k z, bs[k]? = some z → w.cell? ⟨g, oo + k, none⟩ = some (.int .u8 z.toNat)) := Lib.hid fun k z h => hcell k _ (by simp [bcl, h])
  have HR : Hid (bs.drop (at_ + 0) = encU u ++ rest) := Lib.hid hrest
  have HN := Lib.hid hn
  have hz1 : ¬ ((at_ : Int) < 0) := by omega
  have hz2 : ¬ ((n : Int) < (at_ : Int)) := by omega
  have hm : c ≤ 9223372036854775807 := by unfold maxLen at hcm; omega
  have ha1 : at_ ≤ n := by omega
  have ha2 : at_ < c := by omega
  clear hcell hrest hR hn
  go_enter Try.func32, Try.ntmps32
  go_wp2
  obtain ⟨L, hL⟩ : ∃ L, n - at_ = L := ⟨_, rfl⟩
  rw [hL]
  go_loopg [7, 22] 8 (fun g2 u7 ix wr => ∃ (k acc rem : Nat), u7 = .int .u64 acc ∧ ix = .int .i64 k ∧ k ≤ 7 ∧ 8 - k ≤ g2 ∧ acc + rem * 128 ^ k = u ∧ acc < 128 ^ k ∧ (k = 0 ∨ 0 < rem) ∧ rem < 128 ^ (8 - k) ∧ Hid (bs.drop (at_ + k) = encU rem ++ rest) ∧ Hid (k + (encU rem).length = (encU u).length) ∧ wr = w)
  case atStart => exact ⟨0, 0, u, rfl, rfl, by omega, by omega, by simp, by simp, .inl rfl, by simpa using hub, HR, Lib.hid (by simp), rfl⟩
  case round =>
    obtain ⟨k, acc, rem, rfl, rfl, hk, hg2, hsumk, hacck, hrp0, hremk, HE, HL, rfl⟩ := hrel
    have HG := Lib.hid hg2
    clear hg2 HR
    obtain ⟨z, tl, hzt0⟩ : ∃ z tl, encU rem = z :: tl := by
      rcases h : encU rem with _ | ⟨z, tl⟩
      · have := encU_len rem; rw [h] at this; simp at this
      · exact ⟨z, tl, rfl⟩
    have HZ : Hid (rem < 128 → z = UInt8.ofNat rem) := Lib.hid fun h => by rw [encU_lt h] at hzt0; injection hzt0 with h1 h2; exact h1.symm
    have HZ2 : Hid (¬ rem < 128 → z = UInt8.ofNat (rem % 128 + 128)) := Lib.hid fun h => by rw [encU_ge h] at hzt0; injection hzt0 with h1 h2; exact h1.symm
    have hbz : bs[at_ + k]? = some z := by
      have h := HE.out
      rw [hzt0, List.cons_append] at h
      have h2 := congrArg (fun l => l[0]?) h
      simpa using h2
    have hkL : k < L := by
      have := (List.getElem?_eq_some_iff.1 hbz).1
      have := HN.out
      omega
    have hkz : (k : Int) < (L : Int) := by omega
    have hkn : at_ + k < n := by omega
    have c0 := HC.out _ _ hbz
    rw [← Nat.add_assoc] at c0
    have hz256 : z.toNat < 256 := z.toNat_lt
    clear hzt0 hbz
    have hks : k = 0 ∨ k = 1 ∨ k = 2 ∨ k = 3 ∨ k = 4 ∨ k = 5 ∨ k = 6 ∨ k = 7 := by omega
    rcases hks with rfl | rfl | rfl | rfl | rfl | rfl | rfl | rfl
    · have hac : acc + rem * 1 = u := by simpa using hsumk
      have hacc : acc < 1 := by simpa using hacck
      have hrem : rem < 72057594037927936 := by simpa using hremk
      clear hsumk hacck hremk
      obtain rfl : acc = 0 := by omega
      rw [Nat.add_zero] at c0
      by_cases hr : rem < 128
      · have hzt : z.toNat = rem := by rw [HZ.out hr]; simp; omega
        have hzl : z.toNat % 128 = rem := by rw [hzt]; omega
        have hsum : 0 + rem * 1 = u := by have := hac; omega
        have f1 : bits .and .u8 (z.toNat : Int) 127 = (rem : Int) := by rw [show (127 : Int) = ((127 : Nat) : Int) from rfl, u8_and_nat _ _ (by omega) (by decide), and_127 _ (by omega), hzl]
        obtain ⟨zs, hzs⟩ : ∃ zs, rem * 1 = zs := ⟨_, rfl⟩
        have f2 : IntKind.u64.wrap (rem : Int) = (rem : Int) := by rw [IntKind.wrap_u64]; omega
        have f2' : (rem : Int) % 18446744073709551616 = (rem : Int) := by omega
        have f3 : IntKind.u64.wrap ((rem : Int) * 1) = (zs : Int) := by rw [IntKind.wrap_u64]; omega
        have f3' : (rem : Int) * 1 % 18446744073709551616 = (zs : Int) := by omega
        have f4 : bits .or .u64 ((0 : Nat) : Int) (zs : Int) = (u : Int) := by rw [← hzs, step_u (M := 1) (by omega) hacc (by omega) (by omega), hsum]
        have f5 : (z.toNat : Int) < 128 := by omega
        have f4b : bits .or .u64 0 (rem : Int) = (u : Int) := by have h := f4; rw [show 0 = 0 by omega, show zs = rem by omega] at h; exact h
        have HL2 : Hid ((encU u).length = 0 + 1) := Lib.hid (by rw [← HL.out, encU_lt hr]; rfl)
        clear hzs hsum hac hzt hzl
        obtain ⟨h, p, g1, g2, g3, g4, g5⟩ := unz u hub
        rw [HU.out] at g5
        rcases g5 with ⟨rfl, g5⟩ | ⟨rfl, g5⟩
        · go_wp2
          refine bodyPost_ret (v := .tuple #[.int .i64 i, .int .i64 ((at_ + (0 + 1) : Nat) : Int),   .int .i64 0]) ?_ rfl ⟨by first | (rw [HL2.out]; done) | (rw [HL2.out]; simp), rfl⟩
          simp [results, Try.results32, go_sem, ↓IntWalk.iteOmega, g5]
          all_goals omega
        · go_wp2
          refine bodyPost_ret (v := .tuple #[.int .i64 i, .int .i64 ((at_ + (0 + 1) : Nat) : Int),   .int .i64 0]) ?_ rfl ⟨by first | (rw [HL2.out]; done) | (rw [HL2.out]; simp), rfl⟩
          simp [results, Try.results32, go_sem, ↓IntWalk.iteOmega, g5]
          all_goals omega
      · have hzt : z.toNat = rem % 128 + 128 := by rw [HZ2.out hr]; simp; omega
        have hzl : z.toNat % 128 = rem % 128 := by rw [hzt]; omega
        obtain ⟨zl, hzl2⟩ : ∃ zl, rem % 128 = zl := ⟨_, rfl⟩
        obtain ⟨rem2, hr2⟩ : ∃ rem2, rem / 128 = rem2 := ⟨_, rfl⟩
        have hrr : rem = rem2 * 128 + zl := by omega
        have f1 : bits .and .u8 (z.toNat : Int) 127 = (zl : Int) := by rw [show (127 : Int) = ((127 : Nat) : Int) from rfl, u8_and_nat _ _ (by omega) (by decide), and_127 _ (by omega), hzl, hzl2]
        have hzlb : zl < 128 := by omega
        obtain ⟨zs, hzs⟩ : ∃ zs, zl * 1 = zs := ⟨_, rfl⟩
        obtain ⟨acc2, ha2⟩ : ∃ acc2, 0 + zs = acc2 := ⟨_, rfl⟩
        have f2 : IntKind.u64.wrap (zl : Int) = (zl : Int) := by rw [IntKind.wrap_u64]; omega
        have f2' : (zl : Int) % 18446744073709551616 = (zl : Int) := by omega
        have f3 : IntKind.u64.wrap ((zl : Int) * 1) = (zs : Int) := by rw [IntKind.wrap_u64]; omega
        have f3' : (zl : Int) * 1 % 18446744073709551616 = (zs : Int) := by omega
        have f4 : bits .or .u64 ((0 : Nat) : Int) (zs : Int) = (acc2 : Int) := by rw [← hzs, step_u (M := 1) (by omega) hacc (by omega) (by omega), hzs, ha2]
        have f5 : ¬ ((z.toNat : Int) < 128) := by omega
        have f4b : bits .or .u64 0 (zl : Int) = (acc2 : Int) := by have h := f4; rw [show 0 = 0 by omega, show zs = zl by omega] at h; exact h
        have hac2 : acc2 + rem2 * 128 = u := by omega
        have hacc2 : acc2 < 128 := by omega
        have hrem2 : rem2 < 562949953421312 := by omega
        have hrp : 0 < rem2 := by omega
        have HE2 : Hid (bs.drop (at_ + (0 + 1)) = encU rem2 ++ rest) := Lib.hid (by
          have h := HE.out
          rw [encU_ge hr, hr2] at h
          exact drop_tail h)
        have HL2 : Hid (0 + 1 + (encU rem2).length = (encU u).length) := Lib.hid (by
          have h := HL.out
          rw [encU_ge hr, hr2, List.length_cons] at h
          omega)
        clear hzs hac hzt hzl hrr hzl2 hr2 ha2
        go_wp2
        go_roundg (gk - 1)
        case rel => exact ⟨1, acc2, rem2, rfl, by go_num, by omega, by have := HG.out; omega, hac2, hacc2, .inr hrp, hrem2, HE2, HL2, rfl⟩
        case measure => have := HG.out; omega
    · have hac : acc + rem * 128 = u := by simpa using hsumk
      have hacc : acc < 128 := by simpa using hacck
      have hrem : rem < 562949953421312 := by simpa using hremk
      clear hsumk hacck hremk
      have hrk : 0 < rem := by omega
      by_cases hr : rem < 128
      · have hzt : z.toNat = rem := by rw [HZ.out hr]; simp; omega
        have hzl : z.toNat % 128 = rem := by rw [hzt]; omega
        have hsum : acc + rem * 128 = u := by have := hac; omega
        have f1 : bits .and .u8 (z.toNat : Int) 127 = (rem : Int) := by rw [show (127 : Int) = ((127 : Nat) : Int) from rfl, u8_and_nat _ _ (by omega) (by decide), and_127 _ (by omega), hzl]
        obtain ⟨zs, hzs⟩ : ∃ zs, rem * 128 = zs := ⟨_, rfl⟩
        have f2 : IntKind.u64.wrap (rem : Int) = (rem : Int) := by rw [IntKind.wrap_u64]; omega
        have f2' : (rem : Int) % 18446744073709551616 = (rem : Int) := by omega
        have f3 : IntKind.u64.wrap ((rem : Int) * 128) = (zs : Int) := by rw [IntKind.wrap_u64]; omega
        have f3' : (rem : Int) * 128 % 18446744073709551616 = (zs : Int) := by omega
        have f4 : bits .or .u64 (acc : Int) (zs : Int) = (u : Int) := by rw [← hzs, step_u (M := 128) (by omega) hacc (by omega) (by omega), hsum]
        have f5 : (z.toNat : Int) < 128 := by omega
        have f0 : ((z.toNat : Int) == 0) = false := by rw [beq_eq_false_iff_ne]; omega
        have HL2 : Hid ((encU u).length = 1 + 1) := Lib.hid (by rw [← HL.out, encU_lt hr]; rfl)
        clear hzs hsum hac hzt hzl
        obtain ⟨h, p, g1, g2, g3, g4, g5⟩ := unz u hub
        rw [HU.out] at g5
        rcases g5 with ⟨rfl, g5⟩ | ⟨rfl, g5⟩
        · go_wp2
          refine bodyPost_ret (v := .tuple #[.int .i64 i, .int .i64 ((at_ + (1 + 1) : Nat) : Int),   .int .i64 0]) ?_ rfl ⟨by first | (rw [HL2.out]; done) | (rw [HL2.out]; simp), rfl⟩
          simp [results, Try.results32, go_sem, ↓IntWalk.iteOmega, g5]
          all_goals omega
        · go_wp2
          refine bodyPost_ret (v := .tuple #[.int .i64 i, .int .i64 ((at_ + (1 + 1) : Nat) : Int),   .int .i64 0]) ?_ rfl ⟨by first | (rw [HL2.out]; done) | (rw [HL2.out]; simp), rfl⟩
          simp [results, Try.results32, go_sem, ↓IntWalk.iteOmega, g5]
          all_goals omega
      · have hzt : z.toNat = rem % 128 + 128 := by rw [HZ2.out hr]; simp; omega
        have hzl : z.toNat % 128 = rem % 128 := by rw [hzt]; omega
        obtain ⟨zl, hzl2⟩ : ∃ zl, rem % 128 = zl := ⟨_, rfl⟩
        obtain ⟨rem2, hr2⟩ : ∃ rem2, rem / 128 = rem2 := ⟨_, rfl⟩
        have hrr : rem = rem2 * 128 + zl := by omega
        have f1 : bits .and .u8 (z.toNat : Int) 127 = (zl : Int) := by rw [show (127 : Int) = ((127 : Nat) : Int) from rfl, u8_and_nat _ _ (by omega) (by decide), and_127 _ (by omega), hzl, hzl2]
        have hzlb : zl < 128 := by omega
        obtain ⟨zs, hzs⟩ : ∃ zs, zl * 128 = zs := ⟨_, rfl⟩
        obtain ⟨acc2, ha2⟩ : ∃ acc2, acc + zs = acc2 := ⟨_, rfl⟩
        have f2 : IntKind.u64.wrap (zl : Int) = (zl : Int) := by rw [IntKind.wrap_u64]; omega
        have f2' : (zl : Int) % 18446744073709551616 = (zl : Int) := by omega
        have f3 : IntKind.u64.wrap ((zl : Int) * 128) = (zs : Int) := by rw [IntKind.wrap_u64]; omega
        have f3' : (zl : Int) * 128 % 18446744073709551616 = (zs : Int) := by omega
        have f4 : bits .or .u64 (acc : Int) (zs : Int) = (acc2 : Int) := by rw [← hzs, step_u (M := 128) (by omega) hacc (by omega) (by omega), hzs, ha2]
        have f5 : ¬ ((z.toNat : Int) < 128) := by omega
        have f0 : ((z.toNat : Int) == 0) = false := by rw [beq_eq_false_iff_ne]; omega
        have hac2 : acc2 + rem2 * 16384 = u := by omega
        have hacc2 : acc2 < 16384 := by omega
        have hrem2 : rem2 < 4398046511104 := by omega
        have hrp : 0 < rem2 := by omega
        have HE2 : Hid (bs.drop (at_ + (1 + 1)) = encU rem2 ++ rest) := Lib.hid (by
          have h := HE.out
          rw [encU_ge hr, hr2] at h
          exact drop_tail h)
        have HL2 : Hid (1 + 1 + (encU rem2).length = (encU u).length) := Lib.hid (by
          have h := HL.out
          rw [encU_ge hr, hr2, List.length_cons] at h
          omega)
        clear hzs hac hzt hzl hrr hzl2 hr2 ha2
        go_wp2
        go_roundg (gk - 1)
        case rel => exact ⟨2, acc2, rem2, rfl, by go_num, by omega, by have := HG.out; omega, hac2, hacc2, .inr hrp, hrem2, HE2, HL2, rfl⟩
        case measure => have := HG.out; omega
    · have hac : acc + rem * 16384 = u := by simpa using hsumk
      have hacc : acc < 16384 := by simpa using hacck
      have hrem : rem < 4398046511104 := by simpa using hremk
      clear hsumk hacck hremk
      have hrk : 0 < rem := by omega
      by_cases hr : rem < 128
      · have hzt : z.toNat = rem := by rw [HZ.out hr]; simp; omega
        have hzl : z.toNat % 128 = rem := by rw [hzt]; omega
        have hsum : acc + rem * 16384 = u := by have := hac; omega
        have f1 : bits .and .u8 (z.toNat : Int) 127 = (rem : Int) := by rw [show (127 : Int) = ((127 : Nat) : Int) from rfl, u8_and_nat _ _ (by omega) (by decide), and_127 _ (by omega), hzl]
        obtain ⟨zs, hzs⟩ : ∃ zs, rem * 16384 = zs := ⟨_, rfl⟩
        have f2 : IntKind.u64.wrap (rem : Int) = (rem : Int) := by rw [IntKind.wrap_u64]; omega
        have f2' : (rem : Int) % 18446744073709551616 = (rem : Int) := by omega
        have f3 : IntKind.u64.wrap ((rem : Int) * 16384) = (zs : Int) := by rw [IntKind.wrap_u64]; omega
        have f3' : (rem : Int) * 16384 % 18446744073709551616 = (zs : Int) := by omega
        have f4 : bits .or .u64 (acc : Int) (zs : Int) = (u : Int) := by rw [← hzs, step_u (M := 16384) (by omega) hacc (by omega) (by omega), hsum]
        have f5 : (z.toNat : Int) < 128 := by omega
        have f0 : ((z.toNat : Int) == 0) = false := by rw [beq_eq_false_iff_ne]; omega
        have HL2 : Hid ((encU u).length = 2 + 1) := Lib.hid (by rw [← HL.out, encU_lt hr]; rfl)
        clear hzs hsum hac hzt hzl
        obtain ⟨h, p, g1, g2, g3, g4, g5⟩ := unz u hub
        rw [HU.out] at g5
        rcases g5 with ⟨rfl, g5⟩ | ⟨rfl, g5⟩
        · go_wp2
          refine bodyPost_ret (v := .tuple #[.int .i64 i, .int .i64 ((at_ + (2 + 1) : Nat) : Int),   .int .i64 0]) ?_ rfl ⟨by first | (rw [HL2.out]; done) | (rw [HL2.out]; simp), rfl⟩
          simp [results, Try.results32, go_sem, ↓IntWalk.iteOmega, g5]
          all_goals omega
        · go_wp2
          refine bodyPost_ret (v := .tuple #[.int .i64 i, .int .i64 ((at_ + (2 + 1) : Nat) : Int),   .int .i64 0]) ?_ rfl ⟨by first | (rw [HL2.out]; done) | (rw [HL2.out]; simp), rfl⟩
          simp [results, Try.results32, go_sem, ↓IntWalk.iteOmega, g5]
          all_goals omega
      · have hzt : z.toNat = rem % 128 + 128 := by rw [HZ2.out hr]; simp; omega
        have hzl : z.toNat % 128 = rem % 128 := by rw [hzt]; omega
        obtain ⟨zl, hzl2⟩ : ∃ zl, rem % 128 = zl := ⟨_, rfl⟩
        obtain ⟨rem2, hr2⟩ : ∃ rem2, rem / 128 = rem2 := ⟨_, rfl⟩
        have hrr : rem = rem2 * 128 + zl := by omega
        have f1 : bits .and .u8 (z.toNat : Int) 127 = (zl : Int) := by rw [show (127 : Int) = ((127 : Nat) : Int) from rfl, u8_and_nat _ _ (by omega) (by decide), and_127 _ (by omega), hzl, hzl2]
        have hzlb : zl < 128 := by omega
        obtain ⟨zs, hzs⟩ : ∃ zs, zl * 16384 = zs := ⟨_, rfl⟩
        obtain ⟨acc2, ha2⟩ : ∃ acc2, acc + zs = acc2 := ⟨_, rfl⟩
        have f2 : IntKind.u64.wrap (zl : Int) = (zl : Int) := by rw [IntKind.wrap_u64]; omega
        have f2' : (zl : Int) % 18446744073709551616 = (zl : Int) := by omega
        have f3 : IntKind.u64.wrap ((zl : Int) * 16384) = (zs : Int) := by rw [IntKind.wrap_u64]; omega
        have f3' : (zl : Int) * 16384 % 18446744073709551616 = (zs : Int) := by omega
        have f4 : bits .or .u64 (acc : Int) (zs : Int) = (acc2 : Int) := by rw [← hzs, step_u (M := 16384) (by omega) hacc (by omega) (by omega), hzs, ha2]
        have f5 : ¬ ((z.toNat : Int) < 128) := by omega
        have f0 : ((z.toNat : Int) == 0) = false := by rw [beq_eq_false_iff_ne]; omega
        have hac2 : acc2 + rem2 * 2097152 = u := by omega
        have hacc2 : acc2 < 2097152 := by omega
        have hrem2 : rem2 < 34359738368 := by omega
        have hrp : 0 < rem2 := by omega
        have HE2 : Hid (bs.drop (at_ + (2 + 1)) = encU rem2 ++ rest) := Lib.hid (by
          have h := HE.out
          rw [encU_ge hr, hr2] at h
          exact drop_tail h)
        have HL2 : Hid (2 + 1 + (encU rem2).length = (encU u).length) := Lib.hid (by
          have h := HL.out
          rw [encU_ge hr, hr2, List.length_cons] at h
          omega)
        clear hzs hac hzt hzl hrr hzl2 hr2 ha2
        go_wp2
        go_roundg (gk - 1)
        case rel => exact ⟨3, acc2, rem2, rfl, by go_num, by omega, by have := HG.out; omega, hac2, hacc2, .inr hrp, hrem2, HE2, HL2, rfl⟩
        case measure => have := HG.out; omega
    · have hac : acc + rem * 2097152 = u := by simpa using hsumk
      have hacc : acc < 2097152 := by simpa using hacck
      have hrem : rem < 34359738368 := by simpa using hremk
      clear hsumk hacck hremk
      have hrk : 0 < rem := by omega
      by_cases hr : rem < 128
      · have hzt : z.toNat = rem := by rw [HZ.out hr]; simp; omega
        have hzl : z.toNat % 128 = rem := by rw [hzt]; omega
        have hsum : acc + rem * 2097152 = u := by have := hac; omega
        have f1 : bits .and .u8 (z.toNat : Int) 127 = (rem : Int) := by rw [show (127 : Int) = ((127 : Nat) : Int) from rfl, u8_and_nat _ _ (by omega) (by decide), and_127 _ (by omega), hzl]
        obtain ⟨zs, hzs⟩ : ∃ zs, rem * 2097152 = zs := ⟨_, rfl⟩
        have f2 : IntKind.u64.wrap (rem : Int) = (rem : Int) := by rw [IntKind.wrap_u64]; omega
        have f2' : (rem : Int) % 18446744073709551616 = (rem : Int) := by omega
        have f3 : IntKind.u64.wrap ((rem : Int) * 2097152) = (zs : Int) := by rw [IntKind.wrap_u64]; omega
        have f3' : (rem : Int) * 2097152 % 18446744073709551616 = (zs : Int) := by omega
        have f4 : bits .or .u64 (acc : Int) (zs : Int) = (u : Int) := by rw [← hzs, step_u (M := 2097152) (by omega) hacc (by omega) (by omega), hsum]
        have f5 : (z.toNat : Int) < 128 := by omega
        have f0 : ((z.toNat : Int) == 0) = false := by rw [beq_eq_false_iff_ne]; omega
        have HL2 : Hid ((encU u).length = 3 + 1) := Lib.hid (by rw [← HL.out, encU_lt hr]; rfl)
        clear hzs hsum hac hzt hzl
        obtain ⟨h, p, g1, g2, g3, g4, g5⟩ := unz u hub
        rw [HU.out] at g5
        rcases g5 with ⟨rfl, g5⟩ | ⟨rfl, g5⟩
        · go_wp2
          refine bodyPost_ret (v := .tuple #[.int .i64 i, .int .i64 ((at_ + (3 + 1) : Nat) : Int),   .int .i64 0]) ?_ rfl ⟨by first | (rw [HL2.out]; done) | (rw [HL2.out]; simp), rfl⟩
          simp [results, Try.results32, go_sem, ↓IntWalk.iteOmega, g5]
          all_goals omega
        · go_wp2
          refine bodyPost_ret (v := .tuple #[.int .i64 i, .int .i64 ((at_ + (3 + 1) : Nat) : Int),   .int .i64 0]) ?_ rfl ⟨by first | (rw [HL2.out]; done) | (rw [HL2.out]; simp), rfl⟩
          simp [results, Try.results32, go_sem, ↓IntWalk.iteOmega, g5]
          all_goals omega
      · have hzt : z.toNat = rem % 128 + 128 := by rw [HZ2.out hr]; simp; omega
        have hzl : z.toNat % 128 = rem % 128 := by rw [hzt]; omega
        obtain ⟨zl, hzl2⟩ : ∃ zl, rem % 128 = zl := ⟨_, rfl⟩
        obtain ⟨rem2, hr2⟩ : ∃ rem2, rem / 128 = rem2 := ⟨_, rfl⟩
        have hrr : rem = rem2 * 128 + zl := by omega
        have f1 : bits .and .u8 (z.toNat : Int) 127 = (zl : Int) := by rw [show (127 : Int) = ((127 : Nat) : Int) from rfl, u8_and_nat _ _ (by omega) (by decide), and_127 _ (by omega), hzl, hzl2]
        have hzlb : zl < 128 := by omega
        obtain ⟨zs, hzs⟩ : ∃ zs, zl * 2097152 = zs := ⟨_, rfl⟩
        obtain ⟨acc2, ha2⟩ : ∃ acc2, acc + zs = acc2 := ⟨_, rfl⟩
        have f2 : IntKind.u64.wrap (zl : Int) = (zl : Int) := by rw [IntKind.wrap_u64]; omega
        have f2' : (zl : Int) % 18446744073709551616 = (zl : Int) := by omega
        have f3 : IntKind.u64.wrap ((zl : Int) * 2097152) = (zs : Int) := by rw [IntKind.wrap_u64]; omega
        have f3' : (zl : Int) * 2097152 % 18446744073709551616 = (zs : Int) := by omega
        have f4 : bits .or .u64 (acc : Int) (zs : Int) = (acc2 : Int) := by rw [← hzs, step_u (M := 2097152) (by omega) hacc (by omega) (by omega), hzs, ha2]
        have f5 : ¬ ((z.toNat : Int) < 128) := by omega
        have f0 : ((z.toNat : Int) == 0) = false := by rw [beq_eq_false_iff_ne]; omega
        have hac2 : acc2 + rem2 * 268435456 = u := by omega
        have hacc2 : acc2 < 268435456 := by omega
        have hrem2 : rem2 < 268435456 := by omega
        have hrp : 0 < rem2 := by omega
        have HE2 : Hid (bs.drop (at_ + (3 + 1)) = encU rem2 ++ rest) := Lib.hid (by
          have h := HE.out
          rw [encU_ge hr, hr2] at h
          exact drop_tail h)
        have HL2 : Hid (3 + 1 + (encU rem2).length = (encU u).length) := Lib.hid (by
          have h := HL.out
          rw [encU_ge hr, hr2, List.length_cons] at h
          omega)
        clear hzs hac hzt hzl hrr hzl2 hr2 ha2
        go_wp2
        go_roundg (gk - 1)
        case rel => exact ⟨4, acc2, rem2, rfl, by go_num, by omega, by have := HG.out; omega, hac2, hacc2, .inr hrp, hrem2, HE2, HL2, rfl⟩
        case measure => have := HG.out; omega
    · have hac : acc + rem * 268435456 = u := by simpa using hsumk
      have hacc : acc < 268435456 := by simpa using hacck
      have hrem : rem < 268435456 := by simpa using hremk
      clear hsumk hacck hremk
      have hrk : 0 < rem := by omega
      by_cases hr : rem < 128
      · have hzt : z.toNat = rem := by rw [HZ.out hr]; simp; omega
        have hzl : z.toNat % 128 = rem := by rw [hzt]; omega
        have hsum : acc + rem * 268435456 = u := by have := hac; omega
        have f1 : bits .and .u8 (z.toNat : Int) 127 = (rem : Int) := by rw [show (127 : Int) = ((127 : Nat) : Int) from rfl, u8_and_nat _ _ (by omega) (by decide), and_127 _ (by omega), hzl]
        obtain ⟨zs, hzs⟩ : ∃ zs, rem * 268435456 = zs := ⟨_, rfl⟩
        have f2 : IntKind.u64.wrap (rem : Int) = (rem : Int) := by rw [IntKind.wrap_u64]; omega
        have f2' : (rem : Int) % 18446744073709551616 = (rem : Int) := by omega
        have f3 : IntKind.u64.wrap ((rem : Int) * 268435456) = (zs : Int) := by rw [IntKind.wrap_u64]; omega
        have f3' : (rem : Int) * 268435456 % 18446744073709551616 = (zs : Int) := by omega
        have f4 : bits .or .u64 (acc : Int) (zs : Int) = (u : Int) := by rw [← hzs, step_u (M := 268435456) (by omega) hacc (by omega) (by omega), hsum]
        have f5 : (z.toNat : Int) < 128 := by omega
        have f0 : ((z.toNat : Int) == 0) = false := by rw [beq_eq_false_iff_ne]; omega
        have HL2 : Hid ((encU u).length = 4 + 1) := Lib.hid (by rw [← HL.out, encU_lt hr]; rfl)
        clear hzs hsum hac hzt hzl
        obtain ⟨h, p, g1, g2, g3, g4, g5⟩ := unz u hub
        rw [HU.out] at g5
        rcases g5 with ⟨rfl, g5⟩ | ⟨rfl, g5⟩
        · go_wp2
          refine bodyPost_ret (v := .tuple #[.int .i64 i, .int .i64 ((at_ + (4 + 1) : Nat) : Int),   .int .i64 0]) ?_ rfl ⟨by first | (rw [HL2.out]; done) | (rw [HL2.out]; simp), rfl⟩
          simp [results, Try.results32, go_sem, ↓IntWalk.iteOmega, g5]
          all_goals omega
        · go_wp2
          refine bodyPost_ret (v := .tuple #[.int .i64 i, .int .i64 ((at_ + (4 + 1) : Nat) : Int),   .int .i64 0]) ?_ rfl ⟨by first | (rw [HL2.out]; done) | (rw [HL2.out]; simp), rfl⟩
          simp [results, Try.results32, go_sem, ↓IntWalk.iteOmega, g5]
          all_goals omega
      · have hzt : z.toNat = rem % 128 + 128 := by rw [HZ2.out hr]; simp; omega
        have hzl : z.toNat % 128 = rem % 128 := by rw [hzt]; omega
        obtain ⟨zl, hzl2⟩ : ∃ zl, rem % 128 = zl := ⟨_, rfl⟩
        obtain ⟨rem2, hr2⟩ : ∃ rem2, rem / 128 = rem2 := ⟨_, rfl⟩
        have hrr : rem = rem2 * 128 + zl := by omega
        have f1 : bits .and .u8 (z.toNat : Int) 127 = (zl : Int) := by rw [show (127 : Int) = ((127 : Nat) : Int) from rfl, u8_and_nat _ _ (by omega) (by decide), and_127 _ (by omega), hzl, hzl2]
        have hzlb : zl < 128 := by omega
        obtain ⟨zs, hzs⟩ : ∃ zs, zl * 268435456 = zs := ⟨_, rfl⟩
        obtain ⟨acc2, ha2⟩ : ∃ acc2, acc + zs = acc2 := ⟨_, rfl⟩
        have f2 : IntKind.u64.wrap (zl : Int) = (zl : Int) := by rw [IntKind.wrap_u64]; omega
        have f2' : (zl : Int) % 18446744073709551616 = (zl : Int) := by omega
        have f3 : IntKind.u64.wrap ((zl : Int) * 268435456) = (zs : Int) := by rw [IntKind.wrap_u64]; omega
        have f3' : (zl : Int) * 268435456 % 18446744073709551616 = (zs : Int) := by omega
        have f4 : bits .or .u64 (acc : Int) (zs : Int) = (acc2 : Int) := by rw [← hzs, step_u (M := 268435456) (by omega) hacc (by omega) (by omega), hzs, ha2]
        have f5 : ¬ ((z.toNat : Int) < 128) := by omega
        have f0 : ((z.toNat : Int) == 0) = false := by rw [beq_eq_false_iff_ne]; omega
        have hac2 : acc2 + rem2 * 34359738368 = u := by omega
        have hacc2 : acc2 < 34359738368 := by omega
        have hrem2 : rem2 < 2097152 := by omega
        have hrp : 0 < rem2 := by omega
        have HE2 : Hid (bs.drop (at_ + (4 + 1)) = encU rem2 ++ rest) := Lib.hid (by
          have h := HE.out
          rw [encU_ge hr, hr2] at h
          exact drop_tail h)
        have HL2 : Hid (4 + 1 + (encU rem2).length = (encU u).length) := Lib.hid (by
          have h := HL.out
          rw [encU_ge hr, hr2, List.length_cons] at h
          omega)
        clear hzs hac hzt hzl hrr hzl2 hr2 ha2
        go_wp2
        go_roundg (gk - 1)
        case rel => exact ⟨5, acc2, rem2, rfl, by go_num, by omega, by have := HG.out; omega, hac2, hacc2, .inr hrp, hrem2, HE2, HL2, rfl⟩
        case measure => have := HG.out; omega
    · have hac : acc + rem * 34359738368 = u := by simpa using hsumk
      have hacc : acc < 34359738368 := by simpa using hacck
      have hrem : rem < 2097152 := by simpa using hremk
      clear hsumk hacck hremk
      have hrk : 0 < rem := by omega
      by_cases hr : rem < 128
      · have hzt : z.toNat = rem := by rw [HZ.out hr]; simp; omega
        have hzl : z.toNat % 128 = rem := by rw [hzt]; omega
        have hsum : acc + rem * 34359738368 = u := by have := hac; omega
        have f1 : bits .and .u8 (z.toNat : Int) 127 = (rem : Int) := by rw [show (127 : Int) = ((127 : Nat) : Int) from rfl, u8_and_nat _ _ (by omega) (by decide), and_127 _ (by omega), hzl]
        obtain ⟨zs, hzs⟩ : ∃ zs, rem * 34359738368 = zs := ⟨_, rfl⟩
        have f2 : IntKind.u64.wrap (rem : Int) = (rem : Int) := by rw [IntKind.wrap_u64]; omega
        have f2' : (rem : Int) % 18446744073709551616 = (rem : Int) := by omega
        have f3 : IntKind.u64.wrap ((rem : Int) * 34359738368) = (zs : Int) := by rw [IntKind.wrap_u64]; omega
        have f3' : (rem : Int) * 34359738368 % 18446744073709551616 = (zs : Int) := by omega
        have f4 : bits .or .u64 (acc : Int) (zs : Int) = (u : Int) := by rw [← hzs, step_u (M := 34359738368) (by omega) hacc (by omega) (by omega), hsum]
        have f5 : (z.toNat : Int) < 128 := by omega
        have f0 : ((z.toNat : Int) == 0) = false := by rw [beq_eq_false_iff_ne]; omega
        have HL2 : Hid ((encU u).length = 5 + 1) := Lib.hid (by rw [← HL.out, encU_lt hr]; rfl)
        clear hzs hsum hac hzt hzl
        obtain ⟨h, p, g1, g2, g3, g4, g5⟩ := unz u hub
        rw [HU.out] at g5
        rcases g5 with ⟨rfl, g5⟩ | ⟨rfl, g5⟩
        · go_wp2
          refine bodyPost_ret (v := .tuple #[.int .i64 i, .int .i64 ((at_ + (5 + 1) : Nat) : Int),   .int .i64 0]) ?_ rfl ⟨by first | (rw [HL2.out]; done) | (rw [HL2.out]; simp), rfl⟩
          simp [results, Try.results32, go_sem, ↓IntWalk.iteOmega, g5]
          all_goals omega
        · go_wp2
          refine bodyPost_ret (v := .tuple #[.int .i64 i, .int .i64 ((at_ + (5 + 1) : Nat) : Int),   .int .i64 0]) ?_ rfl ⟨by first | (rw [HL2.out]; done) | (rw [HL2.out]; simp), rfl⟩
          simp [results, Try.results32, go_sem, ↓IntWalk.iteOmega, g5]
          all_goals omega
      · have hzt : z.toNat = rem % 128 + 128 := by rw [HZ2.out hr]; simp; omega
        have hzl : z.toNat % 128 = rem % 128 := by rw [hzt]; omega
        obtain ⟨zl, hzl2⟩ : ∃ zl, rem % 128 = zl := ⟨_, rfl⟩
        obtain ⟨rem2, hr2⟩ : ∃ rem2, rem / 128 = rem2 := ⟨_, rfl⟩
        have hrr : rem = rem2 * 128 + zl := by omega
        have f1 : bits .and .u8 (z.toNat : Int) 127 = (zl : Int) := by rw [show (127 : Int) = ((127 : Nat) : Int) from rfl, u8_and_nat _ _ (by omega) (by decide), and_127 _ (by omega), hzl, hzl2]
        have hzlb : zl < 128 := by omega
        obtain ⟨zs, hzs⟩ : ∃ zs, zl * 34359738368 = zs := ⟨_, rfl⟩
        obtain ⟨acc2, ha2⟩ : ∃ acc2, acc + zs = acc2 := ⟨_, rfl⟩
        have f2 : IntKind.u64.wrap (zl : Int) = (zl : Int) := by rw [IntKind.wrap_u64]; omega
        have f2' : (zl : Int) % 18446744073709551616 = (zl : Int) := by omega
        have f3 : IntKind.u64.wrap ((zl : Int) * 34359738368) = (zs : Int) := by rw [IntKind.wrap_u64]; omega
        have f3' : (zl : Int) * 34359738368 % 18446744073709551616 = (zs : Int) := by omega
        have f4 : bits .or .u64 (acc : Int) (zs : Int) = (acc2 : Int) := by rw [← hzs, step_u (M := 34359738368) (by omega) hacc (by omega) (by omega), hzs, ha2]
        have f5 : ¬ ((z.toNat : Int) < 128) := by omega
        have f0 : ((z.toNat : Int) == 0) = false := by rw [beq_eq_false_iff_ne]; omega
        have hac2 : acc2 + rem2 * 4398046511104 = u := by omega
        have hacc2 : acc2 < 4398046511104 := by omega
        have hrem2 : rem2 < 16384 := by omega
        have hrp : 0 < rem2 := by omega
        have HE2 : Hid (bs.drop (at_ + (5 + 1)) = encU rem2 ++ rest) := Lib.hid (by
          have h := HE.out
          rw [encU_ge hr, hr2] at h
          exact drop_tail h)
        have HL2 : Hid (5 + 1 + (encU rem2).length = (encU u).length) := Lib.hid (by
          have h := HL.out
          rw [encU_ge hr, hr2, List.length_cons] at h
          omega)
        clear hzs hac hzt hzl hrr hzl2 hr2 ha2
        go_wp2
        go_roundg (gk - 1)
        case rel => exact ⟨6, acc2, rem2, rfl, by go_num, by omega, by have := HG.out; omega, hac2, hacc2, .inr hrp, hrem2, HE2, HL2, rfl⟩
        case measure => have := HG.out; omega
    · have hac : acc + rem * 4398046511104 = u := by simpa using hsumk
      have hacc : acc < 4398046511104 := by simpa using hacck
      have hrem : rem < 16384 := by simpa using hremk
      clear hsumk hacck hremk
      have hrk : 0 < rem := by omega
      by_cases hr : rem < 128
      · have hzt : z.toNat = rem := by rw [HZ.out hr]; simp; omega
        have hzl : z.toNat % 128 = rem := by rw [hzt]; omega
        have hsum : acc + rem * 4398046511104 = u := by have := hac; omega
        have f1 : bits .and .u8 (z.toNat : Int) 127 = (rem : Int) := by rw [show (127 : Int) = ((127 : Nat) : Int) from rfl, u8_and_nat _ _ (by omega) (by decide), and_127 _ (by omega), hzl]
        obtain ⟨zs, hzs⟩ : ∃ zs, rem * 4398046511104 = zs := ⟨_, rfl⟩
        have f2 : IntKind.u64.wrap (rem : Int) = (rem : Int) := by rw [IntKind.wrap_u64]; omega
        have f2' : (rem : Int) % 18446744073709551616 = (rem : Int) := by omega
        have f3 : IntKind.u64.wrap ((rem : Int) * 4398046511104) = (zs : Int) := by rw [IntKind.wrap_u64]; omega
        have f3' : (rem : Int) * 4398046511104 % 18446744073709551616 = (zs : Int) := by omega
        have f4 : bits .or .u64 (acc : Int) (zs : Int) = (u : Int) := by rw [← hzs, step_u (M := 4398046511104) (by omega) hacc (by omega) (by omega), hsum]
        have f5 : (z.toNat : Int) < 128 := by omega
        have f0 : ((z.toNat : Int) == 0) = false := by rw [beq_eq_false_iff_ne]; omega
        have HL2 : Hid ((encU u).length = 6 + 1) := Lib.hid (by rw [← HL.out, encU_lt hr]; rfl)
        clear hzs hsum hac hzt hzl
        obtain ⟨h, p, g1, g2, g3, g4, g5⟩ := unz u hub
        rw [HU.out] at g5
        rcases g5 with ⟨rfl, g5⟩ | ⟨rfl, g5⟩
        · go_wp2
          refine bodyPost_ret (v := .tuple #[.int .i64 i, .int .i64 ((at_ + (6 + 1) : Nat) : Int),   .int .i64 0]) ?_ rfl ⟨by first | (rw [HL2.out]; done) | (rw [HL2.out]; simp), rfl⟩
          simp [results, Try.results32, go_sem, ↓IntWalk.iteOmega, g5]
          all_goals omega
        · go_wp2
          refine bodyPost_ret (v := .tuple #[.int .i64 i, .int .i64 ((at_ + (6 + 1) : Nat) : Int),   .int .i64 0]) ?_ rfl ⟨by first | (rw [HL2.out]; done) | (rw [HL2.out]; simp), rfl⟩
          simp [results, Try.results32, go_sem, ↓IntWalk.iteOmega, g5]
          all_goals omega
      · have hzt : z.toNat = rem % 128 + 128 := by rw [HZ2.out hr]; simp; omega
        have hzl : z.toNat % 128 = rem % 128 := by rw [hzt]; omega
        obtain ⟨zl, hzl2⟩ : ∃ zl, rem % 128 = zl := ⟨_, rfl⟩
        obtain ⟨rem2, hr2⟩ : ∃ rem2, rem / 128 = rem2 := ⟨_, rfl⟩
        have hrr : rem = rem2 * 128 + zl := by omega
        have f1 : bits .and .u8 (z.toNat : Int) 127 = (zl : Int) := by rw [show (127 : Int) = ((127 : Nat) : Int) from rfl, u8_and_nat _ _ (by omega) (by decide), and_127 _ (by omega), hzl, hzl2]
        have hzlb : zl < 128 := by omega
        obtain ⟨zs, hzs⟩ : ∃ zs, zl * 4398046511104 = zs := ⟨_, rfl⟩
        obtain ⟨acc2, ha2⟩ : ∃ acc2, acc + zs = acc2 := ⟨_, rfl⟩
        have f2 : IntKind.u64.wrap (zl : Int) = (zl : Int) := by rw [IntKind.wrap_u64]; omega
        have f2' : (zl : Int) % 18446744073709551616 = (zl : Int) := by omega
        have f3 : IntKind.u64.wrap ((zl : Int) * 4398046511104) = (zs : Int) := by rw [IntKind.wrap_u64]; omega
        have f3' : (zl : Int) * 4398046511104 % 18446744073709551616 = (zs : Int) := by omega
        have f4 : bits .or .u64 (acc : Int) (zs : Int) = (acc2 : Int) := by rw [← hzs, step_u (M := 4398046511104) (by omega) hacc (by omega) (by omega), hzs, ha2]
        have f5 : ¬ ((z.toNat : Int) < 128) := by omega
        have f0 : ((z.toNat : Int) == 0) = false := by rw [beq_eq_false_iff_ne]; omega
        have hac2 : acc2 + rem2 * 562949953421312 = u := by omega
        have hacc2 : acc2 < 562949953421312 := by omega
        have hrem2 : rem2 < 128 := by omega
        have hrp : 0 < rem2 := by omega
        have HE2 : Hid (bs.drop (at_ + (6 + 1)) = encU rem2 ++ rest) := Lib.hid (by
          have h := HE.out
          rw [encU_ge hr, hr2] at h
          exact drop_tail h)
        have HL2 : Hid (6 + 1 + (encU rem2).length = (encU u).length) := Lib.hid (by
          have h := HL.out
          rw [encU_ge hr, hr2, List.length_cons] at h
          omega)
        clear hzs hac hzt hzl hrr hzl2 hr2 ha2
        go_wp2
        go_roundg (gk - 1)
        case rel => exact ⟨7, acc2, rem2, rfl, by go_num, by omega, by have := HG.out; omega, hac2, hacc2, .inr hrp, hrem2, HE2, HL2, rfl⟩
        case measure => have := HG.out; omega
    · have hac : acc + rem * 562949953421312 = u := by simpa using hsumk
      have hacc : acc < 562949953421312 := by simpa using hacck
      have hrem : rem < 128 := by simpa using hremk
      clear hsumk hacck hremk
      have hrk : 0 < rem := by omega
      have hr : rem < 128 := by omega
      · have hzt : z.toNat = rem := by rw [HZ.out hr]; simp; omega
        have hzl : z.toNat % 128 = rem := by rw [hzt]; omega
        have hsum : acc + rem * 562949953421312 = u := by have := hac; omega
        have f1 : bits .and .u8 (z.toNat : Int) 127 = (rem : Int) := by rw [show (127 : Int) = ((127 : Nat) : Int) from rfl, u8_and_nat _ _ (by omega) (by decide), and_127 _ (by omega), hzl]
        obtain ⟨zs, hzs⟩ : ∃ zs, rem * 562949953421312 = zs := ⟨_, rfl⟩
        have f2 : IntKind.u64.wrap (rem : Int) = (rem : Int) := by rw [IntKind.wrap_u64]; omega
        have f2' : (rem : Int) % 18446744073709551616 = (rem : Int) := by omega
        have f3 : IntKind.u64.wrap ((rem : Int) * 562949953421312) = (zs : Int) := by rw [IntKind.wrap_u64]; omega
        have f3' : (rem : Int) * 562949953421312 % 18446744073709551616 = (zs : Int) := by omega
        have f4 : bits .or .u64 (acc : Int) (zs : Int) = (u : Int) := by rw [← hzs, step_u (M := 562949953421312) (by omega) hacc (by omega) (by omega), hsum]
        have f5 : (z.toNat : Int) < 128 := by omega
        have f0 : ((z.toNat : Int) == 0) = false := by rw [beq_eq_false_iff_ne]; omega
        have HL2 : Hid ((encU u).length = 7 + 1) := Lib.hid (by rw [← HL.out, encU_lt hr]; rfl)
        clear hzs hsum hac hzt hzl
        obtain ⟨h, p, g1, g2, g3, g4, g5⟩ := unz u hub
        rw [HU.out] at g5
        rcases g5 with ⟨rfl, g5⟩ | ⟨rfl, g5⟩
        · go_wp2
          refine bodyPost_ret (v := .tuple #[.int .i64 i, .int .i64 ((at_ + (7 + 1) : Nat) : Int),   .int .i64 0]) ?_ rfl ⟨by first | (rw [HL2.out]; done) | (rw [HL2.out]; simp), rfl⟩
          simp [results, Try.results32, go_sem, ↓IntWalk.iteOmega, g5]
          all_goals omega
        · go_wp2
          refine bodyPost_ret (v := .tuple #[.int .i64 i, .int .i64 ((at_ + (7 + 1) : Nat) : Int),   .int .i64 0]) ?_ rfl ⟨by first | (rw [HL2.out]; done) | (rw [HL2.out]; simp), rfl⟩
          simp [results, Try.results32, go_sem, ↓IntWalk.iteOmega, g5]
          all_goals omega

end Go.Proofs.Ytahmkinppighkaa
