/- Checksums of bytes. -/
import Derived.Test.YtahmkinppighkaaTpE
set_option linter.unusedSimpArgs false
set_option linter.unusedVariables false
namespace Go.Proofs.Ytahmkinppighkaa
open Go.RowKit


def crc1 (r : Nat) : Nat := if r % 2 = 1 then (r / 2) ^^^ 2197175160 else r / 2
def crcN : Nat → Nat → Nat
  | 0, r => r
  | n + 1, r => crcN n (crc1 r)
def crcF (r : Nat) (l : List UInt8) : Nat := l.foldl (fun r b => crcN 8 (r ^^^ b.toNat)) r
theorem crc1_lt {r : Nat} (h : r < 4294967296) : crc1 r < 4294967296 := by
  unfold crc1
  split
  · exact Nat.xor_lt_two_pow (n := 32) (by omega) (by omega)
  · omega
theorem crcN_lt : ∀ (n : Nat) {r : Nat}, r < 4294967296 → crcN n r < 4294967296
  | 0, _, h => h
  | n + 1, _, h => crcN_lt n (crc1_lt h)
theorem crcF_lt : ∀ (l : List UInt8) {r : Nat}, r < 4294967296 → crcF r l < 4294967296
  | [], _, h => h
  | b :: l, r, h => crcF_lt l (crcN_lt 8 (Nat.xor_lt_two_pow (n := 32) h (by have := b.toNat_lt; omega)))
theorem crcF_cons (r : Nat) (b : UInt8) (l : List UInt8) : crcF r (b :: l) = crcF (crcN 8 (r ^^^ b.toNat)) l := rfl
set_option maxRecDepth 100000 in
set_option maxHeartbeats 8000000 in
theorem update_any (A : Option Addr) (n c : Nat) (r : Nat) (l : List UInt8) (w : World) (hn : l.length = n) (hnb : n ≤ 1048576) (hr : r < 4294967296) (hR : Rd w 1 A n (bcl l)) :
    Calls Try.prog 55 #[.int .u32 (r : Int), .slice A n c] w fun e w' => e = .returned (.int .u32 (crcF r l : Nat)) ∧ w' = w := by
  have HC : Hid (crcF r l = crcF r (l.drop 0)) := Lib.hid rfl
  have HN := Lib.hid hn
  obtain ⟨z, hz⟩ : ∃ z, crcF r l = z := ⟨_, rfl⟩
  rw [hz] at HC ⊢
  clear hn hz
  go_enter Try.func55, Try.ntmps55
  go_wp2
  go_loopg [0, 9] n (fun g u0 ix wr => ∃ k q : Nat, u0 = .int .u32 (q : Int) ∧ ix = .int .i64 k ∧ k ≤ n ∧ n - k ≤ g ∧ q < 4294967296 ∧ Hid (z = crcF q (l.drop k)) ∧ wr = w)
  case atStart => exact ⟨0, r, rfl, rfl, by omega, by omega, hr, HC, rfl⟩
  case round =>
    obtain ⟨k, q, rfl, rfl, hk, hg, hq, HZ, rfl⟩ := hrel
    have HG := Lib.hid hg
    clear hg HC
    by_cases hlt : k < n
    · have hkz : (k : Int) < (n : Int) := by omega
      obtain ⟨b, bb, oo, hb0, rfl, hbs, c0⟩ := hR.by8 HN.out hlt
      have HZ2 : Hid (z = crcF (crcN 8 (q ^^^ b.toNat)) (l.drop (k + 1))) := Lib.hid (by
        obtain ⟨h1, h2⟩ := List.getElem?_eq_some_iff.1 hb0
        rw [HZ.out, List.drop_eq_getElem_cons h1, h2, crcF_cons])
      have hb256 := b.toNat_lt
      obtain ⟨q2, hq2⟩ : ∃ q2, q ^^^ b.toNat = q2 := ⟨_, rfl⟩
      have hq2l : q2 < 4294967296 := by rw [← hq2]; exact Nat.xor_lt_two_pow (n := 32) hq (by omega)
      have e1 : IntKind.u32.wrap (b.toNat : Int) = (b.toNat : Int) := by rw [IntKind.wrap_u32']; omega
      have e1' : (b.toNat : Int) % 4294967296 = (b.toNat : Int) := by omega
      have e2 : bits .xor .u32 (q : Int) (b.toNat : Int) = (q2 : Int) := by rw [u32_xor_nat _ _ hq (by omega), hq2]
      rw [hq2] at HZ2
      clear hb0 hq2 HZ
      obtain ⟨gO, rfl⟩ : ∃ g, g = gk := ⟨gk, rfl⟩
      have HKL := Lib.hid hlt
      go_wp2
      clear e1 e1' e2
      go_loopg [0, 17] 8 (fun g2 u0 iy wr2 => ∃ j q3 : Nat, u0 = .int .u32 (q3 : Int) ∧ iy = .int .i64 j ∧ j ≤ 8 ∧ 8 - j ≤ g2 ∧ q3 < 4294967296 ∧ Hid (z = crcF (crcN (8 - j) q3) (l.drop (k + 1))) ∧ wr2 = wr)
      case atStart => exact ⟨0, q2, rfl, rfl, by omega, by omega, hq2l, HZ2, rfl⟩
      case round =>
        obtain ⟨j, q3, rfl, rfl, hj, hg2, hq3, HJ, rfl⟩ := hrel
        have HG2 := Lib.hid hg2
        clear hg2
        by_cases hj8 : j < 8
        · have hjz : (j : Int) < 8 := by omega
          have HJ2 : Hid (z = crcF (crcN (8 - (j + 1)) (crc1 q3)) (l.drop (k + 1))) := Lib.hid (by
            rw [HJ.out, show 8 - j = (8 - (j + 1)) + 1 by omega]
            rfl)
          have hc1 := crc1_lt hq3
          obtain ⟨q4, hq4⟩ : ∃ q4, q3 / 2 = q4 := ⟨_, rfl⟩
          have hq4l : q4 < 4294967296 := by omega
          have e3 : (q3 : Int) / 2 = (q4 : Int) := by omega
          rcases Nat.mod_two_eq_zero_or_one q3 with h | h
          · have e4 : bits .and .u32 (q3 : Int) 1 = 0 := by
              rw [show (1 : Int) = ((1 : Nat) : Int) from rfl, u32_and_nat _ _ hq3 (by decide), Nat.and_one_is_mod, h]
              rfl
            have HJ3 : Hid (z = crcF (crcN (8 - (j + 1)) q4) (l.drop (k + 1))) := Lib.hid (by
              rw [HJ2.out]
              unfold crc1
              rw [if_neg (by omega), hq4])
            clear HJ HJ2 hq4 h
            go_wp2
            go_roundg (gk - 1)
            case rel => exact ⟨j + 1, q4, rfl, by go_num, by omega, by have := HG2.out; omega, hq4l, HJ3, rfl⟩
            case measure => have := HG2.out; omega
          · have e4 : bits .and .u32 (q3 : Int) 1 = 1 := by
              rw [show (1 : Int) = ((1 : Nat) : Int) from rfl, u32_and_nat _ _ hq3 (by decide), Nat.and_one_is_mod, h]
            obtain ⟨q5, hq5⟩ : ∃ q5, q4 ^^^ 2197175160 = q5 := ⟨_, rfl⟩
            have hq5l : q5 < 4294967296 := by rw [← hq5]; exact Nat.xor_lt_two_pow (n := 32) hq4l (by omega)
            have e5 : bits .xor .u32 (q4 : Int) 2197175160 = (q5 : Int) := by
              rw [show (2197175160 : Int) = ((2197175160 : Nat) : Int) from rfl, u32_xor_nat _ _ hq4l (by decide), hq5]
            have HJ3 : Hid (z = crcF (crcN (8 - (j + 1)) q5) (l.drop (k + 1))) := Lib.hid (by
              rw [HJ2.out]
              unfold crc1
              rw [if_pos h, hq4, hq5])
            clear HJ HJ2 hq4 h hq5
            go_wp2
            go_roundg (gk - 1)
            case rel => exact ⟨j + 1, q5, rfl, by go_num, by omega, by have := HG2.out; omega, hq5l, HJ3, rfl⟩
            case measure => have := HG2.out; omega
        · have hjz : ¬ ((j : Int) < 8) := by omega
          have hj' : j = 8 := by omega
          have HJ3 : Hid (z = crcF q3 (l.drop (k + 1))) := Lib.hid (by rw [HJ.out, hj']; rfl)
          clear HJ hj'
          go_wp2
          go_roundg (gO - 1)
          case rel => exact ⟨k + 1, q3, rfl, by go_num, by omega, by have := HG.out; omega, hq3, HJ3, rfl⟩
          case measure => have := HG.out; omega
    · have hkz : ¬ ((k : Int) < (n : Int)) := by omega
      have HF : Hid (z = q) := Lib.hid (by
        rw [HZ.out, List.drop_eq_nil_of_le (by have := HN.out; omega)]
        rfl)
      clear HZ
      go_wp2
      go_ret
      exact ⟨by rw [HF.out]; rfl, rfl⟩
def sumF (a b : List UInt8) : Nat := 4294967295 ^^^ crcF (crcF 4294967295 a) b
theorem sumF_lt (a b : List UInt8) : sumF a b < 4294967296 := Nat.xor_lt_two_pow (n := 32) (by decide) (crcF_lt b (crcF_lt a (by decide)))
set_option maxRecDepth 100000 in
set_option maxHeartbeats 8000000 in
theorem sum_any (A B : Option Addr) (n m c d : Nat) (a b : List UInt8) (w : World) (hn : a.length = n) (hm : b.length = m) (hnb : n ≤ 1048576) (hmb : m ≤ 1048576) (hA : Rd w 1 A n (bcl a)) (hB : Rd w 1 B m (bcl b)) :
    Calls Try.prog 27 #[.slice A n c, .slice B m d] w fun e w' => e = .returned (.int .u32 (sumF a b : Nat)) ∧ w' = w := by
  have H1 := Lib.hid (update_any A n c 4294967295 a w hn hnb (by decide) hA)
  have H2 := Lib.hid (update_any B m d (crcF 4294967295 a) b w hm hmb (crcF_lt a (by decide)) hB)
  have hlt := crcF_lt b (crcF_lt a (show 4294967295 < 4294967296 by decide))
  have hs := sumF_lt a b
  have e1 : bits .xor .u32 IntKind.u32.max ((crcF (crcF 4294967295 a) b : Nat) : Int) = (sumF a b : Nat) := by
    rw [show IntKind.u32.max = ((4294967295 : Nat) : Int) from by decide, u32_xor_nat _ _ (by decide) hlt]
    rfl
  generalize crcF 4294967295 a = u at H1 H2 e1 hlt
  generalize crcF u b = v at H2 e1 hlt
  generalize sumF a b = z at e1 hs ⊢
  clear hA hB hn hm
  go_enter Try.func27, Try.ntmps27
  go_wp2_with fail
  refine Calls.mono H1.out ?_
  rintro e w1 ⟨rfl, hw1⟩
  have hw2 := hw1.symm
  subst hw2
  go_wp2_with fail
  refine Calls.mono H2.out ?_
  rintro e w1 ⟨rfl, hw1⟩
  have hw2 := hw1.symm
  subst hw2
  go_wp2
  go_ret
  exact ⟨rfl, rfl⟩

end Go.Proofs.Ytahmkinppighkaa
