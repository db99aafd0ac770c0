/- Frames of bytes. -/
import Derived.Test.YtahmkinppighkaaTpG
import Derived.Test.YtahmkinppighkaaTpF
import Derived.Laws.CopyOwn
import Derived.Deep.RegionHeld3
set_option linter.unusedSimpArgs false
set_option linter.unusedVariables false
namespace Go.Proofs.Ytahmkinppighkaa
open Go.RowKit


/-- a block of bytes -/
def Blk (w : World) (g : Nat) (xs : List UInt8) : Prop := w.heap[g]? = some (.cells (bcl xs).toArray 5 (0, 0))
theorem Blk.rd {w : World} {g : Nat} {xs : List UInt8} (h : Blk w g xs) {o n : Nat} (hn : o + n ≤ xs.length) : Rd w 1 (some ⟨g, o, none⟩) n (bcl ((xs.drop o).take n)) := by
  refine ⟨by rw [bcl_length, List.length_take, List.length_drop]; omega, fun _ => ⟨g, o, rfl, (Array.getElem?_eq_some_iff.1 h).1, fun j u hu => ?_⟩⟩
  have hj : j < n := by
    have := (List.getElem?_eq_some_iff.1 hu).1
    rw [bcl_length, List.length_take] at this
    omega
  have e : (bcl xs)[o + j]? = some u := by
    rw [bcl, List.getElem?_map, List.getElem?_take, if_pos hj, List.getElem?_drop] at hu
    rw [bcl, List.getElem?_map]
    exact hu
  simp only [World.cell?]
  rw [h]
  simpa using e
theorem Blk.cell {w : World} {g : Nat} {xs : List UInt8} (h : Blk w g xs) {i : Nat} {z : UInt8} (hz : xs[i]? = some z) : w.cell? ⟨g, i, none⟩ = some (.int .u8 z.toNat) := by
  have e : (bcl xs)[i]? = some (.int .u8 z.toNat) := by rw [bcl, List.getElem?_map, hz]; rfl
  simp only [World.cell?]
  rw [h]
  simpa using e
theorem Blk.fz {w : World} {g : Nat} {xs : List UInt8} (h : Blk w g xs) (i : Nat) : w.frozen? ⟨g, i, none⟩ = false := by simp only [World.frozen?]; rw [h]; simp
theorem Blk.set {w : World} {g : Nat} {xs : List UInt8} (h : Blk w g xs) (i : Nat) (z : UInt8) : ∃ w', w.setCell ⟨g, i, none⟩ (.int .u8 z.toNat) = w' ∧ Blk w' g (xs.set i z) ∧ w.grownBy w' (some g) := by
  refine ⟨_, rfl, ?_, ?_⟩
  · rw [setCell_eq_setRow w g i _ 5 (0, 0) _ h]
    have := setRow_heap w g _ ((bcl xs).toArray.setIfInBounds i (.int .u8 z.toNat)) 5 (0, 0) h
    rw [Blk, this]
    congr 2
    apply Array.ext'
    simp [bcl]
  · rw [setCell_eq_setRow w g i _ 5 (0, 0) _ h]
    exact ⟨rfl, rfl, rfl, by simp [World.setRow], fun k _ hk => setRow_other w g k _ (fun e => hk (by rw [e]))⟩
theorem Blk.ext {w w' : World} {g : Nat} {xs : List UInt8} (h : Blk w g xs) (e : Ext w w') : Blk w' g xs := by
  rw [Blk, e.block g (Array.getElem?_eq_some_iff.1 h).1]
  exact h
theorem splice_set {α : Type} (xs : List α) (o : Nat) (l : List α) (z : α) (h : o + l.length < xs.length) : (splice xs o l).set (o + l.length) z = splice xs o (l ++ [z]) := by
  unfold splice
  have h1 : (xs.take o).length = o := by simp; omega
  rw [List.set_append_right _ _ (by omega), h1, show o + l.length - o = l.length by omega, List.set_append_right _ _ (Nat.le_refl _), Nat.sub_self, List.drop_eq_getElem_cons h, List.set_cons_zero, List.length_append, List.append_assoc]
  rfl
theorem splice_nil {α : Type} (xs : List α) (o : Nat) : splice xs o [] = xs := by unfold splice; simp
set_option maxRecDepth 100000 in
set_option maxHeartbeats 8000000 in
theorem fput_any (g o n c : Nat) (u : Nat) (xs : List UInt8) (w : World) (hB : Blk w g xs) (ho : o + n ≤ xs.length) (h4 : 4 ≤ n) (hu : u < 4294967296) :
    Calls Try.prog 26 #[.slice (some ⟨g, o, none⟩) n c, .int .u32 (u : Int)] w fun e w' => e = .returned (.tuple #[]) ∧ Blk w' g (splice xs o (be 4 u)) ∧ w.grownBy w' (some g) := by
  have HB := Lib.hid hB
  have hgl : g < w.heap.size := (Array.getElem?_eq_some_iff.1 hB).1
  have HL : Hid (o + 4 ≤ xs.length) := Lib.hid (by omega)
  clear hB ho
  go_enter Try.func26, Try.ntmps26
  go_wp2
  go_loopg [5] 4 (fun g2 ix wr => ∃ k : Nat, ix = .int .i64 k ∧ k ≤ 4 ∧ 4 - k ≤ g2 ∧ Hid (Blk wr g (splice xs o ((be 4 u).take k))) ∧ Hid (w.grownBy wr (some g)))
  case atStart => exact ⟨0, rfl, by omega, by omega, Lib.hid (by simpa [splice_nil] using HB.out), Lib.hid (World.grownBy.refl w _)⟩
  case round =>
    obtain ⟨k, rfl, hk, hg, HK, HG1⟩ := hrel
    have HG := Lib.hid hg
    clear hg
    have hgs : g < wr.heap.size := Nat.lt_of_lt_of_le hgl HG1.out.size
    rcases Nat.lt_or_ge k 4 with hk4 | hk4
    · have hs := be_snoc (n := 4) (u := u) hk4
      obtain ⟨z, hz⟩ : ∃ z, UInt8.ofNat (u / 256 ^ (4 - 1 - k)) = z := ⟨_, rfl⟩
      rw [hz] at hs
      have hlk : ((be 4 u).take k).length = k := by rw [List.length_take, be_length]; omega
      obtain ⟨w2, hw2, hB2, hg2⟩ := HK.out.set (o + k) z
      have hss : (splice xs o ((be 4 u).take k)).set (o + k) z = splice xs o ((be 4 u).take (k + 1)) := by
        have h := splice_set xs o ((be 4 u).take k) z (by rw [hlk]; have := HL.out; omega)
        rw [hlk] at h
        rw [h, hs]
      rw [hss] at hB2
      have HB2 := Lib.hid hB2
      have HG2 := Lib.hid (HG1.out.trans hg2)
      have hlen : (splice xs o ((be 4 u).take k)).length = xs.length := length_splice xs o _ (by rw [hlk]; have := HL.out; omega)
      obtain ⟨y, hy⟩ : ∃ y, (splice xs o ((be 4 u).take k))[o + k]? = some y := ⟨_, List.getElem?_eq_getElem (by rw [hlen]; have := HL.out; omega)⟩
      have c0 := HK.out.cell hy
      have f0 := HK.out.fz (o + k)
      have HZ := Lib.hid hz
      clear hs hz hlk hB2 hg2 hss hlen hy HK HG1
      have hkz : (k : Int) < (n : Int) := by omega
      have hks : k = 0 ∨ k = 1 ∨ k = 2 ∨ k = 3 := by omega
      rcases hks with rfl | rfl | rfl | rfl
      · have e1 : IntKind.u8.wrap ((u : Int) / 16777216) = (z.toNat : Int) := by
          rw [← HZ.out, IntKind.wrap_u8]
          first | (simp; done) | (simp; omega)
        have e1' : ((u : Int) / 16777216) % 256 = (z.toNat : Int) := by
          rw [← HZ.out]
          first | (simp; done) | (simp; omega)
        simp only [Nat.add_zero] at c0 f0 hw2
        go_wp2
        go_roundg (gk - 1)
        case rel => exact ⟨1, by go_num, by omega, by have := HG.out; omega, HB2, HG2⟩
        case measure => have := HG.out; omega
      · have e1 : IntKind.u8.wrap ((u : Int) / 65536) = (z.toNat : Int) := by
          rw [← HZ.out, IntKind.wrap_u8]
          first | (simp; done) | (simp; omega)
        have e1' : ((u : Int) / 65536) % 256 = (z.toNat : Int) := by
          rw [← HZ.out]
          first | (simp; done) | (simp; omega)
        skip
        go_wp2
        go_roundg (gk - 1)
        case rel => exact ⟨2, by go_num, by omega, by have := HG.out; omega, HB2, HG2⟩
        case measure => have := HG.out; omega
      · have e1 : IntKind.u8.wrap ((u : Int) / 256) = (z.toNat : Int) := by
          rw [← HZ.out, IntKind.wrap_u8]
          first | (simp; done) | (simp; omega)
        have e1' : ((u : Int) / 256) % 256 = (z.toNat : Int) := by
          rw [← HZ.out]
          first | (simp; done) | (simp; omega)
        skip
        go_wp2
        go_roundg (gk - 1)
        case rel => exact ⟨3, by go_num, by omega, by have := HG.out; omega, HB2, HG2⟩
        case measure => have := HG.out; omega
      · have e1 : IntKind.u8.wrap (u : Int) = (z.toNat : Int) := by
          rw [← HZ.out, IntKind.wrap_u8]
          first | (simp; done) | (simp; omega)
        have e1' : (u : Int) % 256 = (z.toNat : Int) := by
          rw [← HZ.out]
          first | (simp; done) | (simp; omega)
        skip
        go_wp2
        go_roundg (gk - 1)
        case rel => exact ⟨4, by go_num, by omega, by have := HG.out; omega, HB2, HG2⟩
        case measure => have := HG.out; omega
    · obtain rfl : k = 4 := by omega
      have HBF : Hid (Blk wr g (splice xs o (be 4 u))) := Lib.hid (by
        have h := HK.out
        rw [List.take_of_length_le (Nat.le_of_eq (be_length 4 u))] at h
        exact h)
      clear HK
      go_wp2
      refine bodyPost_end (v := .tuple #[]) ?_ rfl ⟨rfl, HBF.out, HG1.out⟩
      simp [results, Try.results26, go_sem]


theorem or_add {i a b : Nat} (h : b < 2 ^ i) : 2 ^ i * a ||| b = 2 ^ i * a + b := (Nat.two_pow_add_eq_or_of_lt h a).symm
set_option maxRecDepth 100000 in
set_option maxHeartbeats 8000000 in
theorem fget_any (A : Option Addr) (n c : Nat) (u : Nat) (bs : List UInt8) (w : World) (hn : bs.length = n) (hR : Rd w 1 A n (bcl bs)) (h4 : 4 ≤ n) (hu : u < 4294967296) (hb : bs.take 4 = be 4 u) :
    Calls Try.prog 31 #[.slice A n c] w fun e w' => e = .returned (.int .u32 (u : Int)) ∧ Ext w w' := by
  obtain ⟨g, oo, rfl, hg, hcell⟩ := hR.2 (by omega)
  have HC : ∀ j z, bs[j]? = some z → w.cell? ⟨g, oo + j, none⟩ = some (.int .u8 z.toNat) := fun j z h => hcell j _ (by rw [bcl, List.getElem?_map, h]; rfl)
  have HB : ∀ j, j < 4 → bs[j]? = some (UInt8.ofNat (u / 256 ^ (4 - 1 - j))) := fun j hj => by
    have h := be_at 4 u j hj
    rw [← hb, List.getElem?_take, if_pos hj] at h
    exact h
  have c0 := HC 0 _ (HB 0 (by decide))
  have c1 := HC 1 _ (HB 1 (by decide))
  have c2 := HC 2 _ (HB 2 (by decide))
  have c3 := HC 3 _ (HB 3 (by decide))
  obtain ⟨z0, hz0⟩ : ∃ z, UInt8.ofNat (u / 256 ^ (4 - 1 - 0)) = z := ⟨_, rfl⟩
  obtain ⟨z1, hz1⟩ : ∃ z, UInt8.ofNat (u / 256 ^ (4 - 1 - 1)) = z := ⟨_, rfl⟩
  obtain ⟨z2, hz2⟩ : ∃ z, UInt8.ofNat (u / 256 ^ (4 - 1 - 2)) = z := ⟨_, rfl⟩
  obtain ⟨z3, hz3⟩ : ∃ z, UInt8.ofNat (u / 256 ^ (4 - 1 - 3)) = z := ⟨_, rfl⟩
  have b0 : z0.toNat = u / 16777216 := by rw [← hz0]; simp; omega
  have b1 : z1.toNat = u / 65536 % 256 := by rw [← hz1]; simp
  have b2 : z2.toNat = u / 256 % 256 := by rw [← hz2]; simp
  have b3 : z3.toNat = u % 256 := by rw [← hz3]; simp
  rw [hz0, Nat.add_zero] at c0
  rw [hz1] at c1
  rw [hz2] at c2
  rw [hz3] at c3
  obtain ⟨s0, hs0⟩ : ∃ s0, 2 ^ 24 * z0.toNat = s0 := ⟨_, rfl⟩
  obtain ⟨s1, hs1⟩ : ∃ s1, 2 ^ 16 * z1.toNat = s1 := ⟨_, rfl⟩
  obtain ⟨s2, hs2⟩ : ∃ s2, 2 ^ 8 * z2.toNat = s2 := ⟨_, rfl⟩
  have e0 : IntKind.u32.wrap ((z0.toNat : Int) * 16777216) = (s0 : Int) := by rw [IntKind.wrap_u32']; omega
  have e1 : IntKind.u32.wrap ((z1.toNat : Int) * 65536) = (s1 : Int) := by rw [IntKind.wrap_u32']; omega
  have e2 : IntKind.u32.wrap ((z2.toNat : Int) * 256) = (s2 : Int) := by rw [IntKind.wrap_u32']; omega
  have w0 : IntKind.u32.wrap (z0.toNat : Int) = (z0.toNat : Int) := by rw [IntKind.wrap_u32']; omega
  have w1 : IntKind.u32.wrap (z1.toNat : Int) = (z1.toNat : Int) := by rw [IntKind.wrap_u32']; omega
  have w2 : IntKind.u32.wrap (z2.toNat : Int) = (z2.toNat : Int) := by rw [IntKind.wrap_u32']; omega
  have w3 : IntKind.u32.wrap (z3.toNat : Int) = (z3.toNat : Int) := by rw [IntKind.wrap_u32']; omega
  have o1 : bits .or .u32 (s0 : Int) (s1 : Int) = ((s0 + s1 : Nat) : Int) := by rw [u32_or_nat _ _ (by omega) (by omega), ← hs0, or_add (by omega)]
  have o2 : bits .or .u32 ((s0 + s1 : Nat) : Int) (s2 : Int) = ((s0 + s1 + s2 : Nat) : Int) := by
    rw [u32_or_nat _ _ (by omega) (by omega), show s0 + s1 = 2 ^ 16 * (2 ^ 8 * z0.toNat + z1.toNat) by omega, or_add (by omega)]
  have o3 : bits .or .u32 ((s0 + s1 + s2 : Nat) : Int) (z3.toNat : Int) = (u : Int) := by
    rw [u32_or_nat _ _ (by omega) (by omega), show s0 + s1 + s2 = 2 ^ 8 * (2 ^ 16 * z0.toNat + 2 ^ 8 * z1.toNat + z2.toNat) by omega, or_add (by omega)]
    congr 1
    omega
  obtain ⟨t1, ht1⟩ : ∃ t1, s0 + s1 = t1 := ⟨_, rfl⟩
  obtain ⟨t2, ht2⟩ : ∃ t2, t1 + s2 = t2 := ⟨_, rfl⟩
  rw [ht1] at o1 o2 o3
  rw [ht2] at o2 o3
  have l0 : (0 : Int) < (n : Int) := by omega
  have l1 : (1 : Int) < (n : Int) := by omega
  have l2 : (2 : Int) < (n : Int) := by omega
  have l3 : (3 : Int) < (n : Int) := by omega
  clear HC HB hcell hb hR hz0 hz1 hz2 hz3 hs0 hs1 hs2 ht1 ht2 b0 b1 b2 b3 hn
  go_enter Try.func31, Try.ntmps31
  go_wp2_with fail
  refine wp_region_ext (by kernel_rfl) (by kernel_rfl) ?_
  repeat (first | go_big_quiet_step (fail) | quiet_step (fail))
  refine wpQuiet_nil ?_
  intro _ hw'
  obtain ⟨xq, hw''⟩ := hw'
  subst hw''
  go_wp2
  go_ret
  exact ⟨rfl, by repeat (first | exact Ext.refl' _ | assumption | apply Ext.ex' | apply Ext.al | apply Ext.drN | apply Ext.dr)⟩

end Go.Proofs.Ytahmkinppighkaa
