/- Frames appended and read. -/
import Derived.Test.YtahmkinppighkaaTpH
set_option linter.unusedSimpArgs false
set_option linter.unusedVariables false
namespace Go.Proofs.Ytahmkinppighkaa
open Go.RowKit


theorem splice_bcl (a : List UInt8) (k : Nat) (b : List UInt8) : splice (bcl a) k (bcl b) = bcl (splice a k b) := by
  unfold splice
  simp [bcl, List.map_take, List.map_drop]
/-- a frame -/
def frm (l : List UInt8) : List UInt8 := be 4 l.length ++ (be 4 (sumF (be 4 l.length) l) ++ l)
theorem frm_len (l : List UInt8) : (frm l).length = 8 + l.length := by simp [frm, be_length]; omega
theorem splice_mid {p q r b : List UInt8} {k : Nat} (hk : p.length = k) (h : b.length = q.length) : splice (p ++ (q ++ r)) k b = p ++ (b ++ r) := by
  subst hk
  unfold splice
  rw [List.take_left' rfl, ← List.append_assoc p q r, List.drop_left' (by rw [List.length_append, h])]
theorem frm_splice (l : List UInt8) (z : UInt8) : splice (splice (splice (List.replicate (8 + l.length) z) 0 (be 4 l.length)) 4 (be 4 (sumF (be 4 l.length) l))) 8 l = frm l := by
  generalize hs : sumF (be 4 l.length) l = s
  have e0 : List.replicate (8 + l.length) z = [] ++ (List.replicate 4 z ++ (List.replicate 4 z ++ List.replicate l.length z)) := by
    rw [List.nil_append, ← List.append_assoc, List.replicate_append_replicate, List.replicate_append_replicate]
  have h1 := be_length 4 l.length
  have h2 := be_length 4 s
  rw [e0, splice_mid (p := ([] : List UInt8)) (k := 0) rfl (by simp [h1]), List.nil_append, splice_mid h1 (by simp [h2])]
  have e1 : be 4 l.length ++ (be 4 s ++ List.replicate l.length z) = (be 4 l.length ++ be 4 s) ++ (List.replicate l.length z ++ []) := by simp
  rw [e1, splice_mid (by simp [h1, h2]) (by simp)]
  unfold frm
  rw [hs]
  simp
theorem own_blk {w : World} {base g N : Nat} {xs : List UInt8} (h : w.ownsRow base 5 1 (.slice (some ⟨g, 0, none⟩) N N) N (bcl xs)) : Blk w g xs := by
  rcases h.2 with ⟨h', _⟩ | ⟨g', cap, cur, h', hb, hg, hnc, hcm, hcs, htake⟩
  · cases h'
  · simp only [Value.slice.injEq] at h'
    obtain ⟨h1, _, rfl⟩ := h'
    simp only [Option.some.injEq, Addr.mk.injEq, and_true] at h1
    obtain rfl := h1
    have e : cur = (bcl xs).toArray := by
      apply Array.ext'
      rw [List.take_of_length_le (by simp; omega)] at htake
      simpa using htake
    rw [Blk, hg, e]
theorem made1 (N : Nat) : (madeCells (Value.int IntKind.u8 0).cells (N * 1)).toList = bcl (List.replicate N 0) := by
  rw [Nat.mul_one, show (Value.int IntKind.u8 0).cells = #[.int .u8 0] from rfl, toList_madeCells_one]
  simp [bcl]
theorem hsz1 : (Try.prog.info? 5).map (·.size) = some 1 := by kernel_rfl
def FrP (n : Nat) (body : List UInt8) (w : World) (e : Ending) (w' : World) : Prop := ∃ g, e = .returned (.tuple #[.slice (some ⟨g, 0, none⟩) (8 + n) (8 + n), .int .i64 0]) ∧ Blk w' g (frm body) ∧ Ext w w'
set_option maxRecDepth 100000 in
set_option maxHeartbeats 8000000 in
theorem fappend_any (A : Option Addr) (n c : Nat) (body : List UInt8) (w : World) (hn : body.length = n) (hn1 : 1 ≤ n) (hnb : n ≤ 1048576) (hR : Rd w 1 A n (bcl body)) :
    Calls Try.prog 9 #[.slice none 0 0, .slice A n c] w fun e w' => FrP n body w e w' := by
  obtain ⟨g0, o0, rfl, hg0, hcell⟩ := hR.2 (by omega)
  obtain ⟨s, hs⟩ : ∃ s, sumF (be 4 n) body = s := ⟨_, rfl⟩
  have hsl : s < 4294967296 := by rw [← hs]; exact sumF_lt _ _
  have HFR : Hid (splice (splice (splice (List.replicate (8 + n) 0) 0 (be 4 n)) 4 (be 4 s)) 8 body = frm body) := Lib.hid (by
    have h := frm_splice body 0
    rw [hn, hs] at h
    exact h)
  have HL3 : Hid ((splice (List.replicate (8 + n) (0 : UInt8)) 0 (be 4 n)).length = 8 + n) := Lib.hid (by rw [length_splice _ _ _ (by rw [be_length, List.length_replicate]; omega), List.length_replicate])
  have HL5 : Hid ((splice (splice (List.replicate (8 + n) (0 : UInt8)) 0 (be 4 n)) 4 (be 4 s)).length = 8 + n) := Lib.hid (by rw [length_splice _ _ _ (by rw [be_length, HL3.out]; omega), HL3.out])
  have HSRC : Hid (∀ W, Ext w W → ∃ ad, (some ⟨g0, o0, none⟩ : Option Addr) = some ad ∧ ∀ j v, (bcl body)[j]? = some v → W.cell? (ad.add j) = some v) := Lib.hid fun W e => ⟨_, rfl, fun j v h => by rw [add_none]; exact e.cell' (hcell j v h)⟩
  have HSUM : Hid (∀ W {g : Nat}, Blk W g (splice (List.replicate (8 + n) 0) 0 (be 4 n)) → Ext w W → Calls Try.prog 27 #[.slice (some ⟨g, 0, none⟩) 4 (8 + n), .slice (some ⟨g0, o0, none⟩) n c] W fun e w' => e = .returned (.int .u32 (s : Int)) ∧ w' = W) := Lib.hid fun W g hB e => by
    have h4 : ((splice (List.replicate (8 + n) (0 : UInt8)) 0 (be 4 n)).drop 0).take 4 = be 4 n := by
      unfold splice
      rw [List.drop_zero, List.take_zero, List.nil_append, List.take_left' (be_length 4 n)]
    have h := sum_any (some ⟨g, 0, none⟩) (some ⟨g0, o0, none⟩) 4 n (8 + n) c (be 4 n) body W (be_length 4 n) hn (by omega) hnb (by rw [← h4]; exact hB.rd (by rw [HL3.out]; omega)) (hR.ext e)
    rw [hs] at h
    exact h
  have HN := Lib.hid hn
  have hw : IntKind.u32.wrap (n : Int) = (n : Int) := by rw [IntKind.wrap_u32']; omega
  have hw' : (n : Int) % 4294967296 = (n : Int) := by omega
  have hnm : ¬ ((1048576 : Int) < (n : Int)) := by omega
  have hnu : n < 4294967296 := by omega
  clear hcell hs hn hR
  obtain ⟨i0, hi0, hz0, hs0, hb0⟩ := elU8.hi
  go_enter Try.func9, Try.ntmps9
  go_wp2_with (first
    | (refine wpList_make_full _ rfl (.tmp 16) (.tmp 16) _ rfl _ 5 i0 _ 1 Try.underlying26 hi0 hz0 hs0 _ _ _ _ (8 + n) rfl rfl (by simp) (by simp) (by rw [hb0]; omega) (by unfold maxLen; omega) (Nat.le_refl _) ?_
       intro w2 ho2 hg2
       rw [made1] at ho2
       have hE2 : Ext w w2 := Below.grown (Ext.refl' w) hg2 (Nat.le_refl _) (fun r hr => by cases hr)
       obtain ⟨g, hgg⟩ : ∃ g, w.heap.size = g := ⟨_, rfl⟩
       rw [hgg] at ho2 ⊢
       have hgw : w.heap.size ≤ g := Nat.le_of_eq hgg
       have HB2 := Lib.hid (own_blk ho2)
       have hgl2 : g < w2.heap.size := (Array.getElem?_eq_some_iff.1 HB2.out).1
       clear ho2 hg2 hgg hi0 hz0 hs0 hb0)
    | (refine wpList_copy_nothing rfl (.tmp 18) (.tmp 19) 26 26 rfl 5 Try.underlying26 hsz1 _ _ _ _ _ _ rfl rfl (Nat.zero_min _) ?_))
  refine (fput_any g 0 (8 + n) (8 + n) n _ w2 HB2.out (by simp) (by omega) hnu).mono ?_
  rintro e w3 ⟨rfl, hB3, hg3⟩
  have HB3 := Lib.hid hB3
  have hE3 : Ext w w3 := Below.grown hE2 hg3 hE2.size (fun r hr => by cases hr; exact hgw)
  clear hB3 hg3
  have hq4 : ¬ 8 + n = 4 := by omega
  have hq4z : (4 : Int) ≤ 8 + (n : Int) := by omega
  go_wp2_with fail
  refine wp_region_held_drew (S := (fun _ => True)) (by kernel_rfl) (by trivial) (fun hHeld => ?_)
  refine wpAnyH_take (i := 0) (oi := ?oi1) (v := ?v1) ?hi1 (by kernel_rfl) (by kernel_rfl) (by kernel_rfl) ?hQ1 ?hy1 (by assumption) ?_
  case hi1 => (simp only [List.getElem?_toArray, List.getElem?_cons_succ, List.getElem?_cons_zero]; try rfl)
  case hQ1 => exact fun _ _ _ h => h
  case hy1 => (refine Or.inl ⟨by rfl, ?_⟩; intro wq hSw; (try dsimp only at hSw); go_simp; (try simp only [if_pos hq4z, if_neg hq4]); (try with_reducible rfl))
  (try simp only [Act.put, List.setIfInBounds_toArray, List.set_cons_zero, List.set_cons_succ])
  refine wpAnyH_take (i := 1) (oi := ?oi2) (v := ?v2) ?hi2 (by kernel_rfl) (by kernel_rfl) (by kernel_rfl) ?hQ2 ?hy2 (by assumption) ?_
  case hi2 => (simp only [List.getElem?_toArray, List.getElem?_cons_succ, List.getElem?_cons_zero]; try rfl)
  case hQ2 => exact fun _ _ _ h => h
  case hy2 => (refine Or.inl ⟨by rfl, ?_⟩; intro wq hSw; (try dsimp only at hSw); go_simp; (try simp only [if_pos hq4z, if_neg hq4]); (try with_reducible rfl))
  (try simp only [Act.put, List.setIfInBounds_toArray, List.set_cons_zero, List.set_cons_succ])
  refine wpAnyH_take (i := 2) (oi := ?oi3) (v := ?v3) ?hi3 (by kernel_rfl) (by kernel_rfl) (by kernel_rfl) ?hQ3 ?hy3 (by assumption) ?_
  case hi3 => (simp only [List.getElem?_toArray, List.getElem?_cons_succ, List.getElem?_cons_zero]; try rfl)
  case hQ3 => exact fun _ _ _ h => h
  case hy3 => (refine Or.inl ⟨by rfl, ?_⟩; intro wq hSw; (try dsimp only at hSw); go_simp; (try simp only [if_pos hq4z, if_neg hq4]); (try with_reducible rfl))
  (try simp only [Act.put, List.setIfInBounds_toArray, List.set_cons_zero, List.set_cons_succ])
  refine wpAnyH_take (i := 3) (oi := ?oi4) (v := ?v4) ?hi4 (by kernel_rfl) (by kernel_rfl) (by kernel_rfl) ?hQ4 ?hy4 (by assumption) ?_
  case hi4 => (simp only [List.getElem?_toArray, List.getElem?_cons_succ, List.getElem?_cons_zero]; try rfl)
  case hQ4 => exact fun _ _ _ h => h
  case hy4 => (refine Or.inl ⟨by rfl, ?_⟩; intro wq hSw; (try dsimp only at hSw); go_simp; (try simp only [if_pos hq4z, if_neg hq4]); (try with_reducible rfl))
  (try simp only [Act.put, List.setIfInBounds_toArray, List.set_cons_zero, List.set_cons_succ])
  refine wpAnyH_take (i := 4) (oi := ?oi5) (v := ?v5) ?hi5 (by kernel_rfl) (by kernel_rfl) (by kernel_rfl) ?hQ5 ?hy5 (by assumption) ?_
  case hi5 => (simp only [List.getElem?_toArray, List.getElem?_cons_succ, List.getElem?_cons_zero]; try rfl)
  case hQ5 => exact fun _ _ _ h => h
  case hy5 => (refine Or.inl ⟨by rfl, ?_⟩; intro wq hSw; (try dsimp only at hSw); go_simp; (try simp only [if_pos hq4z, if_neg hq4]); (try with_reducible rfl))
  (try simp only [Act.put, List.setIfInBounds_toArray, List.set_cons_zero, List.set_cons_succ])
  refine wpAnyH_ready (rs := [5]) (by kernel_rfl) (by simp) ?_
  refine AllReadyH.cons (o := ?oi6) ?hi6 ?ti6 AllReadyH.nil
  case hi6 => (simp only [List.getElem?_toArray, List.getElem?_cons_succ, List.getElem?_cons_zero]; try rfl)
  case ti6 =>
    intro KQ hKQ
    go_simp
    go_at_call 27
    refine Calls.mono (HSUM.out _ HB3.out (by repeat (first | exact Ext.refl' _ | assumption | apply Ext.ex' | apply Ext.al | apply Ext.drN | apply Ext.dr))) ?_
    rintro e w4 ⟨rfl, hw4⟩
    have hw5 := hw4.symm
    subst hw5
    refine hKQ.out _ _ (by trivial) (fun hHeld2 => ?_)
    clear hHeld hKQ KQ; have hHeld := hHeld2; clear hHeld2
    (try simp only [Act.put, List.setIfInBounds_toArray, List.set_cons_zero, List.set_cons_succ])
    refine wpAnyH_ready (rs := [6]) (by kernel_rfl) (by simp) ?_
    refine AllReadyH.cons (o := ?oi7) ?hi7 ?ti7 AllReadyH.nil
    case hi7 => (simp only [List.getElem?_toArray, List.getElem?_cons_succ, List.getElem?_cons_zero]; try rfl)
    case ti7 =>
      intro KQ hKQ
      go_simp
      go_at_call 26
      refine Calls.mono (fput_any g 4 (8 + n - 4) (8 + n - 4) s _ _ HB3.out (by rw [HL3.out]; omega) (by omega) hsl) ?_
      rintro e w5 ⟨rfl, hB5, hg5⟩
      have HB5 := Lib.hid hB5
      have HG5 := Lib.hid hg5
      clear hB5 hg5
      refine hKQ.out _ _ (by trivial) (fun hHeld2 => ?_)
      clear hHeld hKQ KQ; have hHeld := hHeld2; clear hHeld2
      (try simp only [Act.put, List.setIfInBounds_toArray, List.set_cons_zero, List.set_cons_succ])
      refine wpAnyH_done (by kernel_rfl) ?_ _
      have hE5 : Ext w w5 := Below.grown (Ext.dr hE3) HG5.out (Ext.dr hE3).size (fun r hr => by cases hr; exact hgw)
      have hlt8 : (8 : Nat) < 8 + n := by omega
      go_wp2_with (refine wpList_copy_splice rfl (.tmp 38) (.tmp 39) 26 26 rfl 5 Try.underlying26 hsz1 _ _ _ _ _ _ rfl rfl g 8 (bcl (splice (splice (List.replicate (8 + n) 0) 0 (be 4 n)) 4 (be 4 s))) 5 HB5.out (bcl body) (by rw [bcl_length, HN.out]; simp; try omega) (fun _ => ⟨rfl, HSRC.out w5 hE5⟩) (by rw [bcl_length, bcl_length, HN.out, HL5.out]; omega) (oneCell_bcl _) w.heap.size w hE5 hgw ?_; intro w6 HB6 hE6)
      go_wp2
      refine bodyPost_ret (v := .tuple #[.slice (some ⟨g, 0, none⟩) (8 + n) (8 + n), .int .i64 0]) ?_ rfl ⟨g, rfl, ?_, hE6⟩
      · simp [results, Try.results9, go_sem]
      · have h := HB6.out
        rw [splice_bcl, HFR.out] at h
        exact h


def NxP (n : Nat) (body : List UInt8) (w : World) (e : Ending) (w' : World) : Prop := ∃ g, e = .returned (.tuple #[.slice (some ⟨g, 0, none⟩) n n, .int .i64 (8 + (n : Int)), .int .i64 0]) ∧ Blk w' g body ∧ Ext w w'
theorem frm_t4 (l : List UInt8) : (frm l).take 4 = be 4 l.length := by unfold frm; rw [List.take_left' (be_length 4 _)]
theorem frm_d4 (l : List UInt8) : ((frm l).drop 4) = be 4 (sumF (be 4 l.length) l) ++ l := by unfold frm; rw [List.drop_left' (be_length 4 _)]
theorem frm_d8 (l : List UInt8) : ((frm l).drop 8) = l := by
  rw [show 8 = 4 + 4 from rfl, ← List.drop_drop, frm_d4, List.drop_left' (be_length 4 _)]
set_option maxRecDepth 100000 in
set_option maxHeartbeats 8000000 in
theorem fnext_any (g0 n : Nat) (body : List UInt8) (w : World) (hn : body.length = n) (hn1 : 1 ≤ n) (hnb : n ≤ 1048576) (hB : Blk w g0 (frm body)) :
    Calls Try.prog 11 #[.slice (some ⟨g0, 0, none⟩) (8 + n) (8 + n), .int .i64 0] w fun e w' => NxP n body w e w' := by
  obtain ⟨s, hs⟩ : ∃ s, sumF (be 4 n) body = s := ⟨_, rfl⟩
  have hsl : s < 4294967296 := by rw [← hs]; exact sumF_lt _ _
  have hfl : (frm body).length = 8 + n := by rw [frm_len, hn]
  have HG1 : Hid (∀ W, Ext w W → Calls Try.prog 31 #[.slice (some ⟨g0, 0, none⟩) (8 + n) (8 + n)] W fun e w' => e = .returned (.int .u32 (n : Int)) ∧ Ext W w') := Lib.hid fun W e => by
    have h := (hB.ext e).rd (o := 0) (n := 8 + n) (by rw [hfl]; omega)
    rw [List.drop_zero, List.take_of_length_le (by rw [hfl]; exact Nat.le_refl _)] at h
    exact fget_any _ _ _ n (frm body) W hfl h (by omega) (by omega) (by rw [frm_t4, hn])
  have HG2 : Hid (∀ W, Ext w W → Calls Try.prog 31 #[.slice (some ⟨g0, 4, none⟩) (8 + n - 4) (8 + n - 4)] W fun e w' => e = .returned (.int .u32 (s : Int)) ∧ Ext W w') := Lib.hid fun W e => by
    have h := (hB.ext e).rd (o := 4) (n := 8 + n - 4) (by rw [hfl]; omega)
    rw [List.take_of_length_le (by rw [List.length_drop, hfl]; exact Nat.le_refl _)] at h
    exact fget_any _ _ _ s ((frm body).drop 4) W (by rw [List.length_drop, hfl]) h (by omega) hsl (by rw [frm_d4, List.take_left' (be_length 4 _), hn, hs])
  have HR8 : Hid (∀ W, Ext w W → Rd W 1 (some ⟨g0, 8, none⟩) n (bcl body)) := Lib.hid fun W e => by
    have h := (hB.ext e).rd (o := 8) (n := n) (by rw [hfl]; omega)
    rw [frm_d8, List.take_of_length_le (by rw [hn]; omega)] at h
    exact h
  have HS2 : Hid (∀ W, Ext w W → Calls Try.prog 27 #[.slice (some ⟨g0, 0, none⟩) 4 (8 + n), .slice (some ⟨g0, 8, none⟩) n n] W fun e w' => e = .returned (.int .u32 (s : Int)) ∧ w' = W) := Lib.hid fun W e => by
    have h4 := (hB.ext e).rd (o := 0) (n := 4) (by rw [hfl]; omega)
    rw [List.drop_zero, frm_t4, hn] at h4
    have h := sum_any (some ⟨g0, 0, none⟩) (some ⟨g0, 8, none⟩) 4 n (8 + n) n (be 4 n) body W (be_length 4 n) hn (by omega) (by omega) h4 (HR8.out W e)
    rw [hs] at h
    exact h
  have HSRC : Hid (∀ W, Ext w W → ∃ ad, (some ⟨g0, 8, none⟩ : Option Addr) = some ad ∧ ∀ j v, (bcl body)[j]? = some v → W.cell? (ad.add j) = some v) := Lib.hid fun W e => by
    obtain ⟨b, o, h1, h2, h3⟩ := (HR8.out W e).2 (by omega)
    exact ⟨_, rfl, fun j v h => by
      injection h1 with h1
      rw [h1, add_none]
      exact h3 j v h⟩
  have HFR : Hid (splice (List.replicate n (0 : UInt8)) 0 body = body) := Lib.hid (by
    have h := splice_mid (p := ([] : List UInt8)) (q := List.replicate n (0 : UInt8)) (r := []) (b := body) (k := 0) rfl (by simp [hn])
    simpa using h)
  have HN := Lib.hid hn
  have hw : IntKind.i64.wrap (n : Int) = (n : Int) := by rw [IntKind.wrap_i64]; omega
  have hnm : ¬ ((1048576 : Int) < (n : Int)) := by omega
  clear hs hfl hB hn hsl
  obtain ⟨i0, hi0, hz0, hs0, hb0⟩ := elU8.hi
  have hq4 : ¬ 8 + n = 4 := by omega
  have hq4z : (4 : Int) ≤ 8 + (n : Int) := by omega
  have hq8 : ¬ 8 + n = 8 := by omega
  have hq8z : (8 : Int) ≤ 8 + (n : Int) := by omega
  have hq0 : ¬ 8 + n = 0 := by omega
  have hn0 : ¬ n = 0 := by omega
  have hw8 : IntKind.i64.wrap (8 + (n : Int)) = 8 + (n : Int) := by rw [IntKind.wrap_i64]; omega
  have hp1 : 0 ≤ 8 + (n : Int) ∧ 8 + (n : Int) ≤ 8 + (n : Int) := by omega
  have hp2 : (8 : Int) ≤ max (8 + (n : Int)) 0 := by omega
  have hp3 : (8 + (n : Int)).toNat - 8 = n := by omega
  go_enter Try.func11, Try.ntmps11
  go_wp2_with fail
  refine (HG1.out _ (by repeat (first | exact Ext.refl' _ | assumption | apply Ext.ex' | apply Ext.al | apply Ext.drN | apply Ext.dr))).mono ?_
  rintro e w1 ⟨rfl, hb1⟩
  obtain ⟨x1, rfl⟩ := hb1.get
  clear hb1
  go_wp2_with fail
  refine wp_region_held_drew (S := (fun _ => True)) (by kernel_rfl) (by trivial) (fun hHeld => ?_)
  refine wpAnyH_take (i := 0) (oi := ?oi501) (v := ?v501) ?hi501 (by kernel_rfl) (by kernel_rfl) (by kernel_rfl) ?hQ501 ?hy501 (by assumption) ?_
  case hi501 => (simp only [List.getElem?_toArray, List.getElem?_cons_succ, List.getElem?_cons_zero]; try rfl)
  case hQ501 => exact fun _ _ _ h => h
  case hy501 => (refine Or.inl ⟨by rfl, ?_⟩; intro wq hSw; (try dsimp only at hSw); go_simp; (try simp only [hw8, if_pos hp1, if_pos hp2, hp3, if_neg hn0, if_pos hq4z, if_neg hq4, if_pos hq8z, if_neg hq8]); (try with_reducible rfl))
  (try simp only [Act.put, List.setIfInBounds_toArray, List.set_cons_zero, List.set_cons_succ])
  refine wpAnyH_take (i := 1) (oi := ?oi502) (v := ?v502) ?hi502 (by kernel_rfl) (by kernel_rfl) (by kernel_rfl) ?hQ502 ?hy502 (by assumption) ?_
  case hi502 => (simp only [List.getElem?_toArray, List.getElem?_cons_succ, List.getElem?_cons_zero]; try rfl)
  case hQ502 => exact fun _ _ _ h => h
  case hy502 => (refine Or.inl ⟨by rfl, ?_⟩; intro wq hSw; (try dsimp only at hSw); go_simp; (try simp only [hw8, if_pos hp1, if_pos hp2, hp3, if_neg hn0, if_pos hq4z, if_neg hq4, if_pos hq8z, if_neg hq8]); (try with_reducible rfl))
  (try simp only [Act.put, List.setIfInBounds_toArray, List.set_cons_zero, List.set_cons_succ])
  refine wpAnyH_take (i := 3) (oi := ?oi503) (v := ?v503) ?hi503 (by kernel_rfl) (by kernel_rfl) (by kernel_rfl) ?hQ503 ?hy503 (by assumption) ?_
  case hi503 => (simp only [List.getElem?_toArray, List.getElem?_cons_succ, List.getElem?_cons_zero]; try rfl)
  case hQ503 => exact fun _ _ _ h => h
  case hy503 => (refine Or.inl ⟨by rfl, ?_⟩; intro wq hSw; (try dsimp only at hSw); go_simp; (try simp only [hw8, if_pos hp1, if_pos hp2, hp3, if_neg hn0, if_pos hq4z, if_neg hq4, if_pos hq8z, if_neg hq8]); (try with_reducible rfl))
  (try simp only [Act.put, List.setIfInBounds_toArray, List.set_cons_zero, List.set_cons_succ])
  refine wpAnyH_take (i := 4) (oi := ?oi504) (v := ?v504) ?hi504 (by kernel_rfl) (by kernel_rfl) (by kernel_rfl) ?hQ504 ?hy504 (by assumption) ?_
  case hi504 => (simp only [List.getElem?_toArray, List.getElem?_cons_succ, List.getElem?_cons_zero]; try rfl)
  case hQ504 => exact fun _ _ _ h => h
  case hy504 => (refine Or.inl ⟨by rfl, ?_⟩; intro wq hSw; (try dsimp only at hSw); go_simp; (try simp only [hw8, if_pos hp1, if_pos hp2, hp3, if_neg hn0, if_pos hq4z, if_neg hq4, if_pos hq8z, if_neg hq8]); (try with_reducible rfl))
  (try simp only [Act.put, List.setIfInBounds_toArray, List.set_cons_zero, List.set_cons_succ])
  refine wpAnyH_take (i := 5) (oi := ?oi505) (v := ?v505) ?hi505 (by kernel_rfl) (by kernel_rfl) (by kernel_rfl) ?hQ505 ?hy505 (by assumption) ?_
  case hi505 => (simp only [List.getElem?_toArray, List.getElem?_cons_succ, List.getElem?_cons_zero]; try rfl)
  case hQ505 => exact fun _ _ _ h => h
  case hy505 => (refine Or.inl ⟨by rfl, ?_⟩; intro wq hSw; (try dsimp only at hSw); go_simp; (try simp only [hw8, if_pos hp1, if_pos hp2, hp3, if_neg hn0, if_pos hq4z, if_neg hq4, if_pos hq8z, if_neg hq8]); (try with_reducible rfl))
  (try simp only [Act.put, List.setIfInBounds_toArray, List.set_cons_zero, List.set_cons_succ])
  refine wpAnyH_take (i := 6) (oi := ?oi506) (v := ?v506) ?hi506 (by kernel_rfl) (by kernel_rfl) (by kernel_rfl) ?hQ506 ?hy506 (by assumption) ?_
  case hi506 => (simp only [List.getElem?_toArray, List.getElem?_cons_succ, List.getElem?_cons_zero]; try rfl)
  case hQ506 => exact fun _ _ _ h => h
  case hy506 => (refine Or.inl ⟨by rfl, ?_⟩; intro wq hSw; (try dsimp only at hSw); go_simp; (try simp only [hw8, if_pos hp1, if_pos hp2, hp3, if_neg hn0, if_pos hq4z, if_neg hq4, if_pos hq8z, if_neg hq8]); (try with_reducible rfl))
  (try simp only [Act.put, List.setIfInBounds_toArray, List.set_cons_zero, List.set_cons_succ])
  refine wpAnyH_take (i := 7) (oi := ?oi507) (v := ?v507) ?hi507 (by kernel_rfl) (by kernel_rfl) (by kernel_rfl) ?hQ507 ?hy507 (by assumption) ?_
  case hi507 => (simp only [List.getElem?_toArray, List.getElem?_cons_succ, List.getElem?_cons_zero]; try rfl)
  case hQ507 => exact fun _ _ _ h => h
  case hy507 => (refine Or.inl ⟨by rfl, ?_⟩; intro wq hSw; (try dsimp only at hSw); go_simp; (try simp only [hw8, if_pos hp1, if_pos hp2, hp3, if_neg hn0, if_pos hq4z, if_neg hq4, if_pos hq8z, if_neg hq8]); (try with_reducible rfl))
  (try simp only [Act.put, List.setIfInBounds_toArray, List.set_cons_zero, List.set_cons_succ])
  refine wpAnyH_take (i := 8) (oi := ?oi508) (v := ?v508) ?hi508 (by kernel_rfl) (by kernel_rfl) (by kernel_rfl) ?hQ508 ?hy508 (by assumption) ?_
  case hi508 => (simp only [List.getElem?_toArray, List.getElem?_cons_succ, List.getElem?_cons_zero]; try rfl)
  case hQ508 => exact fun _ _ _ h => h
  case hy508 => (refine Or.inl ⟨by rfl, ?_⟩; intro wq hSw; (try dsimp only at hSw); go_simp; (try simp only [hw8, if_pos hp1, if_pos hp2, hp3, if_neg hn0, if_pos hq4z, if_neg hq4, if_pos hq8z, if_neg hq8]); (try with_reducible rfl))
  (try simp only [Act.put, List.setIfInBounds_toArray, List.set_cons_zero, List.set_cons_succ])
  refine wpAnyH_ready (rs := [2]) (by kernel_rfl) (by simp) ?_
  refine AllReadyH.cons (o := ?oi509) ?hi509 ?ti509 AllReadyH.nil
  case hi509 => (simp only [List.getElem?_toArray, List.getElem?_cons_succ, List.getElem?_cons_zero]; try rfl)
  case ti509 =>
    intro KQ hKQ
    go_simp
    go_at_call 31
    refine Calls.mono (HG2.out _ (by repeat (first | exact Ext.refl' _ | assumption | apply Ext.ex' | apply Ext.al | apply Ext.drN | apply Ext.dr))) ?_
    rintro e w4 ⟨rfl, hb4⟩
    obtain ⟨x4, rfl⟩ := hb4.get
    clear hb4
    refine hKQ.out _ _ (by trivial) (fun hHeld2 => ?_)
    clear hHeld hKQ KQ; have hHeld := hHeld2; clear hHeld2
    (try simp only [Act.put, List.setIfInBounds_toArray, List.set_cons_zero, List.set_cons_succ])
    refine wpAnyH_ready (rs := [9]) (by kernel_rfl) (by simp) ?_
    refine AllReadyH.cons (o := ?oi510) ?hi510 ?ti510 AllReadyH.nil
    case hi510 => (simp only [List.getElem?_toArray, List.getElem?_cons_succ, List.getElem?_cons_zero]; try rfl)
    case ti510 =>
      intro KQ hKQ
      go_simp
      go_at_call 27
      refine Calls.mono (HS2.out _ (by repeat (first | exact Ext.refl' _ | assumption | apply Ext.ex' | apply Ext.al | apply Ext.drN | apply Ext.dr))) ?_
      rintro e w5 ⟨rfl, hw5⟩
      have hw6 := hw5.symm
      subst hw6
      refine hKQ.out _ _ (by trivial) (fun hHeld2 => ?_)
      clear hHeld hKQ KQ; have hHeld := hHeld2; clear hHeld2
      (try simp only [Act.put, List.setIfInBounds_toArray, List.set_cons_zero, List.set_cons_succ])
      refine wpAnyH_take (i := 10) (oi := ?oi511) (v := ?v511) ?hi511 (by kernel_rfl) (by kernel_rfl) (by kernel_rfl) ?hQ511 ?hy511 (by assumption) ?_
      case hi511 => (simp only [List.getElem?_toArray, List.getElem?_cons_succ, List.getElem?_cons_zero]; try rfl)
      case hQ511 => exact fun _ _ _ h => h
      case hy511 => (refine Or.inl ⟨by rfl, ?_⟩; intro wq hSw; (try dsimp only at hSw); go_simp; (try simp only [hw8, if_pos hp1, if_pos hp2, hp3, if_neg hn0, if_pos hq4z, if_neg hq4, if_pos hq8z, if_neg hq8]); (try with_reducible rfl))
      (try simp only [Act.put, List.setIfInBounds_toArray, List.set_cons_zero, List.set_cons_succ])
      refine wpAnyH_take (i := 11) (oi := ?oi512) (v := ?v512) ?hi512 (by kernel_rfl) (by kernel_rfl) (by kernel_rfl) ?hQ512 ?hy512 (by assumption) ?_
      case hi512 => (simp only [List.getElem?_toArray, List.getElem?_cons_succ, List.getElem?_cons_zero]; try rfl)
      case hQ512 => exact fun _ _ _ h => h
      case hy512 => (refine Or.inl ⟨by rfl, ?_⟩; intro wq hSw; (try dsimp only at hSw); go_simp; (try simp only [hw8, if_pos hp1, if_pos hp2, hp3, if_neg hn0, if_pos hq4z, if_neg hq4, if_pos hq8z, if_neg hq8]); (try with_reducible rfl))
      (try simp only [Act.put, List.setIfInBounds_toArray, List.set_cons_zero, List.set_cons_succ])
      refine wpAnyH_done (by kernel_rfl) ?_ _
      go_wp2_with (first
        | (refine wpList_make_full _ rfl (.tmp 48) (.tmp 48) _ rfl _ 5 i0 _ 1 Try.underlying26 hi0 hz0 hs0 _ _ _ _ n rfl rfl rfl rfl (by rw [hb0]; omega) (by unfold maxLen; omega) (Nat.le_refl _) ?_
           intro w2 ho2 hg2
           rw [made1] at ho2
           have hE0 : Ext w (ext (ext w x1).drew x4) := by repeat (first | exact Ext.refl' _ | assumption | apply Ext.ex' | apply Ext.al | apply Ext.drN | apply Ext.dr)
           have hE2 : Ext w w2 := Below.grown hE0 hg2 hE0.size (fun r hr => by cases hr)
           obtain ⟨g, hgg⟩ : ∃ g, (ext (ext w x1).drew x4).heap.size = g := ⟨_, rfl⟩
           rw [hgg] at ho2 ⊢
           have hgw : w.heap.size ≤ g := by rw [← hgg]; exact hE0.size
           have HB2 := Lib.hid (own_blk ho2)
           have hgl2 : g < w2.heap.size := (Array.getElem?_eq_some_iff.1 HB2.out).1
           clear ho2 hg2 hgg hi0 hz0 hs0 hb0 hE0)
        | (refine wpList_copy_splice rfl (.tmp 50) (.tmp 52) 26 26 rfl 5 Try.underlying26 hsz1 _ _ _ _ _ _ rfl rfl g 0 (bcl (List.replicate n 0)) 5 HB2.out (bcl body) (by rw [bcl_length, HN.out]; simp; try omega) (fun _ => ⟨rfl, HSRC.out w2 hE2⟩) (by rw [bcl_length, bcl_length, HN.out, List.length_replicate]; omega) (oneCell_bcl _) w.heap.size w hE2 hgw ?_
           intro w6 HB6 hE6))
      refine bodyPost_ret (v := .tuple #[.slice (some ⟨g, 0, none⟩) n n, .int .i64 (8 + (n : Int)), .int .i64 0]) ?_ rfl ⟨g, rfl, ?_, hE6⟩
      · simp [results, Try.results11, go_sem]
      · have h := HB6.out
        rw [splice_bcl, HFR.out] at h
        exact h

end Go.Proofs.Ytahmkinppighkaa
