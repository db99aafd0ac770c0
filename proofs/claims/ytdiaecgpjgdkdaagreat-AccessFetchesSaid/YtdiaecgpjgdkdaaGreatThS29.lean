/- Lemmas for the rows: TrC TrC4. -/
import Derived.Test.YtdiaecgpjgdkdaaGreatThS27
import Derived.Test.YtdiaecgpjgdkdaaGreatThS01
import Derived.Deep.QuietTactic
set_option linter.unusedSimpArgs false
set_option linter.unusedVariables false
namespace Go.Proofs.YtdiaecgpjgdkdaaGreat
open Go.RowKit Go.Shelf

attribute [local go_sem] Oper.semAt_some

abbrev Ix (n : Nat) := { i : Nat // i < n }

theorem chunkBox_any (A : Option Addr) (n c wd : Nat) (hw : 1 ≤ wd) (w : World) : Calls Tryz.prog 28 #[.slice A n c, .int .i64 wd] w fun e w' => e = .returned (.func (.func 53) #[] #[.pointer (some ⟨w.heap.size, 0, none⟩), .pointer (some ⟨w.heap.size + 1, 0, none⟩)]) ∧ w' = (w.alloc (.cells #[.slice A n c] 79)).alloc (.cells #[.int .i64 wd] 3) := by
 go_enter Tryz.func28, Tryz.ntmps28
 go_wp2
 go_ret
 exact ⟨rfl, rfl⟩
abbrev encBox (b o wd n : Nat) (x : Ix n) : Array Value := #[.slice (some ⟨b, o + x.1 * 5, none⟩) (min wd (n - x.1)) (min wd (n - x.1))]
set_option maxRecDepth 100000 in
set_option maxHeartbeats 2000000 in
theorem chunkBox_in (m l bs bn h B b o wd n c : Nat) (hwd : 1 ≤ wd) (hw2 : wd ≤ 64) (hn : n ≤ 1048576) (hc : n ≤ c) (hbs : bs < h) (hbn : bn < h) (nbs : bs ≠ B) (nbn : bn ≠ B) (J Jx : List (Ix n) → World → Prop)
  (hJa : ∀ pre W W', J pre W → W.grownBy W' none → J pre W') (hY : ∀ pre x W, J pre W → pre.length < nch wd n → YieldAt Fence.wide m Tryz.prog l (encBox b o wd n x) W fun e W' => (e = .returned (.bool true) ∧ J (pre ++ [x]) W' ∧ But h B W W') ∨ (e = .returned (.bool false) ∧ Jx (pre ++ [x]) W'))
  (W : World) (h1 : W.cell? ⟨bs, 0, none⟩ = some (.slice (some ⟨b, o, none⟩) n c)) (h2 : W.cell? ⟨bn, 0, none⟩ = some (.int .i64 wd)) (h0 : J [] W) :
  CallsIn Fence.wide (m + 1) Tryz.prog 53 #[.func (.yield l) #[] #[], .pointer (some ⟨bs, 0, none⟩), .pointer (some ⟨bn, 0, none⟩)] W fun e W' => (∃ v, e = .returned v) ∧ ((∃ xs, xs.map Subtype.val = (List.range (nch wd n)).map (· * wd) ∧ J xs W') ∨ ∃ pre, True ∧ Jx pre W') := by
 have HY := Lib.hid hY
 have HJA := Lib.hid hJa
 clear hY hJa
 refine callsIn_of_wp Tryz.func53 rfl trivial ?_ rfl
 simp only [Tryz.ntmps53, List.size_toArray, List.length_cons, List.length_nil, Nat.reduceAdd, Nat.reduceSub, Array.replicate_succ, Array.replicate_zero, List.push_toArray, List.append_toArray, List.nil_append, List.cons_append]
 gi_wp2
 gi_loopw [4] (fun i wr => ∃ (j : Nat) (xs : List (Ix n)), i = .int .i64 (j * wd : Nat) ∧ j ≤ nch wd n ∧ xs.map Subtype.val = (List.range j).map (· * wd) ∧ J xs wr ∧ wr.cell? ⟨bs, 0, none⟩ = some (.slice (some ⟨b, o, none⟩) n c) ∧ wr.cell? ⟨bn, 0, none⟩ = some (.int .i64 wd)) (fun i _ => nch wd n * wd - (intOf i).toNat)
 case atStart => exact ⟨0, [], by simp, Nat.zero_le _, rfl, h0, h1, h2⟩
 case round =>
  obtain ⟨j, xs, rfl, hj, hxs, hJ, g1, g2⟩ := hrel
  clear h1 h2
  have HXS := Lib.hid hxs
  clear hxs
  have hle := Lib.hid (lt_nch (w := wd) (n := n) (j := j) hwd)
  have hjm : j * wd ≤ nch wd n * wd := Nat.mul_le_mul_right _ hj
  by_cases hlt : j < nch wd n
  ·
   have hlt' : j * wd < n := hle.out.1 hlt
   have hlen : xs.length < nch wd n := by have := congrArg List.length HXS.out; simp at this; omega
   have hs1 : (j + 1) * wd = j * wd + wd := by rw [Nat.add_mul, Nat.one_mul]
   have hjm2 : (j + 1) * wd ≤ nch wd n * wd := Nat.mul_le_mul_right _ (by omega)
   have HMS : Hid (j * wd + wd ≤ nch wd n * wd) := Lib.hid (by omega)
   have HS1 := Lib.hid hs1
   clear hs1
   generalize hi : j * wd = i at hlt' hjm HS1 HMS
   have HI := Lib.hid hi
   clear hi
   have h63 : n ≤ 9223372036854775807 := by omega
   rcases (show wd ≤ n - i ∨ n - i < wd from by omega) with hmn | hmn
   ·
    have hm1 : ¬ n - i < wd := by omega
    have hm2 : min wd (n - i) = wd := by omega
    have HM := Lib.hid hm2
    clear hm2
    gi_wp2
    refine wpIn_wide.2 ?_
    go_quiet (fail)
    rename_i nq _ _
    have hJ2 := HJA.out _ _ (wr.drewN nq) hJ (drewN_grown wr nq)
    obtain ⟨fn, tmps, assign, body, hy, hR⟩ := HY.out xs ⟨i, hlt'⟩ (wr.drewN nq) hJ2 hlen
    have HR := Lib.hid hR
    dsimp only [encBox] at hy
    simp only [HM.out] at hy
    clear hR
    gi_wp2
    refine RoundIn.mono HR.out ?_
    rintro e W3 (⟨rfl, hJ3, hb3⟩ | ⟨rfl, hJx3⟩)
    ·
     have q1 : W3.cell? ⟨bs, 0, none⟩ = some (.slice (some ⟨b, o, none⟩) n c) := by rw [hb3.cell hbs nbs, World.cell?_drewN]; exact g1
     have q2 : W3.cell? ⟨bn, 0, none⟩ = some (.int .i64 wd) := by rw [hb3.cell hbn nbn, World.cell?_drewN]; exact g2
     gi_wp2
     go_roundw
     case rel => exact ⟨j + 1, xs ++ [⟨i, hlt'⟩], by rw [HS1.out]; go_num, by omega, by rw [List.map_append, HXS.out, List.range_succ, List.map_append]; simp [HI.out], hJ3, q1, q2⟩
     case measure => (have hms := HMS.out; generalize nch wd n * wd = M at hms ⊢; simp [intOf]; omega)
    ·
     gi_wp2
     refine bodyPost_ret (results_none rfl _ _ _) rfl ?_
     exact ⟨⟨_, rfl⟩, .inr ⟨_, trivial, hJx3⟩⟩
   ·
    have hm1 : n - i < wd := by omega
    have hm2 : min wd (n - i) = n - i := by omega
    have HM := Lib.hid hm2
    clear hm2
    gi_wp2
    refine wpIn_wide.2 ?_
    go_quiet (fail)
    rename_i nq _ _
    have hJ2 := HJA.out _ _ (wr.drewN nq) hJ (drewN_grown wr nq)
    obtain ⟨fn, tmps, assign, body, hy, hR⟩ := HY.out xs ⟨i, hlt'⟩ (wr.drewN nq) hJ2 hlen
    have HR := Lib.hid hR
    dsimp only [encBox] at hy
    simp only [HM.out] at hy
    clear hR
    gi_wp2
    refine RoundIn.mono HR.out ?_
    rintro e W3 (⟨rfl, hJ3, hb3⟩ | ⟨rfl, hJx3⟩)
    ·
     have q1 : W3.cell? ⟨bs, 0, none⟩ = some (.slice (some ⟨b, o, none⟩) n c) := by rw [hb3.cell hbs nbs, World.cell?_drewN]; exact g1
     have q2 : W3.cell? ⟨bn, 0, none⟩ = some (.int .i64 wd) := by rw [hb3.cell hbn nbn, World.cell?_drewN]; exact g2
     gi_wp2
     go_roundw
     case rel => exact ⟨j + 1, xs ++ [⟨i, hlt'⟩], by rw [HS1.out]; go_num, by omega, by rw [List.map_append, HXS.out, List.range_succ, List.map_append]; simp [HI.out], hJ3, q1, q2⟩
     case measure => (have hms := HMS.out; generalize nch wd n * wd = M at hms ⊢; simp [intOf]; omega)
    ·
     gi_wp2
     refine bodyPost_ret (results_none rfl _ _ _) rfl ?_
     exact ⟨⟨_, rfl⟩, .inr ⟨_, trivial, hJx3⟩⟩
  ·
   have hge : n ≤ j * wd := by
    rcases Nat.lt_or_ge (j * wd) n with h | h
    ·
     exact absurd (hle.out.2 h) hlt
    ·
     exact h
   generalize hi : j * wd = i at hge
   gi_wp2
   go_end0
   have hjn : j = nch wd n := by omega
   exact ⟨⟨_, rfl⟩, .inl ⟨xs, by rw [HXS.out, hjn], hJ⟩⟩

theorem chunkNod_any (A : Option Addr) (n c wd : Nat) (hw : 1 ≤ wd) (w : World) : Calls Tryz.prog 98 #[.slice A n c, .int .i64 wd] w fun e w' => e = .returned (.func (.func 137) #[] #[.pointer (some ⟨w.heap.size, 0, none⟩), .pointer (some ⟨w.heap.size + 1, 0, none⟩)]) ∧ w' = (w.alloc (.cells #[.slice A n c] 143)).alloc (.cells #[.int .i64 wd] 3) := by
 go_enter Tryz.func98, Tryz.ntmps98
 go_wp2
 go_ret
 exact ⟨rfl, rfl⟩
abbrev encNod (b o wd n : Nat) (x : Ix n) : Array Value := #[.slice (some ⟨b, o + x.1, none⟩) (min wd (n - x.1)) (min wd (n - x.1))]
set_option maxRecDepth 100000 in
set_option maxHeartbeats 2000000 in
theorem chunkNod_in (m l bs bn h B b o wd n c : Nat) (hwd : 1 ≤ wd) (hw2 : wd ≤ 64) (hn : n ≤ 1048576) (hc : n ≤ c) (hbs : bs < h) (hbn : bn < h) (nbs : bs ≠ B) (nbn : bn ≠ B) (J Jx : List (Ix n) → World → Prop)
  (hJa : ∀ pre W W', J pre W → W.grownBy W' none → J pre W') (hY : ∀ pre x W, J pre W → pre.length < nch wd n → YieldAt Fence.wide m Tryz.prog l (encNod b o wd n x) W fun e W' => (e = .returned (.bool true) ∧ J (pre ++ [x]) W' ∧ But h B W W') ∨ (e = .returned (.bool false) ∧ Jx (pre ++ [x]) W'))
  (W : World) (h1 : W.cell? ⟨bs, 0, none⟩ = some (.slice (some ⟨b, o, none⟩) n c)) (h2 : W.cell? ⟨bn, 0, none⟩ = some (.int .i64 wd)) (h0 : J [] W) :
  CallsIn Fence.wide (m + 1) Tryz.prog 137 #[.func (.yield l) #[] #[], .pointer (some ⟨bs, 0, none⟩), .pointer (some ⟨bn, 0, none⟩)] W fun e W' => (∃ v, e = .returned v) ∧ ((∃ xs, xs.map Subtype.val = (List.range (nch wd n)).map (· * wd) ∧ J xs W') ∨ ∃ pre, True ∧ Jx pre W') := by
 have HY := Lib.hid hY
 have HJA := Lib.hid hJa
 clear hY hJa
 refine callsIn_of_wp Tryz.func137 rfl trivial ?_ rfl
 simp only [Tryz.ntmps137, List.size_toArray, List.length_cons, List.length_nil, Nat.reduceAdd, Nat.reduceSub, Array.replicate_succ, Array.replicate_zero, List.push_toArray, List.append_toArray, List.nil_append, List.cons_append]
 gi_wp2
 gi_loopw [4] (fun i wr => ∃ (j : Nat) (xs : List (Ix n)), i = .int .i64 (j * wd : Nat) ∧ j ≤ nch wd n ∧ xs.map Subtype.val = (List.range j).map (· * wd) ∧ J xs wr ∧ wr.cell? ⟨bs, 0, none⟩ = some (.slice (some ⟨b, o, none⟩) n c) ∧ wr.cell? ⟨bn, 0, none⟩ = some (.int .i64 wd)) (fun i _ => nch wd n * wd - (intOf i).toNat)
 case atStart => exact ⟨0, [], by simp, Nat.zero_le _, rfl, h0, h1, h2⟩
 case round =>
  obtain ⟨j, xs, rfl, hj, hxs, hJ, g1, g2⟩ := hrel
  clear h1 h2
  have HXS := Lib.hid hxs
  clear hxs
  have hle := Lib.hid (lt_nch (w := wd) (n := n) (j := j) hwd)
  have hjm : j * wd ≤ nch wd n * wd := Nat.mul_le_mul_right _ hj
  by_cases hlt : j < nch wd n
  ·
   have hlt' : j * wd < n := hle.out.1 hlt
   have hlen : xs.length < nch wd n := by have := congrArg List.length HXS.out; simp at this; omega
   have hs1 : (j + 1) * wd = j * wd + wd := by rw [Nat.add_mul, Nat.one_mul]
   have hjm2 : (j + 1) * wd ≤ nch wd n * wd := Nat.mul_le_mul_right _ (by omega)
   have HMS : Hid (j * wd + wd ≤ nch wd n * wd) := Lib.hid (by omega)
   have HS1 := Lib.hid hs1
   clear hs1
   generalize hi : j * wd = i at hlt' hjm HS1 HMS
   have HI := Lib.hid hi
   clear hi
   have h63 : n ≤ 9223372036854775807 := by omega
   rcases (show wd ≤ n - i ∨ n - i < wd from by omega) with hmn | hmn
   ·
    have hm1 : ¬ n - i < wd := by omega
    have hm2 : min wd (n - i) = wd := by omega
    have HM := Lib.hid hm2
    clear hm2
    gi_wp2
    refine wpIn_wide.2 ?_
    go_quiet (fail)
    rename_i nq _ _
    have hJ2 := HJA.out _ _ (wr.drewN nq) hJ (drewN_grown wr nq)
    obtain ⟨fn, tmps, assign, body, hy, hR⟩ := HY.out xs ⟨i, hlt'⟩ (wr.drewN nq) hJ2 hlen
    have HR := Lib.hid hR
    dsimp only [encNod] at hy
    simp only [HM.out] at hy
    clear hR
    gi_wp2
    refine RoundIn.mono HR.out ?_
    rintro e W3 (⟨rfl, hJ3, hb3⟩ | ⟨rfl, hJx3⟩)
    ·
     have q1 : W3.cell? ⟨bs, 0, none⟩ = some (.slice (some ⟨b, o, none⟩) n c) := by rw [hb3.cell hbs nbs, World.cell?_drewN]; exact g1
     have q2 : W3.cell? ⟨bn, 0, none⟩ = some (.int .i64 wd) := by rw [hb3.cell hbn nbn, World.cell?_drewN]; exact g2
     gi_wp2
     go_roundw
     case rel => exact ⟨j + 1, xs ++ [⟨i, hlt'⟩], by rw [HS1.out]; go_num, by omega, by rw [List.map_append, HXS.out, List.range_succ, List.map_append]; simp [HI.out], hJ3, q1, q2⟩
     case measure => (have hms := HMS.out; generalize nch wd n * wd = M at hms ⊢; simp [intOf]; omega)
    ·
     gi_wp2
     refine bodyPost_ret (results_none rfl _ _ _) rfl ?_
     exact ⟨⟨_, rfl⟩, .inr ⟨_, trivial, hJx3⟩⟩
   ·
    have hm1 : n - i < wd := by omega
    have hm2 : min wd (n - i) = n - i := by omega
    have HM := Lib.hid hm2
    clear hm2
    gi_wp2
    refine wpIn_wide.2 ?_
    go_quiet (fail)
    rename_i nq _ _
    have hJ2 := HJA.out _ _ (wr.drewN nq) hJ (drewN_grown wr nq)
    obtain ⟨fn, tmps, assign, body, hy, hR⟩ := HY.out xs ⟨i, hlt'⟩ (wr.drewN nq) hJ2 hlen
    have HR := Lib.hid hR
    dsimp only [encNod] at hy
    simp only [HM.out] at hy
    clear hR
    gi_wp2
    refine RoundIn.mono HR.out ?_
    rintro e W3 (⟨rfl, hJ3, hb3⟩ | ⟨rfl, hJx3⟩)
    ·
     have q1 : W3.cell? ⟨bs, 0, none⟩ = some (.slice (some ⟨b, o, none⟩) n c) := by rw [hb3.cell hbs nbs, World.cell?_drewN]; exact g1
     have q2 : W3.cell? ⟨bn, 0, none⟩ = some (.int .i64 wd) := by rw [hb3.cell hbn nbn, World.cell?_drewN]; exact g2
     gi_wp2
     go_roundw
     case rel => exact ⟨j + 1, xs ++ [⟨i, hlt'⟩], by rw [HS1.out]; go_num, by omega, by rw [List.map_append, HXS.out, List.range_succ, List.map_append]; simp [HI.out], hJ3, q1, q2⟩
     case measure => (have hms := HMS.out; generalize nch wd n * wd = M at hms ⊢; simp [intOf]; omega)
    ·
     gi_wp2
     refine bodyPost_ret (results_none rfl _ _ _) rfl ?_
     exact ⟨⟨_, rfl⟩, .inr ⟨_, trivial, hJx3⟩⟩
  ·
   have hge : n ≤ j * wd := by
    rcases Nat.lt_or_ge (j * wd) n with h | h
    ·
     exact absurd (hle.out.2 h) hlt
    ·
     exact h
   generalize hi : j * wd = i at hge
   gi_wp2
   go_end0
   have hjn : j = nch wd n := by omega
   exact ⟨⟨_, rfl⟩, .inl ⟨xs, by rw [HXS.out, hjn], hJ⟩⟩

end Go.Proofs.YtdiaecgpjgdkdaaGreat

namespace Go.Proofs.YtdiaecgpjgdkdaaGreat
open Go.RowKit Go.Shelf

attribute [local go_sem] Oper.semAt_some

set_option maxRecDepth 100000 in
set_option maxHeartbeats 2000000 in
theorem chunkBox4_in (m l bs bn h B b o wd n c : Nat) (hwd : 1 ≤ wd) (hw2 : wd ≤ 4096) (hn : n ≤ 1048576) (hc : n ≤ c) (hbs : bs < h) (hbn : bn < h) (nbs : bs ≠ B) (nbn : bn ≠ B) (J Jx : List (Ix n) → World → Prop)
  (hJa : ∀ pre W W', J pre W → W.grownBy W' none → J pre W') (hY : ∀ pre x W, J pre W → pre.length < nch wd n → YieldAt Fence.wide m Tryz.prog l (encBox b o wd n x) W fun e W' => (e = .returned (.bool true) ∧ J (pre ++ [x]) W' ∧ But h B W W') ∨ (e = .returned (.bool false) ∧ Jx (pre ++ [x]) W'))
  (W : World) (h1 : W.cell? ⟨bs, 0, none⟩ = some (.slice (some ⟨b, o, none⟩) n c)) (h2 : W.cell? ⟨bn, 0, none⟩ = some (.int .i64 wd)) (h0 : J [] W) :
  CallsIn Fence.wide (m + 1) Tryz.prog 53 #[.func (.yield l) #[] #[], .pointer (some ⟨bs, 0, none⟩), .pointer (some ⟨bn, 0, none⟩)] W fun e W' => (∃ v, e = .returned v) ∧ ((∃ xs, xs.map Subtype.val = (List.range (nch wd n)).map (· * wd) ∧ J xs W') ∨ ∃ pre, True ∧ Jx pre W') := by
 have HY := Lib.hid hY
 have HJA := Lib.hid hJa
 clear hY hJa
 refine callsIn_of_wp Tryz.func53 rfl trivial ?_ rfl
 simp only [Tryz.ntmps53, List.size_toArray, List.length_cons, List.length_nil, Nat.reduceAdd, Nat.reduceSub, Array.replicate_succ, Array.replicate_zero, List.push_toArray, List.append_toArray, List.nil_append, List.cons_append]
 gi_wp2
 gi_loopw [4] (fun i wr => ∃ (j : Nat) (xs : List (Ix n)), i = .int .i64 (j * wd : Nat) ∧ j ≤ nch wd n ∧ xs.map Subtype.val = (List.range j).map (· * wd) ∧ J xs wr ∧ wr.cell? ⟨bs, 0, none⟩ = some (.slice (some ⟨b, o, none⟩) n c) ∧ wr.cell? ⟨bn, 0, none⟩ = some (.int .i64 wd)) (fun i _ => nch wd n * wd - (intOf i).toNat)
 case atStart => exact ⟨0, [], by simp, Nat.zero_le _, rfl, h0, h1, h2⟩
 case round =>
  obtain ⟨j, xs, rfl, hj, hxs, hJ, g1, g2⟩ := hrel
  clear h1 h2
  have HXS := Lib.hid hxs
  clear hxs
  have hle := Lib.hid (lt_nch (w := wd) (n := n) (j := j) hwd)
  have hjm : j * wd ≤ nch wd n * wd := Nat.mul_le_mul_right _ hj
  by_cases hlt : j < nch wd n
  ·
   have hlt' : j * wd < n := hle.out.1 hlt
   have hlen : xs.length < nch wd n := by have := congrArg List.length HXS.out; simp at this; omega
   have hs1 : (j + 1) * wd = j * wd + wd := by rw [Nat.add_mul, Nat.one_mul]
   have hjm2 : (j + 1) * wd ≤ nch wd n * wd := Nat.mul_le_mul_right _ (by omega)
   have HMS : Hid (j * wd + wd ≤ nch wd n * wd) := Lib.hid (by omega)
   have HS1 := Lib.hid hs1
   clear hs1
   generalize hi : j * wd = i at hlt' hjm HS1 HMS
   have HI := Lib.hid hi
   clear hi
   have h63 : n ≤ 9223372036854775807 := by omega
   rcases (show wd ≤ n - i ∨ n - i < wd from by omega) with hmn | hmn
   ·
    have hm1 : ¬ n - i < wd := by omega
    have hm2 : min wd (n - i) = wd := by omega
    have HM := Lib.hid hm2
    clear hm2
    gi_wp2
    refine wpIn_wide.2 ?_
    go_quiet (fail)
    rename_i nq _ _
    have hJ2 := HJA.out _ _ (wr.drewN nq) hJ (drewN_grown wr nq)
    obtain ⟨fn, tmps, assign, body, hy, hR⟩ := HY.out xs ⟨i, hlt'⟩ (wr.drewN nq) hJ2 hlen
    have HR := Lib.hid hR
    dsimp only [encBox] at hy
    simp only [HM.out] at hy
    clear hR
    gi_wp2
    refine RoundIn.mono HR.out ?_
    rintro e W3 (⟨rfl, hJ3, hb3⟩ | ⟨rfl, hJx3⟩)
    ·
     have q1 : W3.cell? ⟨bs, 0, none⟩ = some (.slice (some ⟨b, o, none⟩) n c) := by rw [hb3.cell hbs nbs, World.cell?_drewN]; exact g1
     have q2 : W3.cell? ⟨bn, 0, none⟩ = some (.int .i64 wd) := by rw [hb3.cell hbn nbn, World.cell?_drewN]; exact g2
     gi_wp2
     go_roundw
     case rel => exact ⟨j + 1, xs ++ [⟨i, hlt'⟩], by rw [HS1.out]; go_num, by omega, by rw [List.map_append, HXS.out, List.range_succ, List.map_append]; simp [HI.out], hJ3, q1, q2⟩
     case measure => (have hms := HMS.out; generalize nch wd n * wd = M at hms ⊢; simp [intOf]; omega)
    ·
     gi_wp2
     refine bodyPost_ret (results_none rfl _ _ _) rfl ?_
     exact ⟨⟨_, rfl⟩, .inr ⟨_, trivial, hJx3⟩⟩
   ·
    have hm1 : n - i < wd := by omega
    have hm2 : min wd (n - i) = n - i := by omega
    have HM := Lib.hid hm2
    clear hm2
    gi_wp2
    refine wpIn_wide.2 ?_
    go_quiet (fail)
    rename_i nq _ _
    have hJ2 := HJA.out _ _ (wr.drewN nq) hJ (drewN_grown wr nq)
    obtain ⟨fn, tmps, assign, body, hy, hR⟩ := HY.out xs ⟨i, hlt'⟩ (wr.drewN nq) hJ2 hlen
    have HR := Lib.hid hR
    dsimp only [encBox] at hy
    simp only [HM.out] at hy
    clear hR
    gi_wp2
    refine RoundIn.mono HR.out ?_
    rintro e W3 (⟨rfl, hJ3, hb3⟩ | ⟨rfl, hJx3⟩)
    ·
     have q1 : W3.cell? ⟨bs, 0, none⟩ = some (.slice (some ⟨b, o, none⟩) n c) := by rw [hb3.cell hbs nbs, World.cell?_drewN]; exact g1
     have q2 : W3.cell? ⟨bn, 0, none⟩ = some (.int .i64 wd) := by rw [hb3.cell hbn nbn, World.cell?_drewN]; exact g2
     gi_wp2
     go_roundw
     case rel => exact ⟨j + 1, xs ++ [⟨i, hlt'⟩], by rw [HS1.out]; go_num, by omega, by rw [List.map_append, HXS.out, List.range_succ, List.map_append]; simp [HI.out], hJ3, q1, q2⟩
     case measure => (have hms := HMS.out; generalize nch wd n * wd = M at hms ⊢; simp [intOf]; omega)
    ·
     gi_wp2
     refine bodyPost_ret (results_none rfl _ _ _) rfl ?_
     exact ⟨⟨_, rfl⟩, .inr ⟨_, trivial, hJx3⟩⟩
  ·
   have hge : n ≤ j * wd := by
    rcases Nat.lt_or_ge (j * wd) n with h | h
    ·
     exact absurd (hle.out.2 h) hlt
    ·
     exact h
   generalize hi : j * wd = i at hge
   gi_wp2
   go_end0
   have hjn : j = nch wd n := by omega
   exact ⟨⟨_, rfl⟩, .inl ⟨xs, by rw [HXS.out, hjn], hJ⟩⟩

theorem chunkBox4_stops (m bs bn h B b o wd n c : Nat) (hwd : 1 ≤ wd) (hw2 : wd ≤ 4096) (hn : n ≤ 1048576) (hc : n ≤ c) (hbs : bs < h) (hbn : bn < h) (nbs : bs ≠ B) (nbn : bn ≠ B) (w0 : World)
  (h1 : w0.cell? ⟨bs, 0, none⟩ = some (.slice (some ⟨b, o, none⟩) n c)) (h2 : w0.cell? ⟨bn, 0, none⟩ = some (.int .i64 wd)) :
  SeqStopsK Fence.wide (m + 1) Tryz.prog 53 #[.pointer (some ⟨bs, 0, none⟩), .pointer (some ⟨bn, 0, none⟩)] (encBox b o wd n) (But h B) (fun xs => xs.map Subtype.val = (List.range (nch wd n)).map (· * wd)) (fun _ => True) (nch wd n) w0 :=
 fun l J Jx W hW hJ _ hY h0 => chunkBox4_in m l bs bn h B b o wd n c hwd hw2 hn hc hbs hbn nbs nbn J Jx (fun pre A A' hj hg => hJ pre A A' none hj hg (fun r e => by cases e)) hY W (Ext.cell' hW h1) (Ext.cell' hW h2) h0

set_option maxRecDepth 100000 in
set_option maxHeartbeats 2000000 in
theorem chunk0_in (m l bs bn : Nat) (A : Option Addr) (c : Nat) (J Jx : List (Ix 0) → World → Prop)
  (W : World) (h1 : W.cell? ⟨bs, 0, none⟩ = some (.slice A 0 c)) (h2 : W.cell? ⟨bn, 0, none⟩ = some (.int .i64 4096)) (h0 : J [] W) :
  CallsIn Fence.wide (m + 1) Tryz.prog 53 #[.func (.yield l) #[] #[], .pointer (some ⟨bs, 0, none⟩), .pointer (some ⟨bn, 0, none⟩)] W fun e W' => (∃ v, e = .returned v) ∧ ((∃ xs, xs.map Subtype.val = (List.range 0).map (· * 4096) ∧ J xs W') ∨ ∃ pre, True ∧ Jx pre W') := by
 refine callsIn_of_wp Tryz.func53 rfl trivial ?_ rfl
 simp only [Tryz.ntmps53, List.size_toArray, List.length_cons, List.length_nil, Nat.reduceAdd, Nat.reduceSub, Array.replicate_succ, Array.replicate_zero, List.push_toArray, List.append_toArray, List.nil_append, List.cons_append]
 gi_wp2
 gi_loopw [4] (fun i wr => i = .int .i64 0 ∧ J [] wr ∧ wr.cell? ⟨bs, 0, none⟩ = some (.slice A 0 c) ∧ wr.cell? ⟨bn, 0, none⟩ = some (.int .i64 4096)) (fun i _ => 0)
 case atStart => exact ⟨rfl, h0, h1, h2⟩
 case round =>
  obtain ⟨rfl, hJ, g1, g2⟩ := hrel
  gi_wp2
  go_end0
  exact ⟨⟨_, rfl⟩, .inl ⟨[], rfl, hJ⟩⟩
theorem chunk0_stops (m bs bn h B b o : Nat) (A : Option Addr) (c : Nat) (w0 : World)
  (h1 : w0.cell? ⟨bs, 0, none⟩ = some (.slice A 0 c)) (h2 : w0.cell? ⟨bn, 0, none⟩ = some (.int .i64 4096)) :
  SeqStopsK Fence.wide (m + 1) Tryz.prog 53 #[.pointer (some ⟨bs, 0, none⟩), .pointer (some ⟨bn, 0, none⟩)] (encBox b o 4096 0) (But h B) (fun xs => xs.map Subtype.val = (List.range 0).map (· * 4096)) (fun _ => True) 0 w0 :=
 fun l J Jx W hW _ _ _ h0 => chunk0_in m l bs bn A c J Jx W (Ext.cell' hW h1) (Ext.cell' hW h2) h0

end Go.Proofs.YtdiaecgpjgdkdaaGreat
