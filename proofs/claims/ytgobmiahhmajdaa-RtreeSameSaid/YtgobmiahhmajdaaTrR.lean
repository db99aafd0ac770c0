/- The reference of packed trees: Build. -/
import Derived.Test.YtgobmiahhmajdaaTrQ
set_option linter.unusedSimpArgs false
set_option linter.unusedVariables false
namespace Go.Proofs.Ytgobmiahhmajdaa
open Go.RowKit


theorem alloc_agree2 {A B : World} {o1 o2 : Obj} {k : Nat} (hs : A.heap.size = B.heap.size) (h : A.heap[k]? = B.heap[k]?) (hk : k ≠ A.heap.size) : (A.alloc o1).heap[k]? = (B.alloc o2).heap[k]? := by
  show (A.heap.push o1)[k]? = (B.heap.push o2)[k]?
  rw [Array.getElem?_push, Array.getElem?_push, if_neg hk, if_neg (by omega), h]


set_option maxRecDepth 100000 in
set_option maxHeartbeats 8000000 in
theorem rbuild_any (A : Option Addr) (n c : Nat) (wd : Int) (L : List Bxs) (w : World) (hL : n = L.length) (hR : Rd w 5 A n (bxl L)) (hn : n ≤ 1048576) (hc : n ≤ c) :
    Calls Try.prog 11 #[.slice A n c, .int .i64 wd] w (RBuildP wd L w) := by
  subst hL
  have HC := Lib.hid (fun w h => rcheck_any A c wd L w h hn hc)
  have HE : Hid (errR wd L = errF wd L) := Lib.hid rfl
  rw [HE.out] at HC
  clear HE
  by_cases he : errF wd L = 0
  case neg =>
    have hcb : (errF wd L != 0) = true := by simp [he]
    have HN := Lib.hid he
    unfold RBuildP
    clear he
    generalize errF wd L = er at HC hcb HN ⊢
    go_enter Try.func11, Try.ntmps11
    go_wp2_with (go_at_call 33; refine (HC.out _ (hR.ext (by repeat (first | exact Ext.refl' _ | assumption | apply Ext.ex' | apply Ext.al | apply Ext.drN | apply Ext.dr)))).mono ?_; rintro e w1 ⟨rfl, hb1⟩; obtain ⟨y1, rfl⟩ := hb1.get; clear hb1)
    refine bodyPost_ret (v := .tuple #[treeg 0 none 0 0 ((0, 0), (0, 0)) (.slice none 0 0) (.slice none 0 0) 0, .int .i64 er]) ?_ rfl ⟨_, [], none, 0, rfl, (by repeat (first | exact Ext.refl' _ | assumption | apply Ext.ex' | apply Ext.al | apply Ext.drN | apply Ext.dr)), ⟨0, none, 0, ((0, 0), (0, 0)), .slice none 0 0, .slice none 0 0, rfl, by simp, Rd.nil, .inl ⟨rfl, rfl⟩, ⟨_, _, _, rfl⟩, _, _, _, rfl⟩, fun h => absurd h HN.out, fun _ => ⟨rfl, rfl, rfl⟩⟩
    simp [results, Try.results11, go_sem, ↓IntWalk.iteOmega]
  case pos =>
    have hw : 2 ≤ wd ∧ wd ≤ 64 ∧ L.length ≤ 4096 := by
      unfold errF at he
      split at he
      · cases he
      · split at he
        · cases he
        · omega
    have HER := Lib.hid he
    rw [he] at HC
    unfold RBuildP
    rw [he]
    clear he
    obtain ⟨k, rfl⟩ := Int.eq_ofNat_of_zero_le (show 0 ≤ wd by omega)
    have hk1 : 2 ≤ k := by omega
    have hk2 : k ≤ 64 := by omega
    have hL4 : L.length ≤ 4096 := by omega
    clear hw
    have HO := Lib.hid (fun w h => ordered_any A c L w h hn)
    have HSl : Hid ((ordF L).length = L.length) := Lib.hid (ordF_perm L).length_eq
    have HRT : Hid (rootF k L = if L = [] then (none, 0) else oneR (buildF k (ordF L))) := Lib.hid (rootF_eq k L)
    have htn : ((k : Nat) : Int).toNat = k := by omega
    rw [htn]
    clear htn
    generalize hS : ordF L = S at HO HSl HRT ⊢
    clear hS
    generalize rootF k L = RF at HRT ⊢
    have hSn : S.length ≤ 4096 := by have := HSl.out; omega
    rcases Nat.eq_zero_or_pos L.length with h0 | h0
    · obtain rfl : L = [] := List.eq_nil_of_length_eq_zero h0
      clear h0
      have hS0 : S = [] := List.eq_nil_of_length_eq_zero (by rw [HSl.out]; rfl)
      subst hS0
      have HR0 : Hid (RF = (none, 0)) := Lib.hid (by rw [HRT.out]; rfl)
      clear HRT
      go_enter Try.func11, Try.ntmps11
      go_wp2_with (first | (go_at_call 33; refine (HC.out _ (hR.ext (by repeat (first | exact Ext.refl' _ | assumption | apply Ext.ex' | apply Ext.al | apply Ext.drN | apply Ext.dr)))).mono ?_; rintro e w1 ⟨rfl, hb1⟩; obtain ⟨y1, rfl⟩ := hb1.get; clear hb1) | (go_at_call 34; refine (HO.out _ (hR.ext (by repeat (first | exact Ext.refl' _ | assumption | apply Ext.ex' | apply Ext.al | apply Ext.drN | apply Ext.dr)))).mono ?_; rintro e w1 ⟨A2, c2, rfl, hb1, hR2, hlo2, hn2, hc2⟩; obtain ⟨y2, rfl⟩ := hb1.get; clear hb1))
      refine bodyPost_ret (v := .tuple #[treeg k A2 0 c2 ((0, 0), (0, 0)) (.slice none 0 0) (.slice none 0 0) 0, .int .i64 0]) ?_ rfl ⟨_, [], none, 0, rfl, (by repeat (first | exact Ext.refl' _ | assumption | apply Ext.ex' | apply Ext.al | apply Ext.drN | apply Ext.dr)), ⟨k, A2, c2, ((0, 0), (0, 0)), .slice none 0 0, .slice none 0 0, rfl, by simp, ⟨rfl, fun h => by simp at h⟩, .inl ⟨rfl, rfl⟩, ⟨_, _, _, rfl⟩, _, _, _, rfl⟩, fun _ => by rw [HR0.out]; exact ⟨rfl, rfl, rfl⟩, fun h => absurd rfl h⟩
      simp [results, Try.results11, go_sem, ↓IntWalk.iteOmega]
    · have hS0 : 0 < S.length := by have := HSl.out; omega
      have HLN : Hid (L ≠ []) := Lib.hid (by intro h; rw [h] at h0; simp at h0)
      have hLz : ((L.length : Int) == 0) = false := by simp [HLN.out]
      have HR0 : Hid (RF = oneR (buildF k S)) := Lib.hid (by rw [HRT.out, if_neg HLN.out])
      clear HRT
      go_enter Try.func11, Try.ntmps11
      go_wp2_with (first | (go_at_call 33; refine (HC.out _ (hR.ext (by repeat (first | exact Ext.refl' _ | assumption | apply Ext.ex' | apply Ext.al | apply Ext.drN | apply Ext.dr)))).mono ?_; rintro e w1 ⟨rfl, hb1⟩; obtain ⟨y1, rfl⟩ := hb1.get; clear hb1) | (go_at_call 34; refine (HO.out _ (hR.ext (by repeat (first | exact Ext.refl' _ | assumption | apply Ext.ex' | apply Ext.al | apply Ext.drN | apply Ext.dr)))).mono ?_; rintro e w1 ⟨A2, c2, rfl, hb1, hR2, hlo2, hn2, hc2⟩; obtain ⟨y2, rfl⟩ := hb1.get; clear hb1))
      obtain ⟨g, o', rfl, hg, _⟩ := hR2.2 (by omega)
      have hlo := hlo2 _ rfl
      have hg2 : g < w.heap.size + 1 + y1.n + y2.n := by simpa using hg
      have hlo3 : w.heap.size + 1 + y1.n ≤ g := by simpa using hlo
      refine Calls.mono (rleaves_any g o' S.length c2 k (by omega) hk2 (by omega) (by omega) hn2 hc2 _ S (hR2.ext (by repeat (first | exact Ext.refl' _ | assumption | apply Ext.ex' | apply Ext.al | apply Ext.drN | apply Ext.dr))) rfl) ?_
      rintro e w4 ⟨A4, c4, css4, rfl, hb4, hc4, hc4', hX4⟩
      obtain ⟨x4, rfl⟩ := hb4.get
      clear hb4
      have hT1 : 1 ≤ (leavesF k S).length := by rw [leavesF_length]; exact nch_pos (by omega) (by omega)
      have hT2 : (leavesF k S).length ≤ S.length := by
        rw [leavesF_length]
        rcases Nat.lt_or_ge S.length (nch k S.length) with h | h
        · have := (lt_nch (w := k) (n := S.length) (j := S.length) (by omega)).1 h
          have h2 : S.length * 1 ≤ S.length * k := Nat.mul_le_mul_left _ (by omega)
          omega
        · exact h
      have HBF : Hid (buildF k S = topF k S.length (leavesF k S) 1) := Lib.hid rfl
      have HTE : Hid (topF k S.length (leavesF k S) 1 = topF k (leavesF k S).length (leavesF k S) 1) := Lib.hid (topF_eq k hk1 _ _ _ _ (by omega) (Nat.le_refl _))
      generalize leavesF k S = T0 at hX4 hc4 hT1 hT2 HBF HTE
      go_wp2_with fail
      go_loopw [8] (fun lv wr => ∃ (T : List Tr) (d : Nat) (di : Int) (A : Option Addr) (cc : Nat) (css : List (List Value)), lv = .slice A T.length cc ∧ 1 ≤ T.length ∧ T.length ≤ cc ∧ cc ≤ 9223372036854775807 ∧ d + T.length ≤ 1 + T0.length ∧ LvlR w.heap.size (w.heap.size + 1 + y1.n + y2.n) wr T A css ∧ Ext ((ext (ext (w.alloc (.cells #[.int .i64 0, .slice none 0 0, .int .i64 0, .int .i64 0, .int .i64 0, .int .i64 0, .slice none 0 0, .slice none 0 0, .int .i64 0] 36)) y1) y2).alloc (.cells #[.int .i64 k, .slice (some ⟨g, o', none⟩) S.length c2, .int .i64 0, .int .i64 0, .int .i64 0, .int .i64 0, .slice none 0 0, .slice none 0 0, .int .i64 di] 36)) wr ∧ Hid (di = (d : Nat)) ∧ Hid (topF k T0.length T0 1 = topF k T.length T d)) (fun lv _ => slLen lv)
      case atStart =>
        refine ⟨T0, 1, 1, A4, c4, css4, rfl, hT1, hc4, hc4', by omega, ?_, (by repeat (first | exact Ext.refl' _ | assumption | apply Ext.ex' | apply Ext.al | apply Ext.drN | apply Ext.dr)), Lib.hid rfl, Lib.hid rfl⟩
        intro X hX hag
        have hne : ∀ kk, kk ≠ w.heap.size → kk ≠ w.heap.size + 1 + y1.n + y2.n → kk < (ext ((ext (ext (w.alloc (.cells #[.int .i64 0, .slice none 0 0, .int .i64 0, .int .i64 0, .int .i64 0, .int .i64 0, .slice none 0 0, .slice none 0 0, .int .i64 0] 36)) y1) y2).alloc (.cells #[.int .i64 k, .slice (some ⟨g, o', none⟩) S.length c2, .int .i64 0, .int .i64 0, .int .i64 0, .int .i64 0, .slice none 0 0, .slice none 0 0, .int .i64 0] 36)) x4).heap.size → X.heap[kk]? = (ext ((ext (ext (w.alloc (.cells #[.int .i64 0, .slice none 0 0, .int .i64 0, .int .i64 0, .int .i64 0, .int .i64 0, .slice none 0 0, .slice none 0 0, .int .i64 0] 36)) y1) y2).alloc (.cells #[.int .i64 k, .slice (some ⟨g, o', none⟩) S.length c2, .int .i64 0, .int .i64 0, .int .i64 0, .int .i64 0, .slice none 0 0, .slice none 0 0, .int .i64 0] 36)) x4).heap[kk]? := fun kk h0 h1 h2 =>
          (hag kk (by simpa using h2) h0 h1).trans (ext_agree (by simp) (alloc_agree2 (by simp) (ext_agree (by simp) (ext_agree (by simp) (alloc_agree (by simpa using h0)))) (by simpa using h1)))
        refine hX4 X (by simpa using hX) (fun kk h1 h2 => hne kk (by simp at h1; omega) (by simp at h1; omega) h2) ?_
        refine hR2.agree fun b o hA hb => ?_
        simp only [Option.some.injEq, Addr.mk.injEq, and_true] at hA
        obtain ⟨rfl, rfl⟩ := hA
        refine ⟨by simp at hX; omega, (hne g (by omega) (by omega) (by simp; omega)).trans ((block_ext _ _ _ (by simp; omega)).trans ?_)⟩
        exact (Ext.al1 _ _).block _ hg
      case round =>
        obtain ⟨T, d, di, A5, c5, css5, rfl, hl1, hc5, hc5', hd, hlv, hE5, HDI, HC5⟩ := hrel
        obtain ⟨x5, rfl⟩ := hE5.get
        clear hE5 hX4
        obtain ⟨hR5, hT5⟩ := hlv _ (Nat.le_refl _) (fun _ _ _ _ => rfl)
        obtain ⟨b5, o5, rfl, hb5, hcell5⟩ := hR5.2 (by omega)
        have hdi : 0 ≤ di ∧ di ≤ 1048578 := by have := HDI.out; omega
        by_cases hlt : 1 < T.length
        · have HAB := Lib.hid (rabove_any b5 o5 T.length c5 k (by omega) hk2 hl1 (by omega) hc5 hc5' _ T css5 hR5 rfl hT5)
          have hlen := aboveF_length k T
          have hnl := nch_lt hk1 (n := T.length) hlt
          have hnp := nch_pos (w := k) (n := T.length) (by omega) hl1
          have HST := Lib.hid (topF_step hk1 (l := T) (d := d) hlt)
          have HLEN := Lib.hid hlen
          clear hlen hcell5
          generalize aboveF k T = T6 at HAB HST HLEN
          go_wp2_with fail
          refine Calls.mono HAB.out ?_
          rintro e w6 ⟨A6, c6, css6, rfl, hb6, hc6, hc6', hX6⟩
          obtain ⟨x6, rfl⟩ := hb6.get
          clear hb6
          go_wp2_with fail
          go_roundw
          case rel =>
            have hl6 := HLEN.out
            refine ⟨T6, d + 1, di + 1, A6, c6, css6, rfl, by omega, hc6, hc6', by omega, ?_, (by repeat (first | exact Ext.refl' _ | assumption | apply Ext.ex' | apply Ext.al | apply Ext.drN | apply Ext.dr)), Lib.hid (by rw [HDI.out]; omega), Lib.hid (by rw [HC5.out, HST.out])⟩
            intro X hX hag
            have hne : ∀ kk, kk ≠ w.heap.size → kk ≠ w.heap.size + 1 + y1.n + y2.n → kk < (ext (ext ((ext (ext (w.alloc (.cells #[.int .i64 0, .slice none 0 0, .int .i64 0, .int .i64 0, .int .i64 0, .int .i64 0, .slice none 0 0, .slice none 0 0, .int .i64 0] 36)) y1) y2).alloc (.cells #[.int .i64 k, .slice (some ⟨g, o', none⟩) S.length c2, .int .i64 0, .int .i64 0, .int .i64 0, .int .i64 0, .slice none 0 0, .slice none 0 0, .int .i64 di] 36)) x5) x6).heap.size → X.heap[kk]? = (ext (ext ((ext (ext (w.alloc (.cells #[.int .i64 0, .slice none 0 0, .int .i64 0, .int .i64 0, .int .i64 0, .int .i64 0, .slice none 0 0, .slice none 0 0, .int .i64 0] 36)) y1) y2).alloc (.cells #[.int .i64 k, .slice (some ⟨g, o', none⟩) S.length c2, .int .i64 0, .int .i64 0, .int .i64 0, .int .i64 0, .slice none 0 0, .slice none 0 0, .int .i64 di] 36)) x5) x6).heap[kk]? := fun kk h0 h1 h2 =>
              (hag kk (by simpa using h2) h0 h1).trans (ext_agree (by simp) (ext_agree (by simp) (alloc_agree2 (by simp) (ext_agree (by simp) (ext_agree (by simp) (alloc_agree (by simpa using h0)))) (by simpa using h1))))
            refine hX6 X (by simpa using hX) (fun kk h1 h2 => hne kk (by simp at h1; omega) (by simp at h1; omega) h2) ?_
            exact hlv X (by simp at hX ⊢; omega) fun kk h1 h0 h2 => (hne kk h0 h2 (by rw [size_ext]; omega)).trans (block_ext _ _ _ h1)
          case measure => (have hl6 := HLEN.out; simp [slLen]; omega)
        · have HTL := Lib.hid (show T.length = 1 by omega)
          have HTF := Lib.hid (topF_end (w := k) (d := d) hlt)
          obtain ⟨hcl, hgt⟩ := RMs.get hT5
          obtain ⟨cs, q1, q2, q3⟩ := hgt 0 (by omega)
          obtain ⟨Ab, cb, A', c', css', rfl, _⟩ := q2.form
          have g0 := hcell5 _ _ (q3 0 (by decide))
          have g1 := hcell5 _ _ (q3 1 (by decide))
          have g2 := hcell5 _ _ (q3 2 (by decide))
          have g3 := hcell5 _ _ (q3 3 (by decide))
          have g4 := hcell5 _ _ (q3 4 (by decide))
          have g5 := hcell5 _ _ (q3 5 (by decide))
          simp only [Nat.zero_mul, Nat.zero_add, Nat.add_zero] at g0 g1 g2 g3 g4 g5
          have HLV := Lib.hid hlv
          have HQ1 := Lib.hid q1
          have HCL := Lib.hid hcl
          have hroot : RF = (some (T[0]'(by omega)), d) := by
            rw [HR0.out, HBF.out, HTE.out, HC5.out, HTF.out]
            exact one_root T d _ HTL.out
          have HRO := Lib.hid hroot
          clear hroot hlv q1 q2 q3 hgt hcl hcell5 hT5 hR5
          generalize hbl : (T[0]'(by omega)).bs.length = nb at g4 HQ1
          generalize hkl : (T[0]'(by omega)).ks.length = nk at g5 HQ1
          clear hbl hkl
          generalize htr : (T[0]'(by omega)).r = tr at g0 g1 g2 g3 HQ1
          clear htr
          have HKEY : Hid (∀ X : World, (ext ((ext (ext (w.alloc (.cells #[.int .i64 0, .slice none 0 0, .int .i64 0, .int .i64 0, .int .i64 0, .int .i64 0, .slice none 0 0, .slice none 0 0, .int .i64 0] 36)) y1) y2).alloc (.cells #[.int .i64 k, .slice (some ⟨g, o', none⟩) S.length c2, .int .i64 0, .int .i64 0, .int .i64 0, .int .i64 0, .slice none 0 0, .slice none 0 0, .int .i64 di] 36)) x5).heap.size ≤ X.heap.size → (∀ kk, kk < (ext ((ext (ext (w.alloc (.cells #[.int .i64 0, .slice none 0 0, .int .i64 0, .int .i64 0, .int .i64 0, .int .i64 0, .slice none 0 0, .slice none 0 0, .int .i64 0] 36)) y1) y2).alloc (.cells #[.int .i64 k, .slice (some ⟨g, o', none⟩) S.length c2, .int .i64 0, .int .i64 0, .int .i64 0, .int .i64 0, .slice none 0 0, .slice none 0 0, .int .i64 di] 36)) x5).heap.size → kk ≠ w.heap.size → kk ≠ w.heap.size + 1 + y1.n + y2.n → X.heap[kk]? = (ext ((ext (ext (w.alloc (.cells #[.int .i64 0, .slice none 0 0, .int .i64 0, .int .i64 0, .int .i64 0, .int .i64 0, .slice none 0 0, .slice none 0 0, .int .i64 0] 36)) y1) y2).alloc (.cells #[.int .i64 k, .slice (some ⟨g, o', none⟩) S.length c2, .int .i64 0, .int .i64 0, .int .i64 0, .int .i64 0, .slice none 0 0, .slice none 0 0, .int .i64 di] 36)) x5).heap[kk]?) → RM X (T[0]'(by omega)) (nodc tr (.slice Ab nb cb) (.slice A' nk c'))) := Lib.hid (fun X h1 h2 => by
            obtain ⟨_, hXT⟩ := HLV.out X h1 h2
            obtain ⟨_, hg2'⟩ := RMs.get hXT
            obtain ⟨cs2, p1, p2, _⟩ := hg2' 0 (by omega)
            rw [HQ1.out] at p1
            cases p1
            exact p2)
          clear HLV HQ1 HCL
          go_wp2_with fail
          refine bodyPost_ret (v := .tuple #[treeg k (some ⟨g, o', none⟩) S.length c2 tr (.slice Ab nb cb) (.slice A' nk c') di, .int .i64 0]) ?_ rfl ⟨_, S, some (T[0]'(by omega)), di, rfl, (by repeat (first | exact Ext.refl' _ | assumption | apply Ext.ex' | apply Ext.al | apply Ext.drN | apply Ext.dr)), ⟨k, _, c2, tr, _, _, rfl, by omega, ?_, .inr ⟨_, rfl, by intro h; rw [h] at hS0; simp at hS0, ?_⟩, ⟨_, _, _, rfl⟩, _, _, _, rfl⟩, fun _ => ⟨rfl, by rw [HRO.out], by rw [HRO.out]; exact HDI.out⟩, fun h => absurd rfl h⟩
          · simp [results, Try.results11, go_sem, ↓IntWalk.iteOmega]
          · refine hR2.agree fun b o hA hb => ?_
            simp only [Option.some.injEq, Addr.mk.injEq, and_true] at hA
            obtain ⟨rfl, rfl⟩ := hA
            refine ⟨by simp; omega, (block_ext _ _ _ (by simp; omega)).trans (((Ext.al1 _ _).block _ (by simpa using hg)).trans ?_)⟩
            exact ext_agree (by simp) (ext_agree (by simp) (alloc_agree (by omega)))
          · exact HKEY.out _ (Nat.le_of_eq (by simp)) (fun kk h2 h0 h1 => ext_agree (by simp) (alloc_agree2 (by simp) (ext_agree (by simp) (ext_agree (by simp) (alloc_agree (by simpa using h0)))) (by simpa using h1)))

end Go.Proofs.Ytgobmiahhmajdaa
