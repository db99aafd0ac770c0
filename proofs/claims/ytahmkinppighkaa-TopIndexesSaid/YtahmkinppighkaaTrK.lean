/- Packed trees: Build of the program. -/
import Derived.Test.YtahmkinppighkaaTrJ
set_option linter.unusedSimpArgs false
set_option linter.unusedVariables false
namespace Go.Proofs.Ytahmkinppighkaa
open Go.RowKit


def errF (wd : Int) (L : List Bxs) : Int := if wd < 2 ∨ 64 < wd then 6 else if 4096 < L.length then 5 else chkF [] L
def rootF (wd : Nat) (L : List Bxs) : Option Tr × Nat := if L = [] then (none, 0) else match buildF wd (ordF L) with | ([t], d) => (some t, d) | _ => (none, 0)
/-- how Build ends -/
def BuildP (wd : Int) (L : List Bxs) (w : World) (e : Ending) (w' : World) : Prop :=
  Ext w w' ∧ ((errF wd L ≠ 0 ∧ e = .returned (.tuple #[.pointer none, .int .i64 (errF wd L)])) ∨ (errF wd L = 0 ∧ ∃ b, e = .returned (.tuple #[.pointer (some ⟨b, 0, none⟩), .int .i64 0]) ∧ TreeH w' (some ⟨b, 0, none⟩) (rootF wd.toNat L).1 (L.length : Nat) ((rootF wd.toNat L).2 : Nat)))
theorem sortedX {S L : List Bxs} (hp : S.Perm L) (hs : S.Pairwise (fun a b => ltB b a = false)) (hn : L.Nodup) : S = ordF L := by
  refine sorted_unique ?_ (ordF_sorted hn) (hp.trans (ordF_perm L).symm)
  have hn' := (hp.nodup_iff).2 hn
  refine (List.pairwise_and_iff.2 ⟨hs, hn'⟩).imp fun {a b} h => ?_
  obtain ⟨h1, h2⟩ := h
  simp only [ltB, decide_eq_false_iff_not] at h1
  rcases ltX_tri a b with h | h | h
  · exact h
  · exact absurd h h2
  · exact absurd h h1
/-- a level that reads so in every world which holds what this one holds, block b7 apart -/
def Lvl (b7 : Nat) (W : World) (T : List Tr) (A : Option Addr) (ps : List Nat) : Prop :=
  ∀ X : World, W.heap.size ≤ X.heap.size → (∀ k, k < W.heap.size → k ≠ b7 → X.heap[k]? = W.heap[k]?) → Rd X 1 A T.length (ptc ps) ∧ TMs X T ps
def slLen : Value → Nat | .slice _ n _ => n | _ => 0
theorem ext_agree {A B : World} {x : Add} {k : Nat} (hs : A.heap.size = B.heap.size) (h : A.heap[k]? = B.heap[k]?) : (ext A x).heap[k]? = (ext B x).heap[k]? := by
  show (A.heap ++ x.objs)[k]? = (B.heap ++ x.objs)[k]?
  rw [Array.getElem?_append, Array.getElem?_append, hs, h]
theorem alloc_agree {V : World} {o1 o2 : Obj} {k : Nat} (h : k ≠ V.heap.size) : (V.alloc o1).heap[k]? = (V.alloc o2).heap[k]? := by
  show (V.heap.push o1)[k]? = (V.heap.push o2)[k]?
  rw [Array.getElem?_push, Array.getElem?_push, if_neg h, if_neg h]
theorem levS (T : List Tr) (A : Option Addr) (c : Nat) (ps : List Nat) {w : World} (hR : Rd w 1 A T.length (ptc ps)) (h : 1 ≤ T.length) : ∃ b o, A = some ⟨b, o, none⟩ ∧ b < w.heap.size := by
  obtain ⟨b, o, hA, hb, _⟩ := hR.2 (by omega)
  exact ⟨b, o, hA, hb⟩


set_option maxRecDepth 100000 in
set_option maxHeartbeats 8000000 in
theorem build_any (A : Option Addr) (n c : Nat) (wd : Int) (L : List Bxs) (w : World) (hL : n = L.length) (hR : Rd w 5 A n (bxl L)) (hn : n ≤ 1048576) (hc : n ≤ c) (hwf : ∀ b ∈ L, (Lit.int .i64 b.2).wf = true) :
    Calls Try.prog 17 #[.slice A n c, .int .i64 wd] w (BuildP wd L w) := by
  by_cases h1 : wd < 2 ∨ 64 < wd
  · have HE : Hid (errF wd L = 6) := Lib.hid (by simp [errF, h1])
    rcases (show wd < 2 ∨ (2 ≤ wd ∧ 64 < wd) from by omega) with h2 | ⟨h2, h3⟩
    all_goals
      clear h1
      go_enter Try.func17, Try.ntmps17
      go_wp2
      go_ret2
      exact ⟨by repeat (first | exact Ext.refl' _ | assumption | apply Ext.ex' | apply Ext.al | apply Ext.drN | apply Ext.dr), .inl ⟨by rw [HE.out]; decide, by rw [HE.out]; rfl⟩⟩
  · have hw1 : 2 ≤ wd := by omega
    have hw2 : wd ≤ 64 := by omega
    obtain ⟨k, rfl⟩ := Int.eq_ofNat_of_zero_le (show 0 ≤ wd by omega)
    have hk1 : 2 ≤ k := by omega
    have hk2 : k ≤ 64 := by omega
    clear hw1 hw2
    have HL := Lib.hid hL
    clear hL
    by_cases hbig : 4096 < n
    · have HE : Hid (errF (k : Nat) L = 5) := Lib.hid (by unfold errF; rw [if_neg h1, if_pos (by have := HL.out; omega)])
      clear h1
      go_enter Try.func17, Try.ntmps17
      go_wp2
      go_ret2
      exact ⟨by repeat (first | exact Ext.refl' _ | assumption | apply Ext.ex' | apply Ext.al | apply Ext.drN | apply Ext.dr), .inl ⟨by rw [HE.out]; decide, by rw [HE.out]; rfl⟩⟩
    · have HE0 : Hid (errF (k : Nat) L = chkF [] L) := Lib.hid (by unfold errF; rw [if_neg h1, if_neg (by have := HL.out; omega)])
      clear h1
      have HC := Lib.hid (fun w h => check_any A n c L w HL.out h hn hwf)
      have HCK := Lib.hid (fun h => @chk_ok L [] h)
      by_cases hch : chkF [] L = 0
      case neg =>
        have hcb : (chkF [] L != 0) = true := by simp [hch]
        have HN := Lib.hid hch
        clear hch HCK
        generalize chkF [] L = e0 at HC HE0 hcb HN
        go_enter Try.func17, Try.ntmps17
        go_wp2_with (go_at_call 38; refine (HC.out _ hR).mono ?_; rintro e w1 ⟨rfl, hb1⟩)
        go_ret2
        exact ⟨hb1, .inl ⟨by rw [HE0.out]; exact HN.out, by rw [HE0.out]; rfl⟩⟩
      case pos =>
        obtain ⟨hval, _, hnd⟩ := HCK.out hch
        rw [hch] at HC HE0
        have HVL := Lib.hid hval
        have HND := Lib.hid (nodup_of_ids hnd)
        clear hval hnd HCK hch
        rcases Nat.eq_zero_or_pos n with h0 | h0
        · subst h0
          have HRF : Hid (rootF k L = (none, 0)) := Lib.hid (by unfold rootF; rw [if_pos (List.eq_nil_of_length_eq_zero HL.out.symm)])
          go_enter Try.func17, Try.ntmps17
          go_wp2_with (go_at_call 38; refine (HC.out _ hR).mono ?_; rintro e w1 ⟨rfl, hb1⟩; obtain ⟨y, rfl⟩ := hb1.get; clear hb1)
          go_ret2
          refine ⟨by repeat (first | exact Ext.refl' _ | assumption | apply Ext.ex' | apply Ext.al | apply Ext.drN | apply Ext.dr), .inr ⟨HE0.out, _, rfl, .inr ⟨_, rfl, by simp, ?_, ?_, .inl ⟨by rw [show ((k : Nat) : Int).toNat = k from by omega, HRF.out], ?_⟩⟩⟩⟩
          · rw [← HL.out]; simp [go_sem, ↓IntWalk.iteOmega]
          · rw [show ((k : Nat) : Int).toNat = k from by omega, HRF.out]; simp [go_sem, ↓IntWalk.iteOmega]
          · simp [go_sem, ↓IntWalk.iteOmega]
        · obtain ⟨b0, o0, rfl, hb0, _⟩ := hR.2 (by omega)
          have hn1 : n ≤ 1048576 := hn
          have hne : n ≠ 0 := by omega
          go_enter Try.func17, Try.ntmps17
          go_wp2_with (go_at_call 38; refine (HC.out _ hR).mono ?_; rintro e w1 ⟨rfl, hb1⟩; obtain ⟨y, rfl⟩ := hb1.get; clear hb1)
          refine Calls.mono (cloneX b0 o0 n c L _ HL.out (hR.ext (by repeat (first | exact Ext.refl' _ | assumption | apply Ext.ex' | apply Ext.al | apply Ext.drN | apply Ext.dr))) hn (by omega)) ?_
          rintro e w2 ⟨v2, x2, rfl, rfl, ho2⟩
          obtain ⟨A2, c2, rfl, hnc2, _⟩ := Own.form ho2
          go_wp2_with fail
          have hs := sortX _ x2 A2 c2 L (by rw [← HL.out]; exact ho2) (by have := HL.out; omega)
          rw [← HL.out] at hs
          refine Calls.mono hs ?_
          clear hs ho2
          rintro e w3 ⟨rfl, x3, S, rfl, hperm, hsort, ho3⟩
          have HS := Lib.hid (sortedX hperm hsort HND.out)
          have hSl : S.length = n := by rw [hperm.length_eq, ← HL.out]
          have HSV : Hid (∀ x ∈ S, rvB x.1 = true) := Lib.hid (fun x hx => HVL.out x (hperm.mem_iff.1 hx))
          clear hperm hsort
          go_wp2_with fail
          have hRS := Rd.of_own ho3
          obtain ⟨g, o', rfl, hg, _⟩ := hRS.2 (by omega)
          have hgb := (ho3.lt g rfl).1
          refine Calls.mono (leaves_any g o' n c2 k (by omega) hk2 (by omega) hn hnc2 _ S hRS hSl.symm) ?_
          rintro e w4 ⟨A4, c4, ps4, rfl, hb4, hc4, hX4⟩
          obtain ⟨x4, rfl⟩ := hb4.get
          clear hb4
          have hT1 : 1 ≤ (leavesF k S).length := by rw [leavesF_length]; exact nch_pos (by omega) (by omega)
          have hT2 : (leavesF k S).length ≤ n := by
            rw [leavesF_length, hSl]
            rcases Nat.lt_or_ge n (nch k n) with h | h
            · have := (lt_nch (w := k) (n := n) (j := n) (by omega)).1 h
              have h2 : n * 1 ≤ n * k := Nat.mul_le_mul_left _ (by omega)
              omega
            · exact h
          have HBF : Hid (buildF k S = topF k S.length (leavesF k S) 1) := Lib.hid rfl
          have HTE : Hid (topF k S.length (leavesF k S) 1 = topF k (leavesF k S).length (leavesF k S) 1) := Lib.hid (topF_eq k hk1 _ _ _ _ (by omega) (Nat.le_refl _))
          generalize leavesF k S = T0 at hX4 hc4 hT1 hT2 HBF HTE
          go_wp2_with fail
          go_loopw [9] (fun lv wr => ∃ (T : List Tr) (d : Nat) (di : Int) (A : Option Addr) (cc : Nat) (ps : List Nat), lv = .slice A T.length cc ∧ 1 ≤ T.length ∧ T.length ≤ cc ∧ d + T.length ≤ 1 + T0.length ∧ Lvl (w.heap.size + y.n) wr T A ps ∧ Ext ((ext w y).alloc (.cells #[.pointer none, .int .i64 n, .int .i64 di] 86)) wr ∧ Hid (di = (d : Nat)) ∧ Hid (topF k T0.length T0 1 = topF k T.length T d)) (fun lv _ => slLen lv)
          case atStart =>
            refine ⟨T0, 1, 1, A4, c4, ps4, rfl, hT1, hc4, by omega, ?_, (by repeat (first | exact Ext.refl' _ | assumption | apply Ext.ex' | apply Ext.al | apply Ext.drN | apply Ext.dr)), Lib.hid rfl, Lib.hid rfl⟩
            intro X hX hag
            have hne : ∀ kk, kk ≠ w.heap.size + y.n → kk < (ext (ext ((ext w y).alloc (.cells #[.pointer none, .int .i64 n, .int .i64 0] 86)) x3) x4).heap.size → X.heap[kk]? = (ext (ext ((ext w y).alloc (.cells #[.pointer none, .int .i64 n, .int .i64 0] 86)) x3) x4).heap[kk]? := fun kk h1 h2 =>
              (hag kk (by simpa using h2) h1).trans (ext_agree (by simp) (ext_agree (by simp) (alloc_agree (by simpa using h1))))
            have hgw : g < (ext ((ext w y).alloc (.cells #[.pointer none, .int .i64 n, .int .i64 0] 86)) x3).heap.size := hg
            have hgb' : w.heap.size + y.n + 1 ≤ g := by simpa using hgb
            refine hX4 X (by simpa using hX) (fun kk h1 h2 => hne kk (by simp at h1; omega) h2) ?_
            refine hRS.agree fun b o hA hb => ?_
            simp only [Option.some.injEq, Addr.mk.injEq, and_true] at hA
            obtain ⟨rfl, rfl⟩ := hA
            refine ⟨by simp at hX hgw; omega, (hne g (by omega) (by rw [size_ext]; omega)).trans (block_ext _ _ _ hgw)⟩
          case round =>
            obtain ⟨T, d, di, A5, c5, ps5, rfl, hl1, hc5, hd, hlv, hE5, HDI, HC5⟩ := hrel
            obtain ⟨x5, rfl⟩ := hE5.get
            clear hE5 hX4 hRS ho3
            obtain ⟨hR5, hT5⟩ := hlv _ (Nat.le_refl _) (fun _ _ _ => rfl)
            obtain ⟨b5, o5, rfl, hb5, _⟩ := hR5.2 (by omega)
            have hdi : 0 ≤ di ∧ di ≤ 1048578 := by have := HDI.out; omega
            by_cases hlt : 1 < T.length
            · have HAB := Lib.hid (above_any b5 o5 T.length c5 k (by omega) hk2 hl1 (by omega) hc5 _ T ps5 hR5 rfl hT5)
              have hlen := aboveF_length k T
              have hnl := nch_lt hk1 (n := T.length) hlt
              have hnp := nch_pos (w := k) (n := T.length) (by omega) hl1
              have HST := Lib.hid (topF_step hk1 (l := T) (d := d) hlt)
              have HLEN := Lib.hid hlen
              clear hlen
              generalize aboveF k T = T6 at HAB HST HLEN
              go_wp2_with fail
              refine Calls.mono HAB.out ?_
              rintro e w6 ⟨A6, c6, ps6, rfl, hb6, hc6, hX6⟩
              obtain ⟨x6, rfl⟩ := hb6.get
              clear hb6
              go_wp2_with fail
              go_roundw
              case rel =>
                have hl6 := HLEN.out
                refine ⟨T6, d + 1, di + 1, A6, c6, ps6, rfl, by omega, hc6, by omega, ?_, (by repeat (first | exact Ext.refl' _ | assumption | apply Ext.ex' | apply Ext.al | apply Ext.drN | apply Ext.dr)), Lib.hid (by rw [HDI.out]; omega), Lib.hid (by rw [HC5.out, HST.out])⟩
                intro X hX hag
                have hne : ∀ kk, kk ≠ w.heap.size + y.n → kk < (ext (ext ((ext w y).alloc (.cells #[.pointer none, .int .i64 n, .int .i64 di] 86)) x5) x6).heap.size → X.heap[kk]? = (ext (ext ((ext w y).alloc (.cells #[.pointer none, .int .i64 n, .int .i64 di] 86)) x5) x6).heap[kk]? := fun kk h1 h2 =>
                  (hag kk (by simpa using h2) h1).trans (ext_agree (by simp) (ext_agree (by simp) (alloc_agree (by simpa using h1))))
                refine hX6 X (by simpa using hX) (fun kk h1 h2 => hne kk (by simp at h1; omega) h2) ?_
                exact hlv X (by simp at hX ⊢; omega) fun kk h1 h2 => (hne kk h2 (by rw [size_ext]; omega)).trans (block_ext _ _ _ h1)
              case measure => (have hl6 := HLEN.out; simp [slLen]; omega)
            · have hpl := (TMs.get hT5).1
              have hp0 : 0 < ps5.length := by omega
              obtain ⟨b', o', he, _, hcp⟩ := hR5.ptr (k := 0) hp0
              simp only [Option.some.injEq, Addr.mk.injEq, and_true] at he
              obtain ⟨rfl, rfl⟩ := he
              simp only [Nat.add_zero] at hcp
              have hT1' : T.length = 1 := by omega
              have HTL := Lib.hid hT1'
              have HTF := Lib.hid (topF_end (w := k) (d := d) hlt)
              have HPL := Lib.hid hpl
              clear hT1' hpl
              generalize hpp : ps5[0] = p at hcp
              have HPP := Lib.hid hpp
              clear hpp
              go_wp2_with fail
              go_ret2
              refine ⟨(by repeat (first | exact Ext.refl' _ | assumption | apply Ext.ex' | apply Ext.al | apply Ext.drN | apply Ext.dr)), .inr ⟨HE0.out, _, rfl, .inr ⟨w.heap.size + y.n, rfl, by simp; omega, ?_, ?_, .inr ?_⟩⟩⟩
              · rw [← HL.out]; simp [go_sem, ↓IntWalk.iteOmega]
              · have hroot : rootF k L = (some T[0], d) := by
                  unfold rootF
                  rw [if_neg (by intro h; have := HL.out; rw [h] at this; simp at this; omega), ← HS.out, HBF.out, HTE.out, HC5.out, HTF.out]
                  match T, HTL.out with
                  | [t], _ => rfl
                rw [show ((k : Nat) : Int).toNat = k from by omega, hroot, ← HDI.out]; simp [go_sem, ↓IntWalk.iteOmega]
              · have hroot : rootF k L = (some T[0], d) := by
                  unfold rootF
                  rw [if_neg (by intro h; have := HL.out; rw [h] at this; simp at this; omega), ← HS.out, HBF.out, HTE.out, HC5.out, HTF.out]
                  match T, HTL.out with
                  | [t], _ => rfl
                refine ⟨T[0], p, by rw [show ((k : Nat) : Int).toNat = k from by omega, hroot], by simp [go_sem, ↓IntWalk.iteOmega], ?_⟩
                have hfin := hlv (ext ((ext w y).alloc (.cells #[pt p, .int .i64 n, .int .i64 di] 86)) x5) (by simp) (fun kk h1 h2 => ext_agree (by simp) (alloc_agree (by simpa using h2)))
                rw [← HPP.out]
                have := (TMs.get hfin.2).2 0 (by omega) hp0
                rw [← HPP.out] at this
                exact this

end Go.Proofs.Ytahmkinppighkaa
