/- The pairs of a tree from a pair on: visit. -/
import Derived.Test.YtdmbgimehepfaaaBtD
import Derived.Deep.RegionHeld3
set_option linter.unusedSimpArgs false
set_option linter.unusedVariables false
namespace Go.Proofs.Ytdmbgimehepfaaa
open Go.RowKit


/-- only blocks of M turn -/
structure Trn (M : Nat → TypeId → Prop) (W W' : World) : Prop where
  os : W'.os = W.os
  tape : W'.tape = W.tape
  output : W'.output = W.output
  size : W.heap.size ≤ W'.heap.size
  same : ∀ b, b < W.heap.size → (∀ c ty f, W.heap[b]? = some (.cells c ty f) → ¬ M b ty) → W'.heap[b]? = W.heap[b]?
section
variable {M : Nat → TypeId → Prop} {w W W' W'' : World}
theorem Trn.ofExt (h : Ext W W') : Trn M W W' := ⟨h.os, h.tape, h.output, h.size, fun b hb _ => h.block b hb⟩
theorem Trn.refl : Trn M W W := Trn.ofExt (Ext.refl' _)
theorem Trn.trans (h : Trn M W W') (k : Trn M W' W'') : Trn M W W'' :=
  ⟨k.os.trans h.os, k.tape.trans h.tape, k.output.trans h.output, Nat.le_trans h.size k.size, fun b hb hn => by
    have e := h.same b hb hn
    exact (k.same b (Nat.lt_of_lt_of_le hb h.size) (fun c ty f hc => hn c ty f (e ▸ hc))).trans e⟩
theorem Trn.block (h : Trn M W W') {b : Nat} {c : Array Value} {ty : TypeId} {f : Nat × Nat} (hb : W.heap[b]? = some (.cells c ty f)) (hn : ¬ M b ty) : W'.heap[b]? = some (.cells c ty f) :=
  (h.same b (Array.getElem?_eq_some_iff.1 hb).1 (fun c' ty' f' e => by rw [hb] at e; simp at e; rw [← e.2.1]; exact hn)).trans hb
theorem Trn.ext (h : Trn M W W') (e : Ext w W) (hM : ∀ b ty, M b ty → w.heap.size ≤ b) : Ext w W' :=
  ⟨h.os.trans e.os, h.tape.trans e.tape, h.output.trans e.output, Nat.le_trans e.size h.size, fun b hb => (h.same b (Nat.lt_of_lt_of_le hb e.size) (fun c ty f _ hm => by have := hM b ty hm; omega)).trans (e.block b hb)⟩
end
/-- the pairs from p on -/
def geB (p : Kp) (q : MP) : Bool := !decide (cmpP q.kp p < 0)
theorem geB_true {p : Kp} {q : MP} (h : ¬ ltP q.kp p) : geB p q = true := by unfold geB; rw [decide_eq_false (fun e => h (cmpP_lt.1 e))]; rfl
theorem geB_false {p : Kp} {q : MP} (h : ltP q.kp p) : geB p q = false := by unfold geB; rw [decide_eq_true (cmpP_lt.2 h)]; rfl
/-- how a visit ends: all of L was told, or one of it said no -/
def VQ (cont : MP → Bool) (I : List MP → World → Prop) (ds L : List MP) (b : Bool) (W : World) : Prop :=
  (b = true ∧ (∀ q ∈ L, cont q = true) ∧ I (ds ++ L) W) ∨ (b = false ∧ ∃ A q B, L = A ++ q :: B ∧ (∀ x ∈ A, cont x = true) ∧ cont q = false ∧ I (ds ++ (A ++ [q])) W)
def VisP (M : Nat → TypeId → Prop) (cont : MP → Bool) (I : List MP → World → Prop) (W : World) (ds L : List MP) (e : Ending) (W' : World) : Prop := ∃ b, e = .returned (.bool b) ∧ Trn M W W' ∧ VQ cont I ds L b W'
theorem VisP.mk {M : Nat → TypeId → Prop} {cont : MP → Bool} {I : List MP → World → Prop} {W W' : World} {ds L : List MP} {e : Ending} (b : Bool) (h1 : e = .returned (.bool b)) (h2 : Trn M W W') (h3 : VQ cont I ds L b W') : VisP M cont I W ds L e W' := ⟨b, h1, h2, h3⟩
theorem VQ.more {cont : MP → Bool} {I : List MP → World → Prop} {ds D L X R : List MP} {W : World} (h : VQ cont I (ds ++ D) X false W) (hL : D ++ (X ++ R) = L) (hD : ∀ q ∈ D, cont q = true) : VQ cont I ds L false W := by
  rcases h with ⟨h, _⟩ | ⟨_, A, q, B, rfl, h1, h2, h3⟩
  · cases h
  · exact .inr ⟨rfl, D ++ A, q, B ++ R, by rw [← hL]; simp, fun x hx => (List.mem_append.1 hx).elim (hD x) (h1 x), h2, by simpa [List.append_assoc] using h3⟩
/-- what is left at kid j -/
def restAt (ps : List MP) (ks : List (List MP)) (j : Nat) : List MP := inter (ps.drop j) (ks.drop j)
theorem restAt_leaf {ps : List MP} {j : Nat} {x : MP} (h : ps[j]? = some x) : restAt ps [] j = x :: restAt ps [] (j + 1) := by
  obtain ⟨hi, rfl⟩ := List.getElem?_eq_some_iff.1 h
  unfold restAt
  rw [List.drop_eq_getElem_cons hi, List.drop_nil, List.drop_nil]
  simp [inter]
theorem restAt_end {ps : List MP} {ks : List (List MP)} (h : ks.length ≤ ps.length + 1) : restAt ps ks (ps.length + 1) = [] := by
  unfold restAt
  rw [List.drop_eq_nil_of_le (by omega), List.drop_eq_nil_of_le h]
  rfl
theorem restAt_leafend {ps : List MP} : restAt ps [] ps.length = [] := by
  unfold restAt
  rw [List.drop_eq_nil_of_le (Nat.le_refl _), List.drop_nil]
  rfl
theorem restAt_kid {ps : List MP} {ks : List (List MP)} {j : Nat} {k : List MP} {x : MP} (hk : ks[j]? = some k) (hx : ps[j]? = some x) (hl : ks.length = ps.length + 1) : restAt ps ks j = k ++ x :: restAt ps ks (j + 1) := by
  obtain ⟨hi, rfl⟩ := List.getElem?_eq_some_iff.1 hk
  obtain ⟨hi2, rfl⟩ := List.getElem?_eq_some_iff.1 hx
  unfold restAt
  rw [List.drop_eq_getElem_cons hi, List.drop_eq_getElem_cons hi2]
  rfl
theorem restAt_last {ps : List MP} {ks : List (List MP)} {k : List MP} (hk : ks[ps.length]? = some k) (hl : ks.length = ps.length + 1) : restAt ps ks ps.length = k := by
  obtain ⟨hi, rfl⟩ := List.getElem?_eq_some_iff.1 hk
  unfold restAt
  rw [List.drop_eq_nil_of_le (Nat.le_refl _), List.drop_eq_getElem_cons hi, List.drop_eq_nil_of_le (by omega)]
  rfl
/-- the pairs of a node from p on are those of what is left at the place of p -/
theorem rest_start {d i : Nat} {t : MT} {p : Kp} (hl : d = 0 ∧ t.ks = [] ∨ ∃ e, d = e + 1 ∧ t.ks.length = t.ps.length + 1) (hs : Srt (flat d t)) (hi : i ≤ t.ps.length) (h1 : ∀ q ∈ t.ps.take i, ltP q.kp p) (h2 : ∀ q ∈ t.ps.drop i, ¬ ltP q.kp p) :
    (flat d t).filter (geB p) = (restAt t.ps (t.ks.map (flat (d - 1))) i).filter (geB p) := by
  rcases hl with ⟨rfl, hk⟩ | ⟨e, rfl, hk⟩
  · rw [hk]
    show t.ps.filter _ = (inter (t.ps.drop i) (([] : List (List MP)).drop i)).filter _
    have e : inter (t.ps.drop i) (([] : List (List MP)).drop i) = t.ps.drop i := by rw [List.drop_nil]; cases t.ps.drop i <;> rfl
    have e2 : t.ps.filter (geB p) = (t.ps.take i).filter (geB p) ++ (t.ps.drop i).filter (geB p) := by rw [← List.filter_append, List.take_append_drop]
    rw [e, e2, List.filter_eq_nil_iff.2 (fun q hq => by rw [geB_false (h1 q hq)]; simp), List.nil_append]
  · obtain ⟨k, hkk⟩ : ∃ k, t.ks[i]? = some k := ⟨_, List.getElem?_eq_getElem (by omega)⟩
    obtain ⟨h3, _⟩ := around_kid hk hkk hs h1 h2
    rw [flat_kid hk hkk, List.filter_append, List.filter_eq_nil_iff.2 (fun q hq => by rw [geB_false (h3 q hq)]; simp), List.nil_append]
    congr 1
    show _ = inter (t.ps.drop i) ((t.ks.map (flat e)).drop i)
    rw [← List.map_drop]
    have hlt := (List.getElem?_eq_some_iff.1 hkk).1
    rw [List.drop_eq_getElem_cons hlt, List.map_cons]
    have e1 : t.ks[i] = k := (List.getElem?_eq_some_iff.1 hkk).2
    rw [e1]
    have := inter_split (p1 := []) (k1 := []) rfl (t.ps.drop i) (flat e k) ((t.ks.drop (i + 1)).map (flat e))
    simpa [pre] using this.symm


set_option maxRecDepth 100000 in
set_option maxHeartbeats 16000000 in
theorem visitF_any (base m : Nat) (c1 c2 : Nat) (M : Nat → TypeId → Prop) (cont : MP → Bool) (N : Nat) (I : List MP → World → Prop) (p : MP) (w : World) (hm : 2 ≤ m) (hm2 : m ≤ 64) (hM : ∀ b ty, M b ty → w.heap.size ≤ b) (w2 : World) (hw2 : Ext w w2) (hM2 : ∀ b, w2.heap.size ≤ b → ¬ M b TP)
    (hIx : ∀ ds W W', I ds W → Ext W W' → I ds W') (hp : KR w p)
    (hf : ∀ q ds W, KOk base w q → Ext w W → w2.heap.size ≤ W.heap.size → ds.length + 1 ≤ N → I ds W → Calls Try.prog 56 #[pv q, pt c1, pt c2] W fun e W' => e = .returned (.bool (cont q)) ∧ Trn M W W' ∧ I (ds ++ [q]) W') :
    ∀ (d lo : Nat) (t : MT) (ds : List MP) (W : World), Good base w d t → Wf m d lo m t → Srt (flat d t) → (∀ q ∈ flat d t, KOk base w q) → Ext w W → w2.heap.size ≤ W.heap.size → ds.length + ((flat d t).filter (geB p.kp)).length ≤ N → I ds W →
    Calls Try.prog 38 #[pt t.r, pv p, .func (.func 56) #[] #[pt c1, pt c2]] W (VisP M cont I W ds ((flat d t).filter (geB p.kp))) := by
  intro d
  induction d with
  | zero =>
    intro lo t ds W hG hW hs hk hE0 hs2 hN hI
    have HNN := Lib.hid hN
    clear hN
    obtain ⟨hks, hlo, hhi⟩ := hW
    have HFI : Hid (∀ W', Ext W W' → Calls Try.prog 48 #[pt t.r, pv p] W' fun e w' => ∃ i : Nat, i ≤ t.ps.length ∧ (∀ q ∈ t.ps.take i, ltP q.kp p.kp) ∧ (∀ q ∈ t.ps.drop i, ¬ ltP q.kp p.kp) ∧ e = .returned (.tuple #[.int .i64 i, .bool (foundB t.ps i p.kp)]) ∧ Ext W' w') := Lib.hid fun W' hE => find_any base t p W' (Good.ext (d := 0) hG (hE0.tr hE)) (by omega) hs (fun q hq => ((hk q hq).kr).ext (hE0.tr hE)) (hp.ext (hE0.tr hE))
    have HS := Lib.hid hs
    have HK := Lib.hid hk
    have HG := Lib.hid hG
    have HKS := Lib.hid hks
    have HF := Lib.hid hf
    have HIX := Lib.hid hIx
    have HM := Lib.hid hM
    have HE0 := Lib.hid hE0
    have HI := Lib.hid hI
    obtain ⟨PA, pc, hpv, _, _, _⟩ := own_form2 (Good.node (d := 0) hG).op
    obtain ⟨KA, kc, hkv, _, _, _⟩ := own_form2 (Good.node (d := 0) hG).ok
    have hnp := (Good.node (d := 0) hG).hp
    have hop := (Good.node (d := 0) hG).op
    rw [hpv, hkv, hks] at hnp
    rw [hpv] at hop
    obtain ⟨np, hnpl⟩ : ∃ np, t.ps.length = np := ⟨_, rfl⟩
    rw [hnpl] at hnp hop hhi
    have HNP := Lib.hid hnpl
    have HND := Lib.hid hnp
    have HOP := Lib.hid hop
    clear hs hk hG hks hf hIx hp hI hpv hkv hnp hop hnpl hM2
    go_enter Try.func38, Try.ntmps38
    go_wp2_with fail
    refine Calls.mono (HFI.out _ (by repeat (first | exact Ext.refl' _ | assumption | apply Ext.ex' | apply Ext.al | apply Ext.drN | apply Ext.dr))) ?_
    rintro e w1 ⟨i, hi, hlt, hge, rfl, hb1⟩
    have hE1 : Ext W w1 := (Ext.al1 _ _).tr hb1
    have HST := Lib.hid (rest_start (d := 0) (t := t) (p := p.kp) (.inl ⟨rfl, HKS.out⟩) HS.out hi hlt hge)
    have HGE := Lib.hid hge
    rw [HNP.out] at hi
    have HE1 := Lib.hid hE1
    have HI1 := Lib.hid (HIX.out _ _ _ HI.out hE1)
    clear hb1 hlt hge
    generalize foundB t.ps i p.kp = fb
    go_wp2
    go_loopw [7] (fun x wr => ∃ (j : Nat) (D : List MP), x = .int .i64 j ∧ i ≤ j ∧ j ≤ np + 1 ∧ Hid (D ++ (restAt t.ps [] j).filter (geB p.kp) = (flat 0 t).filter (geB p.kp)) ∧ Hid (∀ q ∈ D, cont q = true) ∧ Hid (I (ds ++ D) wr) ∧ Hid (Ext w wr) ∧ Hid (Trn M w1 wr)) (fun x _ => np + 1 - (intOf x).toNat)
    case atStart => exact ⟨i, [], rfl, Nat.le_refl _, by omega, Lib.hid (by rw [HST.out, HKS.out]; rfl), Lib.hid (by simp), Lib.hid (by simpa using HI1.out), Lib.hid (HE0.out.tr HE1.out), Lib.hid Trn.refl⟩
    case round =>
      obtain ⟨j, D, rfl, hij, hjn, HD, HC, HII, HE, HKP⟩ := hrel
      obtain ⟨rt, t0, t1, _, _⟩ := two_cells (HE.out.at HND.out)
      by_cases hjl : j < np
      · obtain ⟨q, hq⟩ : ∃ q, t.ps[j]? = some q := ⟨_, List.getElem?_eq_getElem (by have := HNP.out; omega)⟩
        have hop := ownsRow_ext HOP.out HE.out
        obtain ⟨pb, o', rfl, hpb, q0, q1⟩ := (Rd.of_own hop).pr HNP.out.symm (by have := HNP.out; omega : j < t.ps.length)
        have hqq : t.ps[j]'(by have := HNP.out; omega) = q := (List.getElem?_eq_some_iff.1 hq).2
        rw [hqq] at q0 q1
        have HQM := Lib.hid (List.mem_of_getElem? hq)
        have hge : geB p.kp q = true := geB_true (HGE.out q (List.mem_of_getElem? (i := j - i) (by rw [List.getElem?_drop, show i + (j - i) = j by omega]; exact hq)))
        have HR := Lib.hid (restAt_leaf hq)
        have HGQ := Lib.hid hge
        have HFQ : Hid (∀ W', Ext wr W' → Calls Try.prog 56 #[pv q, pt c1, pt c2] W' fun e W'' => e = .returned (.bool (cont q)) ∧ Trn M W' W'' ∧ I ((ds ++ D) ++ [q]) W'') := Lib.hid fun W' hE => HF.out q _ W' (HK.out q HQM.out) (HE.out.tr hE) (Nat.le_trans hs2 (Nat.le_trans HE1.out.size (Nat.le_trans HKP.out.size hE.size))) (by
          have h1 := congrArg List.length HD.out
          have h2 := HNN.out
          rw [HR.out, List.filter_cons, if_pos HGQ.out] at h1
          simp only [List.length_append, List.length_cons] at h1 ⊢
          omega) (HIX.out _ _ _ HII.out hE)
        have hjz : (j : Int) ≤ (np : Int) := by omega
        have hjz2 : (j : Int) < (np : Int) := by omega
        have hwj : IntKind.i64.wrap ((j : Int) + 1) = (j : Int) + 1 := IntWalk.i64_in _ (by omega)
        clear hge hq hqq hop hs2
        go_wp2
        go_quiet (fail)
        go_wp2_with fail
        refine Calls.mono (HFQ.out _ (by repeat (first | exact Ext.refl' _ | assumption | apply Ext.ex' | apply Ext.al | apply Ext.drN | apply Ext.dr))) ?_
        rintro e w5 ⟨rfl, hK5, hI5⟩
        have hK5 := Lib.hid hK5
        have hI5 := Lib.hid hI5
        have HWN : Hid (Trn M w1 w5) := Lib.hid (HKP.out.trans ((Trn.ofExt (by repeat (first | exact Ext.refl' _ | assumption | apply Ext.ex' | apply Ext.al | apply Ext.drN | apply Ext.dr))).trans hK5.out))
        have HEN : Hid (Ext w w5) := Lib.hid (HWN.out.ext (HE0.out.tr HE1.out) HM.out)
        cases hc : cont q with
        | false =>
          have HC2 := Lib.hid hc
          clear hc
          go_wp2
          go_ret
          refine VisP.mk false rfl ((Trn.ofExt HE1.out).trans (HWN.out.trans (Trn.ofExt (by repeat (first | exact Ext.refl' _ | assumption | apply Ext.ex' | apply Ext.al | apply Ext.drN | apply Ext.dr))))) (.inr ⟨rfl, D, q, (restAt t.ps [] (j + 1)).filter (geB p.kp), ?_, HC.out, HC2.out, HIX.out _ _ _ (by rw [← List.append_assoc]; exact hI5.out) (by repeat (first | exact Ext.refl' _ | assumption | apply Ext.ex' | apply Ext.al | apply Ext.drN | apply Ext.dr))⟩)
          rw [← HD.out, HR.out, List.filter_cons, if_pos HGQ.out]
        | true =>
          have HC2 := Lib.hid hc
          clear hc
          go_wp2
          go_roundw
          case rel => exact ⟨j + 1, D ++ [q], by go_num, by omega, by omega, Lib.hid (by rw [← HD.out, HR.out, List.filter_cons, if_pos HGQ.out]; simp), Lib.hid (fun x hx => by rcases List.mem_append.1 hx with hx | hx; exact HC.out x hx; simp at hx; subst hx; exact HC2.out), Lib.hid (HIX.out _ _ _ (by rw [← List.append_assoc]; exact hI5.out) (by repeat (first | exact Ext.refl' _ | assumption | apply Ext.ex' | apply Ext.al | apply Ext.drN | apply Ext.dr))), Lib.hid (HEN.out.tr (by repeat (first | exact Ext.refl' _ | assumption | apply Ext.ex' | apply Ext.al | apply Ext.drN | apply Ext.dr))), Lib.hid (HWN.out.trans (Trn.ofExt (by repeat (first | exact Ext.refl' _ | assumption | apply Ext.ex' | apply Ext.al | apply Ext.drN | apply Ext.dr))))⟩
          case measure => simp [intOf]; omega
      · by_cases hje : j = np
        · have HR : Hid (restAt t.ps [] j = []) := Lib.hid (by rw [hje, ← HNP.out]; exact restAt_leafend)
          have HR2 : Hid (restAt t.ps [] (j + 1) = []) := Lib.hid (by rw [hje, ← HNP.out]; exact restAt_end (by simp))
          have hjz : (j : Int) ≤ (np : Int) := by omega
          have hjz2 : ¬ ((j : Int) < (np : Int)) := by omega
          have hwj : IntKind.i64.wrap ((j : Int) + 1) = (j : Int) + 1 := IntWalk.i64_in _ (by omega)
          have hjm : j ≤ 64 := by omega
          clear hje hjl hjn
          have HJ := Lib.hid hij
          obtain ⟨hj1, hj2⟩ : j + 1 ≤ np + 1 ∧ np ≤ j := by omega
          go_wp2
          go_quiet (fail)
          go_wp2
          go_roundw
          case rel => exact ⟨j + 1, D, by go_num, by omega, by omega, Lib.hid (by rw [HR2.out, ← HD.out, HR.out]), HC, Lib.hid (HIX.out _ _ _ HII.out (by repeat (first | exact Ext.refl' _ | assumption | apply Ext.ex' | apply Ext.al | apply Ext.drN | apply Ext.dr))), Lib.hid (HE.out.tr (by repeat (first | exact Ext.refl' _ | assumption | apply Ext.ex' | apply Ext.al | apply Ext.drN | apply Ext.dr))), Lib.hid (HKP.out.trans (Trn.ofExt (by repeat (first | exact Ext.refl' _ | assumption | apply Ext.ex' | apply Ext.al | apply Ext.drN | apply Ext.dr))))⟩
          case measure => simp [intOf]; omega
        · have hjz : ¬ ((j : Int) ≤ (np : Int)) := by omega
          have HR : Hid (restAt t.ps [] j = []) := Lib.hid (by rw [show j = t.ps.length + 1 by have := HNP.out; omega]; exact restAt_end (by simp))
          go_wp2
          go_ret
          refine VisP.mk true rfl ((Trn.ofExt HE1.out).trans (HKP.out.trans (Trn.ofExt (by repeat (first | exact Ext.refl' _ | assumption | apply Ext.ex' | apply Ext.al | apply Ext.drN | apply Ext.dr))))) (.inl ⟨rfl, ?_, ?_⟩)
          · rw [← HD.out, HR.out]; simpa using HC.out
          · rw [← HD.out, HR.out]; simpa using HIX.out _ _ _ HII.out (by repeat (first | exact Ext.refl' _ | assumption | apply Ext.ex' | apply Ext.al | apply Ext.drN | apply Ext.dr))
  | succ d ih =>
    intro lo t ds W hG hW hs hk hE0 hs2 hN hI
    have HNN := Lib.hid hN
    clear hN
    obtain ⟨hkl, hlo, hhi, hkw⟩ := hW
    have HFI : Hid (∀ W', Ext W W' → Calls Try.prog 48 #[pt t.r, pv p] W' fun e w' => ∃ i : Nat, i ≤ t.ps.length ∧ (∀ q ∈ t.ps.take i, ltP q.kp p.kp) ∧ (∀ q ∈ t.ps.drop i, ¬ ltP q.kp p.kp) ∧ e = .returned (.tuple #[.int .i64 i, .bool (foundB t.ps i p.kp)]) ∧ Ext W' w') := Lib.hid fun W' hE => find_any base t p W' (hG.ext (hE0.tr hE)).1 (by omega) (List.Pairwise.sublist ps_sub hs) (fun q hq => ((hk q (ps_sub.subset hq)).kr).ext (hE0.tr hE)) (hp.ext (hE0.tr hE))
    have HS := Lib.hid hs
    have HK := Lib.hid hk
    have HG := Lib.hid hG
    have HKL := Lib.hid hkl
    have HKW := Lib.hid hkw
    have HF := Lib.hid hf
    have HIX := Lib.hid hIx
    have HM := Lib.hid hM
    have HM2 := Lib.hid hM2
    have HE0 := Lib.hid hE0
    have HI := Lib.hid hI
    have HS2 := Lib.hid hs2
    have IH := Lib.hid ih
    obtain ⟨PA, pc, hpv, _, _, _⟩ := own_form2 hG.1.op
    obtain ⟨kb, kc, hkv, _, _⟩ := own_ne0 hG.1.ok (by omega)
    have hnp := hG.1.hp
    have hop := hG.1.op
    have hok := hG.1.ok
    rw [hpv, hkv] at hnp
    rw [hpv] at hop
    rw [hkv] at hok
    obtain ⟨np, hnpl⟩ : ∃ np, t.ps.length = np := ⟨_, rfl⟩
    obtain ⟨nk, hnkl⟩ : ∃ nk, t.ks.length = nk := ⟨_, rfl⟩
    rw [hnpl, hnkl] at hnp
    rw [hnpl] at hop hhi
    rw [hnkl] at hok
    have hnk1 : nk = np + 1 := by omega
    have HNP := Lib.hid hnpl
    have HNK := Lib.hid hnkl
    have HN1 := Lib.hid hnk1
    have HND := Lib.hid hnp
    have HOP := Lib.hid hop
    have HOK := Lib.hid hok
    have hnk0 : ¬ (nk = 0) := by omega
    have hnk00 : (0 : Int) < (nk : Int) := by omega
    have hnkp : 0 < nk := by omega
    clear hs hk hG hf hIx hp hI hpv hkv hnp hop hok hnpl hM2 hkl hkw ih hnkl hnk1
    go_enter Try.func38, Try.ntmps38
    go_wp2_with fail
    refine Calls.mono (HFI.out _ (by repeat (first | exact Ext.refl' _ | assumption | apply Ext.ex' | apply Ext.al | apply Ext.drN | apply Ext.dr))) ?_
    rintro e w1 ⟨i, hi, hlt, hge, rfl, hb1⟩
    have hE1 : Ext W w1 := (Ext.al1 _ _).tr hb1
    have hbk := al_at hb1
    obtain ⟨bx, hbx⟩ : ∃ bx, W.heap.size = bx := ⟨_, rfl⟩
    rw [hbx] at hbk ⊢
    have HBK := Lib.hid hbk
    have HBM : Hid (¬ M bx TP) := Lib.hid (HM2.out bx (by rw [← hbx]; exact HS2.out))
    have hbl := (Array.getElem?_eq_some_iff.1 hbk).1
    have HST := Lib.hid (rest_start (d := d + 1) (t := t) (p := p.kp) (.inr ⟨d, rfl, HKL.out⟩) HS.out hi hlt hge)
    have HGE := Lib.hid hge
    rw [HNP.out] at hi
    have HE1 := Lib.hid hE1
    have HI1 := Lib.hid (HIX.out _ _ _ HI.out hE1)
    clear hb1 hlt hge hbk hs2
    generalize foundB t.ps i p.kp = fb
    go_wp2
    go_loopw [7] (fun x wr => ∃ (j : Nat) (D : List MP), x = .int .i64 j ∧ i ≤ j ∧ j ≤ np + 1 ∧ Hid (D ++ (restAt t.ps (t.ks.map (flat d)) j).filter (geB p.kp) = (flat (d + 1) t).filter (geB p.kp)) ∧ Hid (∀ q ∈ D, cont q = true) ∧ Hid (I (ds ++ D) wr) ∧ Hid (Ext w wr) ∧ Hid (Trn M w1 wr)) (fun x _ => np + 1 - (intOf x).toNat)
    case atStart => exact ⟨i, [], rfl, Nat.le_refl _, by omega, Lib.hid (by rw [HST.out]; rfl), Lib.hid (by simp), Lib.hid (by simpa using HI1.out), Lib.hid (HE0.out.tr HE1.out), Lib.hid Trn.refl⟩
    case round =>
      obtain ⟨j, D, rfl, hij, hjn, HD, HC, HII, HE, HKP⟩ := hrel
      obtain ⟨rt, t0, t1, _, _⟩ := two_cells (HE.out.at HND.out)
      have hbk := HKP.out.block HBK.out HBM.out
      obtain ⟨rx, z0, z1, _, _⟩ := two_cells hbk
      by_cases hjl : j ≤ np
      · obtain ⟨k, hkk⟩ : ∃ k, t.ks[j]? = some k := ⟨_, List.getElem?_eq_getElem (by have := HNK.out; have := HN1.out; omega)⟩
        obtain ⟨hkb, k0⟩ := ownQ_at (ownsRow_ext HOK.out HE.out) hkk
        have hkm := List.mem_of_getElem? hkk
        have HKK := Lib.hid hkk
        have HLK : Hid (∃ R, D ++ ((flat d k).filter (geB p.kp) ++ R) = (flat (d + 1) t).filter (geB p.kp)) := Lib.hid (by
          by_cases hjl2 : j < np
          · obtain ⟨x, hx⟩ : ∃ x, t.ps[j]? = some x := ⟨_, List.getElem?_eq_getElem (by have := HNP.out; omega)⟩
            exact ⟨_, by rw [← HD.out, restAt_kid (k := flat d k) (by rw [List.getElem?_map, hkk]; rfl) hx (by simpa using HKL.out), List.filter_append]⟩
          · have hje : j = t.ps.length := by have := HNP.out; omega
            exact ⟨[], by rw [← HD.out, hje, restAt_last (k := flat d k) (by rw [← hje, List.getElem?_map, hkk]; rfl) (by simpa using HKL.out)]; simp⟩)
        have HIH : Hid (∀ W', Ext wr W' → Calls Try.prog 38 #[pt k.r, pv p, .func (.func 56) #[] #[pt c1, pt c2]] W' (VisP M cont I W' (ds ++ D) ((flat d k).filter (geB p.kp)))) := Lib.hid fun W' hE => IH.out (m / 2) k (ds ++ D) W' (HG.out.2 k hkm) (HKW.out k hkm) (List.Pairwise.sublist (kid_sub HKL.out hkk) HS.out) (fun q hq => HK.out q ((kid_sub HKL.out hkk).subset hq)) (HE.out.tr hE) (Nat.le_trans HS2.out (Nat.le_trans HE1.out.size (Nat.le_trans HKP.out.size hE.size))) (by
          obtain ⟨R, hL⟩ := HLK.out
          have h1 := congrArg List.length hL
          have h2 := HNN.out
          simp only [List.length_append] at h1 ⊢
          omega) (HIX.out _ _ _ HII.out hE)
        have hjz : (j : Int) ≤ (np : Int) := by omega
        have hjk : (j : Int) < (nk : Int) := by have := HN1.out; omega
        have hwj : IntKind.i64.wrap ((j : Int) + 1) = (j : Int) + 1 := IntWalk.i64_in _ (by omega)
        have HJ := Lib.hid hjl
        clear hkk hkm hbk hjl
        go_wp2
        refine wp_region_held_drew (S := (fun w' => w'.cell? ⟨t.r, 1, none⟩ = some (.slice (some ⟨kb, 0, none⟩) nk kc) ∧ w'.cell? ⟨kb, j, none⟩ = some (pt k.r) ∧ w'.cell? ⟨bx, 0, none⟩ = some (.slice p.A p.n p.c) ∧ w'.cell? ⟨bx, 1, none⟩ = some (.int .i64 p.id))) (by kernel_rfl) (by simp [go_sem, ↓IntWalk.iteOmega, *]) (fun hHeld => ?_)
        refine wpAnyH_take (i := 0) (oi := ?oi1) (v := ?v1) ?hi1 (by kernel_rfl) (by kernel_rfl) (by kernel_rfl) ?hQ1 ?hy1 (by assumption) ?_
        case hi1 => (simp only [List.getElem?_toArray, List.getElem?_cons_succ, List.getElem?_cons_zero]; try rfl)
        case hQ1 => exact fun _ _ _ h => h
        case hy1 => (refine Or.inl ⟨by rfl, ?_⟩; intro wq hSw; (try dsimp only at hSw); go_simp; (try with_reducible rfl))
        (try simp only [Act.put, List.setIfInBounds_toArray, List.set_cons_zero, List.set_cons_succ])
        refine wpAnyH_take (i := 1) (oi := ?oi2) (v := ?v2) ?hi2 (by kernel_rfl) (by kernel_rfl) (by kernel_rfl) ?hQ2 ?hy2 (by assumption) ?_
        case hi2 => (simp only [List.getElem?_toArray, List.getElem?_cons_succ, List.getElem?_cons_zero]; try rfl)
        case hQ2 => exact fun _ _ _ h => h
        case hy2 => (refine Or.inl ⟨by rfl, ?_⟩; intro wq hSw; (try dsimp only at hSw); go_simp; (try with_reducible rfl))
        (try simp only [Act.put, List.setIfInBounds_toArray, List.set_cons_zero, List.set_cons_succ])
        refine wpAnyH_take (i := 2) (oi := ?oi3) (v := ?v3) ?hi3 (by kernel_rfl) (by kernel_rfl) (by kernel_rfl) ?hQ3 ?hy3 (by assumption) ?_
        case hi3 => (simp only [List.getElem?_toArray, List.getElem?_cons_succ, List.getElem?_cons_zero]; try rfl)
        case hQ3 => exact fun _ _ _ h => h
        case hy3 => (refine Or.inl ⟨by rfl, ?_⟩; intro wq hSw; (try dsimp only at hSw); go_simp; (try with_reducible rfl))
        (try simp only [Act.put, List.setIfInBounds_toArray, List.set_cons_zero, List.set_cons_succ])
        refine wpAnyH_take (i := 3) (oi := ?oi4) (v := ?v4) ?hi4 (by kernel_rfl) (by kernel_rfl) (by kernel_rfl) ?hQ4 ?hy4 (by assumption) ?_
        case hi4 => (simp only [List.getElem?_toArray, List.getElem?_cons_succ, List.getElem?_cons_zero]; try rfl)
        case hQ4 => exact fun _ _ _ h => h
        case hy4 => (refine Or.inl ⟨by rfl, ?_⟩; intro wq hSw; (try dsimp only at hSw); go_simp; (try with_reducible rfl))
        (try simp only [Act.put, List.setIfInBounds_toArray, List.set_cons_zero, List.set_cons_succ])
        refine wpAnyH_take (i := 4) (oi := ?oi5) (v := ?v5) ?hi5 (by kernel_rfl) (by kernel_rfl) (by kernel_rfl) ?hQ5 ?hy5 (by assumption) ?_
        case hi5 => (simp only [List.getElem?_toArray, List.getElem?_cons_succ, List.getElem?_cons_zero]; try rfl)
        case hQ5 => exact fun _ _ _ h => h
        case hy5 => (refine Or.inl ⟨by rfl, ?_⟩; intro wq hSw; (try dsimp only at hSw); go_simp; (try with_reducible rfl))
        (try simp only [Act.put, List.setIfInBounds_toArray, List.set_cons_zero, List.set_cons_succ])
        refine wpAnyH_take (i := 5) (oi := ?oi6) (v := ?v6) ?hi6 (by kernel_rfl) (by kernel_rfl) (by kernel_rfl) ?hQ6 ?hy6 (by assumption) ?_
        case hi6 => (simp only [List.getElem?_toArray, List.getElem?_cons_succ, List.getElem?_cons_zero]; try rfl)
        case hQ6 => exact fun _ _ _ h => h
        case hy6 => (refine Or.inl ⟨by rfl, ?_⟩; intro wq hSw; (try dsimp only at hSw); go_simp; (try with_reducible rfl))
        (try simp only [Act.put, List.setIfInBounds_toArray, List.set_cons_zero, List.set_cons_succ])
        refine wpAnyH_take (i := 6) (oi := ?oi7) (v := ?v7) ?hi7 (by kernel_rfl) (by kernel_rfl) (by kernel_rfl) ?hQ7 ?hy7 (by assumption) ?_
        case hi7 => (simp only [List.getElem?_toArray, List.getElem?_cons_succ, List.getElem?_cons_zero]; try rfl)
        case hQ7 => exact fun _ _ _ h => h
        case hy7 => (refine Or.inl ⟨by rfl, ?_⟩; intro wq hSw; (try dsimp only at hSw); go_simp; (try with_reducible rfl))
        (try simp only [Act.put, List.setIfInBounds_toArray, List.set_cons_zero, List.set_cons_succ])
        refine wpAnyH_take (i := 7) (oi := ?oi8) (v := ?v8) ?hi8 (by kernel_rfl) (by kernel_rfl) (by kernel_rfl) ?hQ8 ?hy8 (by assumption) ?_
        case hi8 => (simp only [List.getElem?_toArray, List.getElem?_cons_succ, List.getElem?_cons_zero]; try rfl)
        case hQ8 => exact fun _ _ _ h => h
        case hy8 => (refine Or.inl ⟨by rfl, ?_⟩; intro wq hSw; (try dsimp only at hSw); go_simp; (try with_reducible rfl))
        (try simp only [Act.put, List.setIfInBounds_toArray, List.set_cons_zero, List.set_cons_succ])
        refine wpAnyH_take (i := 8) (oi := ?oi9) (v := ?v9) ?hi9 (by kernel_rfl) (by kernel_rfl) (by kernel_rfl) ?hQ9 ?hy9 (by assumption) ?_
        case hi9 => (simp only [List.getElem?_toArray, List.getElem?_cons_succ, List.getElem?_cons_zero]; try rfl)
        case hQ9 => exact fun _ _ _ h => h
        case hy9 => (refine Or.inl ⟨by rfl, ?_⟩; intro wq hSw; (try dsimp only at hSw); go_simp; (try with_reducible rfl))
        (try simp only [Act.put, List.setIfInBounds_toArray, List.set_cons_zero, List.set_cons_succ])
        refine wpAnyH_take (i := 9) (oi := ?oi10) (v := ?v10) ?hi10 (by kernel_rfl) (by kernel_rfl) (by kernel_rfl) ?hQ10 ?hy10 (by assumption) ?_
        case hi10 => (simp only [List.getElem?_toArray, List.getElem?_cons_succ, List.getElem?_cons_zero]; try rfl)
        case hQ10 => exact fun _ _ _ h => h
        case hy10 => (refine Or.inl ⟨by rfl, ?_⟩; intro wq hSw; (try dsimp only at hSw); go_simp; (try with_reducible rfl))
        (try simp only [Act.put, List.setIfInBounds_toArray, List.set_cons_zero, List.set_cons_succ])
        refine wpAnyH_take (i := 10) (oi := ?oi11) (v := ?v11) ?hi11 (by kernel_rfl) (by kernel_rfl) (by kernel_rfl) ?hQ11 ?hy11 (by assumption) ?_
        case hi11 => (simp only [List.getElem?_toArray, List.getElem?_cons_succ, List.getElem?_cons_zero]; try rfl)
        case hQ11 => exact fun _ _ _ h => h
        case hy11 => (refine Or.inl ⟨by rfl, ?_⟩; intro wq hSw; (try dsimp only at hSw); go_simp; (try with_reducible rfl))
        (try simp only [Act.put, List.setIfInBounds_toArray, List.set_cons_zero, List.set_cons_succ])
        refine wpAnyH_take (i := 11) (oi := ?oi12) (v := ?v12) ?hi12 (by kernel_rfl) (by kernel_rfl) (by kernel_rfl) ?hQ12 ?hy12 (by assumption) ?_
        case hi12 => (simp only [List.getElem?_toArray, List.getElem?_cons_succ, List.getElem?_cons_zero]; try rfl)
        case hQ12 => exact fun _ _ _ h => h
        case hy12 => (refine Or.inl ⟨by rfl, ?_⟩; intro wq hSw; (try dsimp only at hSw); go_simp; (try with_reducible rfl))
        (try simp only [Act.put, List.setIfInBounds_toArray, List.set_cons_zero, List.set_cons_succ])
        refine wpAnyH_take (i := 12) (oi := ?oi13) (v := ?v13) ?hi13 (by kernel_rfl) (by kernel_rfl) (by kernel_rfl) ?hQ13 ?hy13 (by assumption) ?_
        case hi13 => (simp only [List.getElem?_toArray, List.getElem?_cons_succ, List.getElem?_cons_zero]; try rfl)
        case hQ13 => exact fun _ _ _ h => h
        case hy13 => (refine Or.inl ⟨by rfl, ?_⟩; intro wq hSw; (try dsimp only at hSw); go_simp; (try with_reducible rfl))
        (try simp only [Act.put, List.setIfInBounds_toArray, List.set_cons_zero, List.set_cons_succ])
        refine wpAnyH_take (i := 13) (oi := ?oi14) (v := ?v14) ?hi14 (by kernel_rfl) (by kernel_rfl) (by kernel_rfl) ?hQ14 ?hy14 (by assumption) ?_
        case hi14 => (simp only [List.getElem?_toArray, List.getElem?_cons_succ, List.getElem?_cons_zero]; try rfl)
        case hQ14 => exact fun _ _ _ h => h
        case hy14 => (refine Or.inl ⟨by rfl, ?_⟩; intro wq hSw; (try dsimp only at hSw); go_simp; (try with_reducible rfl))
        (try simp only [Act.put, List.setIfInBounds_toArray, List.set_cons_zero, List.set_cons_succ])
        refine wpAnyH_take (i := 14) (oi := ?oi15) (v := ?v15) ?hi15 (by kernel_rfl) (by kernel_rfl) (by kernel_rfl) ?hQ15 ?hy15 (by assumption) ?_
        case hi15 => (simp only [List.getElem?_toArray, List.getElem?_cons_succ, List.getElem?_cons_zero]; try rfl)
        case hQ15 => exact fun _ _ _ h => h
        case hy15 => (refine Or.inl ⟨by rfl, ?_⟩; intro wq hSw; (try dsimp only at hSw); go_simp; (try with_reducible rfl))
        (try simp only [Act.put, List.setIfInBounds_toArray, List.set_cons_zero, List.set_cons_succ])
        refine wpAnyH_take (i := 15) (oi := ?oi16) (v := ?v16) ?hi16 (by kernel_rfl) (by kernel_rfl) (by kernel_rfl) ?hQ16 ?hy16 (by assumption) ?_
        case hi16 => (simp only [List.getElem?_toArray, List.getElem?_cons_succ, List.getElem?_cons_zero]; try rfl)
        case hQ16 => exact fun _ _ _ h => h
        case hy16 => (refine Or.inl ⟨by rfl, ?_⟩; intro wq hSw; (try dsimp only at hSw); go_simp; (try with_reducible rfl))
        (try simp only [Act.put, List.setIfInBounds_toArray, List.set_cons_zero, List.set_cons_succ])
        refine wpAnyH_ready (rs := [16]) (by kernel_rfl) (by simp) ?_
        refine AllReadyH.cons (o := ?oi17) ?hi17 ?ti17 AllReadyH.nil
        case hi17 => (simp only [List.getElem?_toArray, List.getElem?_cons_succ, List.getElem?_cons_zero]; try rfl)
        case ti17 =>
          intro KQ hKQ
          go_simp
          go_at_call 38
          refine Calls.mono (HIH.out _ (by repeat (first | exact Ext.refl' _ | assumption | apply Ext.ex' | apply Ext.al | apply Ext.drN | apply Ext.dr))) ?_
          rintro e w5 ⟨b, rfl, hK5, hV⟩
          have HV := Lib.hid hV
          have HWN : Hid (Trn M w1 w5) := Lib.hid (HKP.out.trans ((Trn.ofExt (by repeat (first | exact Ext.refl' _ | assumption | apply Ext.ex' | apply Ext.al | apply Ext.drN | apply Ext.dr))).trans hK5))
          have HEN : Hid (Ext w w5) := Lib.hid (HWN.out.ext (HE0.out.tr HE1.out) HM.out)
          clear rt t0 t1 hbl rx z0 z1 hkb k0 hK5 hV
          obtain ⟨rt, t0, t1, _, _⟩ := two_cells (HEN.out.at HND.out)
          obtain ⟨rx, z0, z1, _, _⟩ := two_cells (HWN.out.block HBK.out HBM.out)
          obtain ⟨hkb, k0⟩ := ownQ_at (ownsRow_ext HOK.out HEN.out) HKK.out
          refine hKQ.out _ _ (by simp [go_sem, ↓IntWalk.iteOmega, *]) (fun hHeld2 => ?_)
          clear hHeld hKQ KQ; have hHeld := hHeld2; clear hHeld2
          (try simp only [Act.put, List.setIfInBounds_toArray, List.set_cons_zero, List.set_cons_succ])
          refine wpAnyH_take (i := 17) (oi := ?oi18) (v := ?v18) ?hi18 (by kernel_rfl) (by kernel_rfl) (by kernel_rfl) ?hQ18 ?hy18 (by assumption) ?_
          case hi18 => (simp only [List.getElem?_toArray, List.getElem?_cons_succ, List.getElem?_cons_zero]; try rfl)
          case hQ18 => exact fun _ _ _ h => h
          case hy18 => (refine Or.inl ⟨by rfl, ?_⟩; intro wq hSw; (try dsimp only at hSw); go_simp; (try with_reducible rfl))
          (try simp only [Act.put, List.setIfInBounds_toArray, List.set_cons_zero, List.set_cons_succ])
          refine wpAnyH_take (i := 18) (oi := ?oi19) (v := ?v19) ?hi19 (by kernel_rfl) (by kernel_rfl) (by kernel_rfl) ?hQ19 ?hy19 (by assumption) ?_
          case hi19 => (simp only [List.getElem?_toArray, List.getElem?_cons_succ, List.getElem?_cons_zero]; try rfl)
          case hQ19 => exact fun _ _ _ h => h
          case hy19 => (refine Or.inl ⟨by rfl, ?_⟩; intro wq hSw; (try dsimp only at hSw); go_simp; (try with_reducible rfl))
          (try simp only [Act.put, List.setIfInBounds_toArray, List.set_cons_zero, List.set_cons_succ])
          refine wpAnyH_done (by kernel_rfl) ?_ _
          cases b with
          | false =>
            go_wp2
            go_ret
            refine VisP.mk false rfl ((Trn.ofExt HE1.out).trans (HWN.out.trans (Trn.ofExt (by repeat (first | exact Ext.refl' _ | assumption | apply Ext.ex' | apply Ext.al | apply Ext.drN | apply Ext.dr))))) ?_
            have hL := HLK.out
            obtain ⟨R, hL⟩ := hL
            have hV := HV.out
            rcases hV with ⟨h, _⟩ | ⟨_, A, q, B, h1, h2, h3, h4⟩
            · cases h
            · exact VQ.more (.inr ⟨rfl, A, q, B, h1, h2, h3, HIX.out _ _ _ h4 (by repeat (first | exact Ext.refl' _ | assumption | apply Ext.ex' | apply Ext.al | apply Ext.drN | apply Ext.dr))⟩) hL HC.out
          | true =>
            have HV1 : Hid ((∀ q ∈ (flat d k).filter (geB p.kp), cont q = true) ∧ I ((ds ++ D) ++ (flat d k).filter (geB p.kp)) w5) := Lib.hid (by
              rcases HV.out with ⟨_, h1, h2⟩ | ⟨h, _⟩
              · exact ⟨h1, h2⟩
              · cases h)
            by_cases hjl : j < np
            · obtain ⟨q, hq⟩ : ∃ q, t.ps[j]? = some q := ⟨_, List.getElem?_eq_getElem (by have := HNP.out; omega)⟩
              have hop := ownsRow_ext HOP.out HEN.out
              obtain ⟨pb, o', rfl, hpb, q0, q1⟩ := (Rd.of_own hop).pr HNP.out.symm (by have := HNP.out; omega : j < t.ps.length)
              have hqq : t.ps[j]'(by have := HNP.out; omega) = q := (List.getElem?_eq_some_iff.1 hq).2
              rw [hqq] at q0 q1
              have HQM := Lib.hid (List.mem_of_getElem? hq)
              have hge : geB p.kp q = true := geB_true (HGE.out q (List.mem_of_getElem? (i := j - i) (by rw [List.getElem?_drop, show i + (j - i) = j by omega]; exact hq)))
              have HR : Hid ((restAt t.ps (t.ks.map (flat d)) j).filter (geB p.kp) = (flat d k).filter (geB p.kp) ++ q :: (restAt t.ps (t.ks.map (flat d)) (j + 1)).filter (geB p.kp)) := Lib.hid (by
                rw [restAt_kid (k := flat d k) (by rw [List.getElem?_map, HKK.out]; rfl) hq (by simpa using HKL.out), List.filter_append, List.filter_cons, if_pos hge])
              have HFQ : Hid (∀ W', Ext w5 W' → Calls Try.prog 56 #[pv q, pt c1, pt c2] W' fun e W'' => e = .returned (.bool (cont q)) ∧ Trn M W' W'' ∧ I (((ds ++ D) ++ (flat d k).filter (geB p.kp)) ++ [q]) W'') := Lib.hid fun W' hE => HF.out q _ W' (HK.out q (ps_sub.subset HQM.out)) (HEN.out.tr hE) (Nat.le_trans HS2.out (Nat.le_trans HE1.out.size (Nat.le_trans HWN.out.size hE.size))) (by
                have h1 := congrArg List.length HD.out
                have h2 := HNN.out
                rw [HR.out] at h1
                simp only [List.length_append, List.length_cons] at h1 ⊢
                omega) (HIX.out _ _ _ HV1.out.2 hE)
              have hjz2 : (j : Int) < (np : Int) := by omega
              clear hge hq hqq hop
              go_wp2_with fail
              refine Calls.mono (HFQ.out _ (by repeat (first | exact Ext.refl' _ | assumption | apply Ext.ex' | apply Ext.al | apply Ext.drN | apply Ext.dr))) ?_
              rintro e w6 ⟨rfl, hK6, hI6⟩
              have HI6 := Lib.hid hI6
              have HWN2 : Hid (Trn M w1 w6) := Lib.hid (HWN.out.trans ((Trn.ofExt (by repeat (first | exact Ext.refl' _ | assumption | apply Ext.ex' | apply Ext.al | apply Ext.drN | apply Ext.dr))).trans hK6))
              have HEN2 : Hid (Ext w w6) := Lib.hid (HWN2.out.ext (HE0.out.tr HE1.out) HM.out)
              clear hK6 hI6
              cases hc : cont q with
              | false =>
                have HC2 := Lib.hid hc
                clear hc
                go_wp2
                go_ret
                refine VisP.mk false rfl ((Trn.ofExt HE1.out).trans (HWN2.out.trans (Trn.ofExt (by repeat (first | exact Ext.refl' _ | assumption | apply Ext.ex' | apply Ext.al | apply Ext.drN | apply Ext.dr))))) (.inr ⟨rfl, D ++ (flat d k).filter (geB p.kp), q, (restAt t.ps (t.ks.map (flat d)) (j + 1)).filter (geB p.kp), ?_, fun x hx => ?_, HC2.out, HIX.out _ _ _ (by have := HI6.out; simpa [List.append_assoc] using this) (by repeat (first | exact Ext.refl' _ | assumption | apply Ext.ex' | apply Ext.al | apply Ext.drN | apply Ext.dr))⟩)
                · rw [← HD.out, HR.out]; simp
                · rcases List.mem_append.1 hx with hx | hx
                  · exact HC.out x hx
                  · exact HV1.out.1 x hx
              | true =>
                have HC2 := Lib.hid hc
                clear hc
                go_wp2
                go_roundw
                case rel => exact ⟨j + 1, D ++ ((flat d k).filter (geB p.kp) ++ [q]), by go_num, by omega, by omega, Lib.hid (by rw [← HD.out, HR.out]; simp), Lib.hid (fun x hx => by
                  rcases List.mem_append.1 hx with hx | hx
                  · exact HC.out x hx
                  · rcases List.mem_append.1 hx with hx | hx
                    · exact HV1.out.1 x hx
                    · simp at hx; subst hx; exact HC2.out), Lib.hid (HIX.out _ _ _ (by have := HI6.out; simpa [List.append_assoc] using this) (by repeat (first | exact Ext.refl' _ | assumption | apply Ext.ex' | apply Ext.al | apply Ext.drN | apply Ext.dr))), Lib.hid (HEN2.out.tr (by repeat (first | exact Ext.refl' _ | assumption | apply Ext.ex' | apply Ext.al | apply Ext.drN | apply Ext.dr))), Lib.hid (HWN2.out.trans (Trn.ofExt (by repeat (first | exact Ext.refl' _ | assumption | apply Ext.ex' | apply Ext.al | apply Ext.drN | apply Ext.dr))))⟩
                case measure => simp [intOf]; omega
            · have hje : j = np := by have := HJ.out; omega
              have HR : Hid (restAt t.ps (t.ks.map (flat d)) j = flat d k) := Lib.hid (by rw [hje, ← HNP.out]; exact restAt_last (by rw [HNP.out, ← hje, List.getElem?_map, HKK.out]; rfl) (by simpa using HKL.out))
              have HR2 : Hid (restAt t.ps (t.ks.map (flat d)) (j + 1) = []) := Lib.hid (by rw [hje, ← HNP.out]; exact restAt_end (by simp; have := HKL.out; omega))
              have hjz2 : ¬ ((j : Int) < (np : Int)) := by omega
              obtain ⟨hj1, hj2⟩ : j + 1 ≤ np + 1 ∧ np ≤ j := by omega
              clear hje hjl
              go_wp2
              go_roundw
              case rel => exact ⟨j + 1, D ++ (flat d k).filter (geB p.kp), by go_num, by omega, by omega, Lib.hid (by rw [HR2.out, ← HD.out, HR.out]; simp), Lib.hid (fun x hx => by
                rcases List.mem_append.1 hx with hx | hx
                · exact HC.out x hx
                · exact HV1.out.1 x hx), Lib.hid (HIX.out _ _ _ (by have := HV1.out.2; simpa [List.append_assoc] using this) (by repeat (first | exact Ext.refl' _ | assumption | apply Ext.ex' | apply Ext.al | apply Ext.drN | apply Ext.dr))), Lib.hid (HEN.out.tr (by repeat (first | exact Ext.refl' _ | assumption | apply Ext.ex' | apply Ext.al | apply Ext.drN | apply Ext.dr))), Lib.hid (HWN.out.trans (Trn.ofExt (by repeat (first | exact Ext.refl' _ | assumption | apply Ext.ex' | apply Ext.al | apply Ext.drN | apply Ext.dr))))⟩
              case measure => simp [intOf]; omega
      · have hjz : ¬ ((j : Int) ≤ (np : Int)) := by omega
        have HR : Hid (restAt t.ps (t.ks.map (flat d)) j = []) := Lib.hid (by rw [show j = t.ps.length + 1 by have := HNP.out; omega]; exact restAt_end (by simp; have := HKL.out; omega))
        clear hbk
        go_wp2
        go_ret
        refine VisP.mk true rfl ((Trn.ofExt HE1.out).trans (HKP.out.trans (Trn.ofExt (by repeat (first | exact Ext.refl' _ | assumption | apply Ext.ex' | apply Ext.al | apply Ext.drN | apply Ext.dr))))) (.inl ⟨rfl, ?_, ?_⟩)
        · rw [← HD.out, HR.out]; simpa using HC.out
        · rw [← HD.out, HR.out]; simpa using HIX.out _ _ _ HII.out (by repeat (first | exact Ext.refl' _ | assumption | apply Ext.ex' | apply Ext.al | apply Ext.drN | apply Ext.dr))


set_option maxHeartbeats 2000000 in
theorem visit_nil (p : MP) (f : Value) (w : World) : Calls Try.prog 38 #[.pointer none, pv p, f] w fun e w' => e = .returned (.bool true) ∧ Ext w w' := by
  go_enter Try.func38, Try.ntmps38
  go_wp2
  go_ret
  exact ⟨rfl, by repeat (first | exact Ext.refl' _ | assumption | apply Ext.ex' | apply Ext.al | apply Ext.drN | apply Ext.dr)⟩


set_option maxRecDepth 100000 in
set_option maxHeartbeats 16000000 in
theorem visitC_any (base m : Nat) (c1 c2 c3 : Nat) (M : Nat → TypeId → Prop) (cont : MP → Bool) (N : Nat) (I : List MP → World → Prop) (p : MP) (w : World) (hm : 2 ≤ m) (hm2 : m ≤ 64) (hM : ∀ b ty, M b ty → w.heap.size ≤ b) (w2 : World) (hw2 : Ext w w2) (hM2 : ∀ b, w2.heap.size ≤ b → ¬ M b TP)
    (hIx : ∀ ds W W', I ds W → Ext W W' → I ds W') (hp : KR w p)
    (hf : ∀ q ds W, KOk base w q → Ext w W → w2.heap.size ≤ W.heap.size → ds.length + 1 ≤ N → I ds W → Calls Try.prog 39 #[pv q, pt c1, pt c2, pt c3] W fun e W' => e = .returned (.bool (cont q)) ∧ Trn M W W' ∧ I (ds ++ [q]) W') :
    ∀ (d lo : Nat) (t : MT) (ds : List MP) (W : World), Good base w d t → Wf m d lo m t → Srt (flat d t) → (∀ q ∈ flat d t, KOk base w q) → Ext w W → w2.heap.size ≤ W.heap.size → ds.length + ((flat d t).filter (geB p.kp)).length ≤ N → I ds W →
    Calls Try.prog 38 #[pt t.r, pv p, .func (.func 39) #[] #[pt c1, pt c2, pt c3]] W (VisP M cont I W ds ((flat d t).filter (geB p.kp))) := by
  intro d
  induction d with
  | zero =>
    intro lo t ds W hG hW hs hk hE0 hs2 hN hI
    have HNN := Lib.hid hN
    clear hN
    obtain ⟨hks, hlo, hhi⟩ := hW
    have HFI : Hid (∀ W', Ext W W' → Calls Try.prog 48 #[pt t.r, pv p] W' fun e w' => ∃ i : Nat, i ≤ t.ps.length ∧ (∀ q ∈ t.ps.take i, ltP q.kp p.kp) ∧ (∀ q ∈ t.ps.drop i, ¬ ltP q.kp p.kp) ∧ e = .returned (.tuple #[.int .i64 i, .bool (foundB t.ps i p.kp)]) ∧ Ext W' w') := Lib.hid fun W' hE => find_any base t p W' (Good.ext (d := 0) hG (hE0.tr hE)) (by omega) hs (fun q hq => ((hk q hq).kr).ext (hE0.tr hE)) (hp.ext (hE0.tr hE))
    have HS := Lib.hid hs
    have HK := Lib.hid hk
    have HG := Lib.hid hG
    have HKS := Lib.hid hks
    have HF := Lib.hid hf
    have HIX := Lib.hid hIx
    have HM := Lib.hid hM
    have HE0 := Lib.hid hE0
    have HI := Lib.hid hI
    obtain ⟨PA, pc, hpv, _, _, _⟩ := own_form2 (Good.node (d := 0) hG).op
    obtain ⟨KA, kc, hkv, _, _, _⟩ := own_form2 (Good.node (d := 0) hG).ok
    have hnp := (Good.node (d := 0) hG).hp
    have hop := (Good.node (d := 0) hG).op
    rw [hpv, hkv, hks] at hnp
    rw [hpv] at hop
    obtain ⟨np, hnpl⟩ : ∃ np, t.ps.length = np := ⟨_, rfl⟩
    rw [hnpl] at hnp hop hhi
    have HNP := Lib.hid hnpl
    have HND := Lib.hid hnp
    have HOP := Lib.hid hop
    clear hs hk hG hks hf hIx hp hI hpv hkv hnp hop hnpl hM2
    go_enter Try.func38, Try.ntmps38
    go_wp2_with fail
    refine Calls.mono (HFI.out _ (by repeat (first | exact Ext.refl' _ | assumption | apply Ext.ex' | apply Ext.al | apply Ext.drN | apply Ext.dr))) ?_
    rintro e w1 ⟨i, hi, hlt, hge, rfl, hb1⟩
    have hE1 : Ext W w1 := (Ext.al1 _ _).tr hb1
    have HST := Lib.hid (rest_start (d := 0) (t := t) (p := p.kp) (.inl ⟨rfl, HKS.out⟩) HS.out hi hlt hge)
    have HGE := Lib.hid hge
    rw [HNP.out] at hi
    have HE1 := Lib.hid hE1
    have HI1 := Lib.hid (HIX.out _ _ _ HI.out hE1)
    clear hb1 hlt hge
    generalize foundB t.ps i p.kp = fb
    go_wp2
    go_loopw [7] (fun x wr => ∃ (j : Nat) (D : List MP), x = .int .i64 j ∧ i ≤ j ∧ j ≤ np + 1 ∧ Hid (D ++ (restAt t.ps [] j).filter (geB p.kp) = (flat 0 t).filter (geB p.kp)) ∧ Hid (∀ q ∈ D, cont q = true) ∧ Hid (I (ds ++ D) wr) ∧ Hid (Ext w wr) ∧ Hid (Trn M w1 wr)) (fun x _ => np + 1 - (intOf x).toNat)
    case atStart => exact ⟨i, [], rfl, Nat.le_refl _, by omega, Lib.hid (by rw [HST.out, HKS.out]; rfl), Lib.hid (by simp), Lib.hid (by simpa using HI1.out), Lib.hid (HE0.out.tr HE1.out), Lib.hid Trn.refl⟩
    case round =>
      obtain ⟨j, D, rfl, hij, hjn, HD, HC, HII, HE, HKP⟩ := hrel
      obtain ⟨rt, t0, t1, _, _⟩ := two_cells (HE.out.at HND.out)
      by_cases hjl : j < np
      · obtain ⟨q, hq⟩ : ∃ q, t.ps[j]? = some q := ⟨_, List.getElem?_eq_getElem (by have := HNP.out; omega)⟩
        have hop := ownsRow_ext HOP.out HE.out
        obtain ⟨pb, o', rfl, hpb, q0, q1⟩ := (Rd.of_own hop).pr HNP.out.symm (by have := HNP.out; omega : j < t.ps.length)
        have hqq : t.ps[j]'(by have := HNP.out; omega) = q := (List.getElem?_eq_some_iff.1 hq).2
        rw [hqq] at q0 q1
        have HQM := Lib.hid (List.mem_of_getElem? hq)
        have hge : geB p.kp q = true := geB_true (HGE.out q (List.mem_of_getElem? (i := j - i) (by rw [List.getElem?_drop, show i + (j - i) = j by omega]; exact hq)))
        have HR := Lib.hid (restAt_leaf hq)
        have HGQ := Lib.hid hge
        have HFQ : Hid (∀ W', Ext wr W' → Calls Try.prog 39 #[pv q, pt c1, pt c2, pt c3] W' fun e W'' => e = .returned (.bool (cont q)) ∧ Trn M W' W'' ∧ I ((ds ++ D) ++ [q]) W'') := Lib.hid fun W' hE => HF.out q _ W' (HK.out q HQM.out) (HE.out.tr hE) (Nat.le_trans hs2 (Nat.le_trans HE1.out.size (Nat.le_trans HKP.out.size hE.size))) (by
          have h1 := congrArg List.length HD.out
          have h2 := HNN.out
          rw [HR.out, List.filter_cons, if_pos HGQ.out] at h1
          simp only [List.length_append, List.length_cons] at h1 ⊢
          omega) (HIX.out _ _ _ HII.out hE)
        have hjz : (j : Int) ≤ (np : Int) := by omega
        have hjz2 : (j : Int) < (np : Int) := by omega
        have hwj : IntKind.i64.wrap ((j : Int) + 1) = (j : Int) + 1 := IntWalk.i64_in _ (by omega)
        clear hge hq hqq hop hs2
        go_wp2
        go_quiet (fail)
        go_wp2_with fail
        refine Calls.mono (HFQ.out _ (by repeat (first | exact Ext.refl' _ | assumption | apply Ext.ex' | apply Ext.al | apply Ext.drN | apply Ext.dr))) ?_
        rintro e w5 ⟨rfl, hK5, hI5⟩
        have hK5 := Lib.hid hK5
        have hI5 := Lib.hid hI5
        have HWN : Hid (Trn M w1 w5) := Lib.hid (HKP.out.trans ((Trn.ofExt (by repeat (first | exact Ext.refl' _ | assumption | apply Ext.ex' | apply Ext.al | apply Ext.drN | apply Ext.dr))).trans hK5.out))
        have HEN : Hid (Ext w w5) := Lib.hid (HWN.out.ext (HE0.out.tr HE1.out) HM.out)
        cases hc : cont q with
        | false =>
          have HC2 := Lib.hid hc
          clear hc
          go_wp2
          go_ret
          refine VisP.mk false rfl ((Trn.ofExt HE1.out).trans (HWN.out.trans (Trn.ofExt (by repeat (first | exact Ext.refl' _ | assumption | apply Ext.ex' | apply Ext.al | apply Ext.drN | apply Ext.dr))))) (.inr ⟨rfl, D, q, (restAt t.ps [] (j + 1)).filter (geB p.kp), ?_, HC.out, HC2.out, HIX.out _ _ _ (by rw [← List.append_assoc]; exact hI5.out) (by repeat (first | exact Ext.refl' _ | assumption | apply Ext.ex' | apply Ext.al | apply Ext.drN | apply Ext.dr))⟩)
          rw [← HD.out, HR.out, List.filter_cons, if_pos HGQ.out]
        | true =>
          have HC2 := Lib.hid hc
          clear hc
          go_wp2
          go_roundw
          case rel => exact ⟨j + 1, D ++ [q], by go_num, by omega, by omega, Lib.hid (by rw [← HD.out, HR.out, List.filter_cons, if_pos HGQ.out]; simp), Lib.hid (fun x hx => by rcases List.mem_append.1 hx with hx | hx; exact HC.out x hx; simp at hx; subst hx; exact HC2.out), Lib.hid (HIX.out _ _ _ (by rw [← List.append_assoc]; exact hI5.out) (by repeat (first | exact Ext.refl' _ | assumption | apply Ext.ex' | apply Ext.al | apply Ext.drN | apply Ext.dr))), Lib.hid (HEN.out.tr (by repeat (first | exact Ext.refl' _ | assumption | apply Ext.ex' | apply Ext.al | apply Ext.drN | apply Ext.dr))), Lib.hid (HWN.out.trans (Trn.ofExt (by repeat (first | exact Ext.refl' _ | assumption | apply Ext.ex' | apply Ext.al | apply Ext.drN | apply Ext.dr))))⟩
          case measure => simp [intOf]; omega
      · by_cases hje : j = np
        · have HR : Hid (restAt t.ps [] j = []) := Lib.hid (by rw [hje, ← HNP.out]; exact restAt_leafend)
          have HR2 : Hid (restAt t.ps [] (j + 1) = []) := Lib.hid (by rw [hje, ← HNP.out]; exact restAt_end (by simp))
          have hjz : (j : Int) ≤ (np : Int) := by omega
          have hjz2 : ¬ ((j : Int) < (np : Int)) := by omega
          have hwj : IntKind.i64.wrap ((j : Int) + 1) = (j : Int) + 1 := IntWalk.i64_in _ (by omega)
          have hjm : j ≤ 64 := by omega
          clear hje hjl hjn
          have HJ := Lib.hid hij
          obtain ⟨hj1, hj2⟩ : j + 1 ≤ np + 1 ∧ np ≤ j := by omega
          go_wp2
          go_quiet (fail)
          go_wp2
          go_roundw
          case rel => exact ⟨j + 1, D, by go_num, by omega, by omega, Lib.hid (by rw [HR2.out, ← HD.out, HR.out]), HC, Lib.hid (HIX.out _ _ _ HII.out (by repeat (first | exact Ext.refl' _ | assumption | apply Ext.ex' | apply Ext.al | apply Ext.drN | apply Ext.dr))), Lib.hid (HE.out.tr (by repeat (first | exact Ext.refl' _ | assumption | apply Ext.ex' | apply Ext.al | apply Ext.drN | apply Ext.dr))), Lib.hid (HKP.out.trans (Trn.ofExt (by repeat (first | exact Ext.refl' _ | assumption | apply Ext.ex' | apply Ext.al | apply Ext.drN | apply Ext.dr))))⟩
          case measure => simp [intOf]; omega
        · have hjz : ¬ ((j : Int) ≤ (np : Int)) := by omega
          have HR : Hid (restAt t.ps [] j = []) := Lib.hid (by rw [show j = t.ps.length + 1 by have := HNP.out; omega]; exact restAt_end (by simp))
          go_wp2
          go_ret
          refine VisP.mk true rfl ((Trn.ofExt HE1.out).trans (HKP.out.trans (Trn.ofExt (by repeat (first | exact Ext.refl' _ | assumption | apply Ext.ex' | apply Ext.al | apply Ext.drN | apply Ext.dr))))) (.inl ⟨rfl, ?_, ?_⟩)
          · rw [← HD.out, HR.out]; simpa using HC.out
          · rw [← HD.out, HR.out]; simpa using HIX.out _ _ _ HII.out (by repeat (first | exact Ext.refl' _ | assumption | apply Ext.ex' | apply Ext.al | apply Ext.drN | apply Ext.dr))
  | succ d ih =>
    intro lo t ds W hG hW hs hk hE0 hs2 hN hI
    have HNN := Lib.hid hN
    clear hN
    obtain ⟨hkl, hlo, hhi, hkw⟩ := hW
    have HFI : Hid (∀ W', Ext W W' → Calls Try.prog 48 #[pt t.r, pv p] W' fun e w' => ∃ i : Nat, i ≤ t.ps.length ∧ (∀ q ∈ t.ps.take i, ltP q.kp p.kp) ∧ (∀ q ∈ t.ps.drop i, ¬ ltP q.kp p.kp) ∧ e = .returned (.tuple #[.int .i64 i, .bool (foundB t.ps i p.kp)]) ∧ Ext W' w') := Lib.hid fun W' hE => find_any base t p W' (hG.ext (hE0.tr hE)).1 (by omega) (List.Pairwise.sublist ps_sub hs) (fun q hq => ((hk q (ps_sub.subset hq)).kr).ext (hE0.tr hE)) (hp.ext (hE0.tr hE))
    have HS := Lib.hid hs
    have HK := Lib.hid hk
    have HG := Lib.hid hG
    have HKL := Lib.hid hkl
    have HKW := Lib.hid hkw
    have HF := Lib.hid hf
    have HIX := Lib.hid hIx
    have HM := Lib.hid hM
    have HM2 := Lib.hid hM2
    have HE0 := Lib.hid hE0
    have HI := Lib.hid hI
    have HS2 := Lib.hid hs2
    have IH := Lib.hid ih
    obtain ⟨PA, pc, hpv, _, _, _⟩ := own_form2 hG.1.op
    obtain ⟨kb, kc, hkv, _, _⟩ := own_ne0 hG.1.ok (by omega)
    have hnp := hG.1.hp
    have hop := hG.1.op
    have hok := hG.1.ok
    rw [hpv, hkv] at hnp
    rw [hpv] at hop
    rw [hkv] at hok
    obtain ⟨np, hnpl⟩ : ∃ np, t.ps.length = np := ⟨_, rfl⟩
    obtain ⟨nk, hnkl⟩ : ∃ nk, t.ks.length = nk := ⟨_, rfl⟩
    rw [hnpl, hnkl] at hnp
    rw [hnpl] at hop hhi
    rw [hnkl] at hok
    have hnk1 : nk = np + 1 := by omega
    have HNP := Lib.hid hnpl
    have HNK := Lib.hid hnkl
    have HN1 := Lib.hid hnk1
    have HND := Lib.hid hnp
    have HOP := Lib.hid hop
    have HOK := Lib.hid hok
    have hnk0 : ¬ (nk = 0) := by omega
    have hnk00 : (0 : Int) < (nk : Int) := by omega
    have hnkp : 0 < nk := by omega
    clear hs hk hG hf hIx hp hI hpv hkv hnp hop hok hnpl hM2 hkl hkw ih hnkl hnk1
    go_enter Try.func38, Try.ntmps38
    go_wp2_with fail
    refine Calls.mono (HFI.out _ (by repeat (first | exact Ext.refl' _ | assumption | apply Ext.ex' | apply Ext.al | apply Ext.drN | apply Ext.dr))) ?_
    rintro e w1 ⟨i, hi, hlt, hge, rfl, hb1⟩
    have hE1 : Ext W w1 := (Ext.al1 _ _).tr hb1
    have hbk := al_at hb1
    obtain ⟨bx, hbx⟩ : ∃ bx, W.heap.size = bx := ⟨_, rfl⟩
    rw [hbx] at hbk ⊢
    have HBK := Lib.hid hbk
    have HBM : Hid (¬ M bx TP) := Lib.hid (HM2.out bx (by rw [← hbx]; exact HS2.out))
    have hbl := (Array.getElem?_eq_some_iff.1 hbk).1
    have HST := Lib.hid (rest_start (d := d + 1) (t := t) (p := p.kp) (.inr ⟨d, rfl, HKL.out⟩) HS.out hi hlt hge)
    have HGE := Lib.hid hge
    rw [HNP.out] at hi
    have HE1 := Lib.hid hE1
    have HI1 := Lib.hid (HIX.out _ _ _ HI.out hE1)
    clear hb1 hlt hge hbk hs2
    generalize foundB t.ps i p.kp = fb
    go_wp2
    go_loopw [7] (fun x wr => ∃ (j : Nat) (D : List MP), x = .int .i64 j ∧ i ≤ j ∧ j ≤ np + 1 ∧ Hid (D ++ (restAt t.ps (t.ks.map (flat d)) j).filter (geB p.kp) = (flat (d + 1) t).filter (geB p.kp)) ∧ Hid (∀ q ∈ D, cont q = true) ∧ Hid (I (ds ++ D) wr) ∧ Hid (Ext w wr) ∧ Hid (Trn M w1 wr)) (fun x _ => np + 1 - (intOf x).toNat)
    case atStart => exact ⟨i, [], rfl, Nat.le_refl _, by omega, Lib.hid (by rw [HST.out]; rfl), Lib.hid (by simp), Lib.hid (by simpa using HI1.out), Lib.hid (HE0.out.tr HE1.out), Lib.hid Trn.refl⟩
    case round =>
      obtain ⟨j, D, rfl, hij, hjn, HD, HC, HII, HE, HKP⟩ := hrel
      obtain ⟨rt, t0, t1, _, _⟩ := two_cells (HE.out.at HND.out)
      have hbk := HKP.out.block HBK.out HBM.out
      obtain ⟨rx, z0, z1, _, _⟩ := two_cells hbk
      by_cases hjl : j ≤ np
      · obtain ⟨k, hkk⟩ : ∃ k, t.ks[j]? = some k := ⟨_, List.getElem?_eq_getElem (by have := HNK.out; have := HN1.out; omega)⟩
        obtain ⟨hkb, k0⟩ := ownQ_at (ownsRow_ext HOK.out HE.out) hkk
        have hkm := List.mem_of_getElem? hkk
        have HKK := Lib.hid hkk
        have HLK : Hid (∃ R, D ++ ((flat d k).filter (geB p.kp) ++ R) = (flat (d + 1) t).filter (geB p.kp)) := Lib.hid (by
          by_cases hjl2 : j < np
          · obtain ⟨x, hx⟩ : ∃ x, t.ps[j]? = some x := ⟨_, List.getElem?_eq_getElem (by have := HNP.out; omega)⟩
            exact ⟨_, by rw [← HD.out, restAt_kid (k := flat d k) (by rw [List.getElem?_map, hkk]; rfl) hx (by simpa using HKL.out), List.filter_append]⟩
          · have hje : j = t.ps.length := by have := HNP.out; omega
            exact ⟨[], by rw [← HD.out, hje, restAt_last (k := flat d k) (by rw [← hje, List.getElem?_map, hkk]; rfl) (by simpa using HKL.out)]; simp⟩)
        have HIH : Hid (∀ W', Ext wr W' → Calls Try.prog 38 #[pt k.r, pv p, .func (.func 39) #[] #[pt c1, pt c2, pt c3]] W' (VisP M cont I W' (ds ++ D) ((flat d k).filter (geB p.kp)))) := Lib.hid fun W' hE => IH.out (m / 2) k (ds ++ D) W' (HG.out.2 k hkm) (HKW.out k hkm) (List.Pairwise.sublist (kid_sub HKL.out hkk) HS.out) (fun q hq => HK.out q ((kid_sub HKL.out hkk).subset hq)) (HE.out.tr hE) (Nat.le_trans HS2.out (Nat.le_trans HE1.out.size (Nat.le_trans HKP.out.size hE.size))) (by
          obtain ⟨R, hL⟩ := HLK.out
          have h1 := congrArg List.length hL
          have h2 := HNN.out
          simp only [List.length_append] at h1 ⊢
          omega) (HIX.out _ _ _ HII.out hE)
        have hjz : (j : Int) ≤ (np : Int) := by omega
        have hjk : (j : Int) < (nk : Int) := by have := HN1.out; omega
        have hwj : IntKind.i64.wrap ((j : Int) + 1) = (j : Int) + 1 := IntWalk.i64_in _ (by omega)
        have HJ := Lib.hid hjl
        clear hkk hkm hbk hjl
        go_wp2
        refine wp_region_held_drew (S := (fun w' => w'.cell? ⟨t.r, 1, none⟩ = some (.slice (some ⟨kb, 0, none⟩) nk kc) ∧ w'.cell? ⟨kb, j, none⟩ = some (pt k.r) ∧ w'.cell? ⟨bx, 0, none⟩ = some (.slice p.A p.n p.c) ∧ w'.cell? ⟨bx, 1, none⟩ = some (.int .i64 p.id))) (by kernel_rfl) (by simp [go_sem, ↓IntWalk.iteOmega, *]) (fun hHeld => ?_)
        refine wpAnyH_take (i := 0) (oi := ?oi1) (v := ?v1) ?hi1 (by kernel_rfl) (by kernel_rfl) (by kernel_rfl) ?hQ1 ?hy1 (by assumption) ?_
        case hi1 => (simp only [List.getElem?_toArray, List.getElem?_cons_succ, List.getElem?_cons_zero]; try rfl)
        case hQ1 => exact fun _ _ _ h => h
        case hy1 => (refine Or.inl ⟨by rfl, ?_⟩; intro wq hSw; (try dsimp only at hSw); go_simp; (try with_reducible rfl))
        (try simp only [Act.put, List.setIfInBounds_toArray, List.set_cons_zero, List.set_cons_succ])
        refine wpAnyH_take (i := 1) (oi := ?oi2) (v := ?v2) ?hi2 (by kernel_rfl) (by kernel_rfl) (by kernel_rfl) ?hQ2 ?hy2 (by assumption) ?_
        case hi2 => (simp only [List.getElem?_toArray, List.getElem?_cons_succ, List.getElem?_cons_zero]; try rfl)
        case hQ2 => exact fun _ _ _ h => h
        case hy2 => (refine Or.inl ⟨by rfl, ?_⟩; intro wq hSw; (try dsimp only at hSw); go_simp; (try with_reducible rfl))
        (try simp only [Act.put, List.setIfInBounds_toArray, List.set_cons_zero, List.set_cons_succ])
        refine wpAnyH_take (i := 2) (oi := ?oi3) (v := ?v3) ?hi3 (by kernel_rfl) (by kernel_rfl) (by kernel_rfl) ?hQ3 ?hy3 (by assumption) ?_
        case hi3 => (simp only [List.getElem?_toArray, List.getElem?_cons_succ, List.getElem?_cons_zero]; try rfl)
        case hQ3 => exact fun _ _ _ h => h
        case hy3 => (refine Or.inl ⟨by rfl, ?_⟩; intro wq hSw; (try dsimp only at hSw); go_simp; (try with_reducible rfl))
        (try simp only [Act.put, List.setIfInBounds_toArray, List.set_cons_zero, List.set_cons_succ])
        refine wpAnyH_take (i := 3) (oi := ?oi4) (v := ?v4) ?hi4 (by kernel_rfl) (by kernel_rfl) (by kernel_rfl) ?hQ4 ?hy4 (by assumption) ?_
        case hi4 => (simp only [List.getElem?_toArray, List.getElem?_cons_succ, List.getElem?_cons_zero]; try rfl)
        case hQ4 => exact fun _ _ _ h => h
        case hy4 => (refine Or.inl ⟨by rfl, ?_⟩; intro wq hSw; (try dsimp only at hSw); go_simp; (try with_reducible rfl))
        (try simp only [Act.put, List.setIfInBounds_toArray, List.set_cons_zero, List.set_cons_succ])
        refine wpAnyH_take (i := 4) (oi := ?oi5) (v := ?v5) ?hi5 (by kernel_rfl) (by kernel_rfl) (by kernel_rfl) ?hQ5 ?hy5 (by assumption) ?_
        case hi5 => (simp only [List.getElem?_toArray, List.getElem?_cons_succ, List.getElem?_cons_zero]; try rfl)
        case hQ5 => exact fun _ _ _ h => h
        case hy5 => (refine Or.inl ⟨by rfl, ?_⟩; intro wq hSw; (try dsimp only at hSw); go_simp; (try with_reducible rfl))
        (try simp only [Act.put, List.setIfInBounds_toArray, List.set_cons_zero, List.set_cons_succ])
        refine wpAnyH_take (i := 5) (oi := ?oi6) (v := ?v6) ?hi6 (by kernel_rfl) (by kernel_rfl) (by kernel_rfl) ?hQ6 ?hy6 (by assumption) ?_
        case hi6 => (simp only [List.getElem?_toArray, List.getElem?_cons_succ, List.getElem?_cons_zero]; try rfl)
        case hQ6 => exact fun _ _ _ h => h
        case hy6 => (refine Or.inl ⟨by rfl, ?_⟩; intro wq hSw; (try dsimp only at hSw); go_simp; (try with_reducible rfl))
        (try simp only [Act.put, List.setIfInBounds_toArray, List.set_cons_zero, List.set_cons_succ])
        refine wpAnyH_take (i := 6) (oi := ?oi7) (v := ?v7) ?hi7 (by kernel_rfl) (by kernel_rfl) (by kernel_rfl) ?hQ7 ?hy7 (by assumption) ?_
        case hi7 => (simp only [List.getElem?_toArray, List.getElem?_cons_succ, List.getElem?_cons_zero]; try rfl)
        case hQ7 => exact fun _ _ _ h => h
        case hy7 => (refine Or.inl ⟨by rfl, ?_⟩; intro wq hSw; (try dsimp only at hSw); go_simp; (try with_reducible rfl))
        (try simp only [Act.put, List.setIfInBounds_toArray, List.set_cons_zero, List.set_cons_succ])
        refine wpAnyH_take (i := 7) (oi := ?oi8) (v := ?v8) ?hi8 (by kernel_rfl) (by kernel_rfl) (by kernel_rfl) ?hQ8 ?hy8 (by assumption) ?_
        case hi8 => (simp only [List.getElem?_toArray, List.getElem?_cons_succ, List.getElem?_cons_zero]; try rfl)
        case hQ8 => exact fun _ _ _ h => h
        case hy8 => (refine Or.inl ⟨by rfl, ?_⟩; intro wq hSw; (try dsimp only at hSw); go_simp; (try with_reducible rfl))
        (try simp only [Act.put, List.setIfInBounds_toArray, List.set_cons_zero, List.set_cons_succ])
        refine wpAnyH_take (i := 8) (oi := ?oi9) (v := ?v9) ?hi9 (by kernel_rfl) (by kernel_rfl) (by kernel_rfl) ?hQ9 ?hy9 (by assumption) ?_
        case hi9 => (simp only [List.getElem?_toArray, List.getElem?_cons_succ, List.getElem?_cons_zero]; try rfl)
        case hQ9 => exact fun _ _ _ h => h
        case hy9 => (refine Or.inl ⟨by rfl, ?_⟩; intro wq hSw; (try dsimp only at hSw); go_simp; (try with_reducible rfl))
        (try simp only [Act.put, List.setIfInBounds_toArray, List.set_cons_zero, List.set_cons_succ])
        refine wpAnyH_take (i := 9) (oi := ?oi10) (v := ?v10) ?hi10 (by kernel_rfl) (by kernel_rfl) (by kernel_rfl) ?hQ10 ?hy10 (by assumption) ?_
        case hi10 => (simp only [List.getElem?_toArray, List.getElem?_cons_succ, List.getElem?_cons_zero]; try rfl)
        case hQ10 => exact fun _ _ _ h => h
        case hy10 => (refine Or.inl ⟨by rfl, ?_⟩; intro wq hSw; (try dsimp only at hSw); go_simp; (try with_reducible rfl))
        (try simp only [Act.put, List.setIfInBounds_toArray, List.set_cons_zero, List.set_cons_succ])
        refine wpAnyH_take (i := 10) (oi := ?oi11) (v := ?v11) ?hi11 (by kernel_rfl) (by kernel_rfl) (by kernel_rfl) ?hQ11 ?hy11 (by assumption) ?_
        case hi11 => (simp only [List.getElem?_toArray, List.getElem?_cons_succ, List.getElem?_cons_zero]; try rfl)
        case hQ11 => exact fun _ _ _ h => h
        case hy11 => (refine Or.inl ⟨by rfl, ?_⟩; intro wq hSw; (try dsimp only at hSw); go_simp; (try with_reducible rfl))
        (try simp only [Act.put, List.setIfInBounds_toArray, List.set_cons_zero, List.set_cons_succ])
        refine wpAnyH_take (i := 11) (oi := ?oi12) (v := ?v12) ?hi12 (by kernel_rfl) (by kernel_rfl) (by kernel_rfl) ?hQ12 ?hy12 (by assumption) ?_
        case hi12 => (simp only [List.getElem?_toArray, List.getElem?_cons_succ, List.getElem?_cons_zero]; try rfl)
        case hQ12 => exact fun _ _ _ h => h
        case hy12 => (refine Or.inl ⟨by rfl, ?_⟩; intro wq hSw; (try dsimp only at hSw); go_simp; (try with_reducible rfl))
        (try simp only [Act.put, List.setIfInBounds_toArray, List.set_cons_zero, List.set_cons_succ])
        refine wpAnyH_take (i := 12) (oi := ?oi13) (v := ?v13) ?hi13 (by kernel_rfl) (by kernel_rfl) (by kernel_rfl) ?hQ13 ?hy13 (by assumption) ?_
        case hi13 => (simp only [List.getElem?_toArray, List.getElem?_cons_succ, List.getElem?_cons_zero]; try rfl)
        case hQ13 => exact fun _ _ _ h => h
        case hy13 => (refine Or.inl ⟨by rfl, ?_⟩; intro wq hSw; (try dsimp only at hSw); go_simp; (try with_reducible rfl))
        (try simp only [Act.put, List.setIfInBounds_toArray, List.set_cons_zero, List.set_cons_succ])
        refine wpAnyH_take (i := 13) (oi := ?oi14) (v := ?v14) ?hi14 (by kernel_rfl) (by kernel_rfl) (by kernel_rfl) ?hQ14 ?hy14 (by assumption) ?_
        case hi14 => (simp only [List.getElem?_toArray, List.getElem?_cons_succ, List.getElem?_cons_zero]; try rfl)
        case hQ14 => exact fun _ _ _ h => h
        case hy14 => (refine Or.inl ⟨by rfl, ?_⟩; intro wq hSw; (try dsimp only at hSw); go_simp; (try with_reducible rfl))
        (try simp only [Act.put, List.setIfInBounds_toArray, List.set_cons_zero, List.set_cons_succ])
        refine wpAnyH_take (i := 14) (oi := ?oi15) (v := ?v15) ?hi15 (by kernel_rfl) (by kernel_rfl) (by kernel_rfl) ?hQ15 ?hy15 (by assumption) ?_
        case hi15 => (simp only [List.getElem?_toArray, List.getElem?_cons_succ, List.getElem?_cons_zero]; try rfl)
        case hQ15 => exact fun _ _ _ h => h
        case hy15 => (refine Or.inl ⟨by rfl, ?_⟩; intro wq hSw; (try dsimp only at hSw); go_simp; (try with_reducible rfl))
        (try simp only [Act.put, List.setIfInBounds_toArray, List.set_cons_zero, List.set_cons_succ])
        refine wpAnyH_take (i := 15) (oi := ?oi16) (v := ?v16) ?hi16 (by kernel_rfl) (by kernel_rfl) (by kernel_rfl) ?hQ16 ?hy16 (by assumption) ?_
        case hi16 => (simp only [List.getElem?_toArray, List.getElem?_cons_succ, List.getElem?_cons_zero]; try rfl)
        case hQ16 => exact fun _ _ _ h => h
        case hy16 => (refine Or.inl ⟨by rfl, ?_⟩; intro wq hSw; (try dsimp only at hSw); go_simp; (try with_reducible rfl))
        (try simp only [Act.put, List.setIfInBounds_toArray, List.set_cons_zero, List.set_cons_succ])
        refine wpAnyH_ready (rs := [16]) (by kernel_rfl) (by simp) ?_
        refine AllReadyH.cons (o := ?oi17) ?hi17 ?ti17 AllReadyH.nil
        case hi17 => (simp only [List.getElem?_toArray, List.getElem?_cons_succ, List.getElem?_cons_zero]; try rfl)
        case ti17 =>
          intro KQ hKQ
          go_simp
          go_at_call 38
          refine Calls.mono (HIH.out _ (by repeat (first | exact Ext.refl' _ | assumption | apply Ext.ex' | apply Ext.al | apply Ext.drN | apply Ext.dr))) ?_
          rintro e w5 ⟨b, rfl, hK5, hV⟩
          have HV := Lib.hid hV
          have HWN : Hid (Trn M w1 w5) := Lib.hid (HKP.out.trans ((Trn.ofExt (by repeat (first | exact Ext.refl' _ | assumption | apply Ext.ex' | apply Ext.al | apply Ext.drN | apply Ext.dr))).trans hK5))
          have HEN : Hid (Ext w w5) := Lib.hid (HWN.out.ext (HE0.out.tr HE1.out) HM.out)
          clear rt t0 t1 hbl rx z0 z1 hkb k0 hK5 hV
          obtain ⟨rt, t0, t1, _, _⟩ := two_cells (HEN.out.at HND.out)
          obtain ⟨rx, z0, z1, _, _⟩ := two_cells (HWN.out.block HBK.out HBM.out)
          obtain ⟨hkb, k0⟩ := ownQ_at (ownsRow_ext HOK.out HEN.out) HKK.out
          refine hKQ.out _ _ (by simp [go_sem, ↓IntWalk.iteOmega, *]) (fun hHeld2 => ?_)
          clear hHeld hKQ KQ; have hHeld := hHeld2; clear hHeld2
          (try simp only [Act.put, List.setIfInBounds_toArray, List.set_cons_zero, List.set_cons_succ])
          refine wpAnyH_take (i := 17) (oi := ?oi18) (v := ?v18) ?hi18 (by kernel_rfl) (by kernel_rfl) (by kernel_rfl) ?hQ18 ?hy18 (by assumption) ?_
          case hi18 => (simp only [List.getElem?_toArray, List.getElem?_cons_succ, List.getElem?_cons_zero]; try rfl)
          case hQ18 => exact fun _ _ _ h => h
          case hy18 => (refine Or.inl ⟨by rfl, ?_⟩; intro wq hSw; (try dsimp only at hSw); go_simp; (try with_reducible rfl))
          (try simp only [Act.put, List.setIfInBounds_toArray, List.set_cons_zero, List.set_cons_succ])
          refine wpAnyH_take (i := 18) (oi := ?oi19) (v := ?v19) ?hi19 (by kernel_rfl) (by kernel_rfl) (by kernel_rfl) ?hQ19 ?hy19 (by assumption) ?_
          case hi19 => (simp only [List.getElem?_toArray, List.getElem?_cons_succ, List.getElem?_cons_zero]; try rfl)
          case hQ19 => exact fun _ _ _ h => h
          case hy19 => (refine Or.inl ⟨by rfl, ?_⟩; intro wq hSw; (try dsimp only at hSw); go_simp; (try with_reducible rfl))
          (try simp only [Act.put, List.setIfInBounds_toArray, List.set_cons_zero, List.set_cons_succ])
          refine wpAnyH_done (by kernel_rfl) ?_ _
          cases b with
          | false =>
            go_wp2
            go_ret
            refine VisP.mk false rfl ((Trn.ofExt HE1.out).trans (HWN.out.trans (Trn.ofExt (by repeat (first | exact Ext.refl' _ | assumption | apply Ext.ex' | apply Ext.al | apply Ext.drN | apply Ext.dr))))) ?_
            have hL := HLK.out
            obtain ⟨R, hL⟩ := hL
            have hV := HV.out
            rcases hV with ⟨h, _⟩ | ⟨_, A, q, B, h1, h2, h3, h4⟩
            · cases h
            · exact VQ.more (.inr ⟨rfl, A, q, B, h1, h2, h3, HIX.out _ _ _ h4 (by repeat (first | exact Ext.refl' _ | assumption | apply Ext.ex' | apply Ext.al | apply Ext.drN | apply Ext.dr))⟩) hL HC.out
          | true =>
            have HV1 : Hid ((∀ q ∈ (flat d k).filter (geB p.kp), cont q = true) ∧ I ((ds ++ D) ++ (flat d k).filter (geB p.kp)) w5) := Lib.hid (by
              rcases HV.out with ⟨_, h1, h2⟩ | ⟨h, _⟩
              · exact ⟨h1, h2⟩
              · cases h)
            by_cases hjl : j < np
            · obtain ⟨q, hq⟩ : ∃ q, t.ps[j]? = some q := ⟨_, List.getElem?_eq_getElem (by have := HNP.out; omega)⟩
              have hop := ownsRow_ext HOP.out HEN.out
              obtain ⟨pb, o', rfl, hpb, q0, q1⟩ := (Rd.of_own hop).pr HNP.out.symm (by have := HNP.out; omega : j < t.ps.length)
              have hqq : t.ps[j]'(by have := HNP.out; omega) = q := (List.getElem?_eq_some_iff.1 hq).2
              rw [hqq] at q0 q1
              have HQM := Lib.hid (List.mem_of_getElem? hq)
              have hge : geB p.kp q = true := geB_true (HGE.out q (List.mem_of_getElem? (i := j - i) (by rw [List.getElem?_drop, show i + (j - i) = j by omega]; exact hq)))
              have HR : Hid ((restAt t.ps (t.ks.map (flat d)) j).filter (geB p.kp) = (flat d k).filter (geB p.kp) ++ q :: (restAt t.ps (t.ks.map (flat d)) (j + 1)).filter (geB p.kp)) := Lib.hid (by
                rw [restAt_kid (k := flat d k) (by rw [List.getElem?_map, HKK.out]; rfl) hq (by simpa using HKL.out), List.filter_append, List.filter_cons, if_pos hge])
              have HFQ : Hid (∀ W', Ext w5 W' → Calls Try.prog 39 #[pv q, pt c1, pt c2, pt c3] W' fun e W'' => e = .returned (.bool (cont q)) ∧ Trn M W' W'' ∧ I (((ds ++ D) ++ (flat d k).filter (geB p.kp)) ++ [q]) W'') := Lib.hid fun W' hE => HF.out q _ W' (HK.out q (ps_sub.subset HQM.out)) (HEN.out.tr hE) (Nat.le_trans HS2.out (Nat.le_trans HE1.out.size (Nat.le_trans HWN.out.size hE.size))) (by
                have h1 := congrArg List.length HD.out
                have h2 := HNN.out
                rw [HR.out] at h1
                simp only [List.length_append, List.length_cons] at h1 ⊢
                omega) (HIX.out _ _ _ HV1.out.2 hE)
              have hjz2 : (j : Int) < (np : Int) := by omega
              clear hge hq hqq hop
              go_wp2_with fail
              refine Calls.mono (HFQ.out _ (by repeat (first | exact Ext.refl' _ | assumption | apply Ext.ex' | apply Ext.al | apply Ext.drN | apply Ext.dr))) ?_
              rintro e w6 ⟨rfl, hK6, hI6⟩
              have HI6 := Lib.hid hI6
              have HWN2 : Hid (Trn M w1 w6) := Lib.hid (HWN.out.trans ((Trn.ofExt (by repeat (first | exact Ext.refl' _ | assumption | apply Ext.ex' | apply Ext.al | apply Ext.drN | apply Ext.dr))).trans hK6))
              have HEN2 : Hid (Ext w w6) := Lib.hid (HWN2.out.ext (HE0.out.tr HE1.out) HM.out)
              clear hK6 hI6
              cases hc : cont q with
              | false =>
                have HC2 := Lib.hid hc
                clear hc
                go_wp2
                go_ret
                refine VisP.mk false rfl ((Trn.ofExt HE1.out).trans (HWN2.out.trans (Trn.ofExt (by repeat (first | exact Ext.refl' _ | assumption | apply Ext.ex' | apply Ext.al | apply Ext.drN | apply Ext.dr))))) (.inr ⟨rfl, D ++ (flat d k).filter (geB p.kp), q, (restAt t.ps (t.ks.map (flat d)) (j + 1)).filter (geB p.kp), ?_, fun x hx => ?_, HC2.out, HIX.out _ _ _ (by have := HI6.out; simpa [List.append_assoc] using this) (by repeat (first | exact Ext.refl' _ | assumption | apply Ext.ex' | apply Ext.al | apply Ext.drN | apply Ext.dr))⟩)
                · rw [← HD.out, HR.out]; simp
                · rcases List.mem_append.1 hx with hx | hx
                  · exact HC.out x hx
                  · exact HV1.out.1 x hx
              | true =>
                have HC2 := Lib.hid hc
                clear hc
                go_wp2
                go_roundw
                case rel => exact ⟨j + 1, D ++ ((flat d k).filter (geB p.kp) ++ [q]), by go_num, by omega, by omega, Lib.hid (by rw [← HD.out, HR.out]; simp), Lib.hid (fun x hx => by
                  rcases List.mem_append.1 hx with hx | hx
                  · exact HC.out x hx
                  · rcases List.mem_append.1 hx with hx | hx
                    · exact HV1.out.1 x hx
                    · simp at hx; subst hx; exact HC2.out), Lib.hid (HIX.out _ _ _ (by have := HI6.out; simpa [List.append_assoc] using this) (by repeat (first | exact Ext.refl' _ | assumption | apply Ext.ex' | apply Ext.al | apply Ext.drN | apply Ext.dr))), Lib.hid (HEN2.out.tr (by repeat (first | exact Ext.refl' _ | assumption | apply Ext.ex' | apply Ext.al | apply Ext.drN | apply Ext.dr))), Lib.hid (HWN2.out.trans (Trn.ofExt (by repeat (first | exact Ext.refl' _ | assumption | apply Ext.ex' | apply Ext.al | apply Ext.drN | apply Ext.dr))))⟩
                case measure => simp [intOf]; omega
            · have hje : j = np := by have := HJ.out; omega
              have HR : Hid (restAt t.ps (t.ks.map (flat d)) j = flat d k) := Lib.hid (by rw [hje, ← HNP.out]; exact restAt_last (by rw [HNP.out, ← hje, List.getElem?_map, HKK.out]; rfl) (by simpa using HKL.out))
              have HR2 : Hid (restAt t.ps (t.ks.map (flat d)) (j + 1) = []) := Lib.hid (by rw [hje, ← HNP.out]; exact restAt_end (by simp; have := HKL.out; omega))
              have hjz2 : ¬ ((j : Int) < (np : Int)) := by omega
              obtain ⟨hj1, hj2⟩ : j + 1 ≤ np + 1 ∧ np ≤ j := by omega
              clear hje hjl
              go_wp2
              go_roundw
              case rel => exact ⟨j + 1, D ++ (flat d k).filter (geB p.kp), by go_num, by omega, by omega, Lib.hid (by rw [HR2.out, ← HD.out, HR.out]; simp), Lib.hid (fun x hx => by
                rcases List.mem_append.1 hx with hx | hx
                · exact HC.out x hx
                · exact HV1.out.1 x hx), Lib.hid (HIX.out _ _ _ (by have := HV1.out.2; simpa [List.append_assoc] using this) (by repeat (first | exact Ext.refl' _ | assumption | apply Ext.ex' | apply Ext.al | apply Ext.drN | apply Ext.dr))), Lib.hid (HEN.out.tr (by repeat (first | exact Ext.refl' _ | assumption | apply Ext.ex' | apply Ext.al | apply Ext.drN | apply Ext.dr))), Lib.hid (HWN.out.trans (Trn.ofExt (by repeat (first | exact Ext.refl' _ | assumption | apply Ext.ex' | apply Ext.al | apply Ext.drN | apply Ext.dr))))⟩
              case measure => simp [intOf]; omega
      · have hjz : ¬ ((j : Int) ≤ (np : Int)) := by omega
        have HR : Hid (restAt t.ps (t.ks.map (flat d)) j = []) := Lib.hid (by rw [show j = t.ps.length + 1 by have := HNP.out; omega]; exact restAt_end (by simp; have := HKL.out; omega))
        clear hbk
        go_wp2
        go_ret
        refine VisP.mk true rfl ((Trn.ofExt HE1.out).trans (HKP.out.trans (Trn.ofExt (by repeat (first | exact Ext.refl' _ | assumption | apply Ext.ex' | apply Ext.al | apply Ext.drN | apply Ext.dr))))) (.inl ⟨rfl, ?_, ?_⟩)
        · rw [← HD.out, HR.out]; simpa using HC.out
        · rw [← HD.out, HR.out]; simpa using HIX.out _ _ _ HII.out (by repeat (first | exact Ext.refl' _ | assumption | apply Ext.ex' | apply Ext.al | apply Ext.drN | apply Ext.dr))

end Go.Proofs.Ytdmbgimehepfaaa
