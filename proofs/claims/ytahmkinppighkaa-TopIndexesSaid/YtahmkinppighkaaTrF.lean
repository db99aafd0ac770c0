/- Packed trees: the nodes that a search examines: the recursive visit, the iterator. -/
import Derived.Test.YtahmkinppighkaaTrE
set_option linter.unusedSimpArgs false
set_option linter.unusedVariables false
namespace Go.Proofs.Ytahmkinppighkaa
open Go.RowKit Go.Shelf

attribute [local go_sem] Oper.semAt_some


theorem exam_eq (q : Rct) (t : Tr) : exam q t = t :: examS q t.ks := by cases t <;> simp [exam, examS, Tr.ks]
theorem examS_append (q : Rct) : ∀ (a b : List Tr), examS q (a ++ b) = examS q a ++ examS q b
  | [], b => rfl
  | x :: a, b => by rw [List.cons_append, examS, examS, examS_append q a b, List.append_assoc]
theorem examS_take (q : Rct) (l : List Tr) {k : Nat} (h : k < l.length) : examS q (l.take (k + 1)) = examS q (l.take k) ++ if ovlB l[k].r q then exam q l[k] else [] := by
  rw [List.take_succ_eq_append_getElem h, examS_append]
  congr 1
  simp [examS]
theorem examS_take_le (q : Rct) (l : List Tr) (k : Nat) : (examS q (l.take k)).length ≤ (examS q l).length := by
  conv => rhs; rw [← List.take_append_drop k l, examS_append, List.length_append]
  omega
theorem TM.kids {w : World} {t : Tr} {p : Nat} (h : TM w t p) : ∃ A c ps, p < w.heap.size ∧ w.cell? ⟨p, 5, none⟩ = some (.slice A t.ks.length c) ∧ t.ks.length ≤ 1048576 ∧ Rd w 1 A t.ks.length (ptc ps) ∧ TMs w t.ks ps := by
  cases t with
  | lf r bs =>
    rw [TM] at h
    obtain ⟨A, c, h0, h1, h2, h3, h4, h5, h6, h7, h8⟩ := h
    exact ⟨none, 0, [], h0, h6, by simp [Tr.ks], Rd.nil, by simp [Tr.ks, TMs]⟩
  | nd r ks =>
    rw [TM] at h
    obtain ⟨A, c, ps, h0, h1, h2, h3, h4, h5, h6, h7, h8, h9⟩ := h
    exact ⟨A, c, ps, h0, h6, h7, h8, h9⟩
theorem sz_kid {t k : Tr} (h : k ∈ t.ks) : SizeOf.sizeOf k < SizeOf.sizeOf t := by
  cases t with
  | lf r bs => simp [Tr.ks] at h
  | nd r ks => have := List.sizeOf_lt_of_mem h; simp [Tr.ks] at this ⊢; omega
/-- a node, and where it lies -/
abbrev Nd (w0 : World) := { x : Nat × Tr // TM w0 x.2 x.1 }
/-- the boxes of the iterator -/
def Bx3 (q : Rct) (l bY bR bV : Nat) (W : World) : Prop :=
  W.heap[bY]? = some (.cells #[.func (.yield l) #[] #[]] 126) ∧ W.heap[bR]? = some (.cells #[.int .i64 q.1.1, .int .i64 q.1.2, .int .i64 q.2.1, .int .i64 q.2.2] 43) ∧ W.heap[bV]? = some (.cells #[.func (.func 70) #[] #[.pointer (some ⟨bY, 0, none⟩), .pointer (some ⟨bR, 0, none⟩), .pointer (some ⟨bV, 0, none⟩)]] 126)
theorem Bx3.ext {q : Rct} {l bY bR bV : Nat} {W W' : World} (h : Bx3 q l bY bR bV W) (e : Ext W W') : Bx3 q l bY bR bV W' := by
  obtain ⟨h1, h2, h3⟩ := h
  exact ⟨(e.block _ (Array.getElem?_eq_some_iff.1 h1).1).trans h1, (e.block _ (Array.getElem?_eq_some_iff.1 h2).1).trans h2, (e.block _ (Array.getElem?_eq_some_iff.1 h3).1).trans h3⟩
theorem Bx3.kp {q : Rct} {l bY bR bV h B : Nat} {W W' : World} (hb : Bx3 q l bY bR bV W) (k : KpT h B 3 53 W W') : Bx3 q l bY bR bV W' := by
  obtain ⟨h1, h2, h3⟩ := hb
  exact ⟨k.blk _ _ _ _ h1 (by decide) (by decide), k.blk _ _ _ _ h2 (by decide) (by decide), k.blk _ _ _ _ h3 (by decide) (by decide)⟩
theorem Bx3.cells {q : Rct} {l bY bR bV : Nat} {W : World} (hb : Bx3 q l bY bR bV W) : (bY < W.heap.size ∧ bR < W.heap.size ∧ bV < W.heap.size) ∧ W.cell? ⟨bY, 0, none⟩ = some (.func (.yield l) #[] #[]) ∧ (W.cell? ⟨bR, 0, none⟩ = some (.int .i64 q.1.1) ∧ W.cell? ⟨bR, 1, none⟩ = some (.int .i64 q.1.2) ∧ W.cell? ⟨bR, 2, none⟩ = some (.int .i64 q.2.1) ∧ W.cell? ⟨bR, 3, none⟩ = some (.int .i64 q.2.2)) ∧ W.cell? ⟨bV, 0, none⟩ = some (.func (.func 70) #[] #[.pointer (some ⟨bY, 0, none⟩), .pointer (some ⟨bR, 0, none⟩), .pointer (some ⟨bV, 0, none⟩)]) := by
  obtain ⟨h1, h2, h3⟩ := hb
  refine ⟨⟨(Array.getElem?_eq_some_iff.1 h1).1, (Array.getElem?_eq_some_iff.1 h2).1, (Array.getElem?_eq_some_iff.1 h3).1⟩, ?_, ⟨?_, ?_, ?_, ?_⟩, ?_⟩ <;> simp [World.cell?, h1, h2, h3]
/-- how a visit ends -/
def VQ {w0 : World} (J Jx : List (Nd w0) → World → Prop) (q : Rct) (l bY bR bV : Nat) (pre : List (Nd w0)) (X : List Tr) (bb : Bool) (W : World) : Prop :=
  (bb = true ∧ ∃ xs : List (Nd w0), xs.map (·.1.2) = X ∧ J (pre ++ xs) W ∧ Ext w0 W ∧ Bx3 q l bY bR bV W) ∨ (bb = false ∧ ∃ pre', Jx pre' W)
def VisP {w0 : World} (J Jx : List (Nd w0) → World → Prop) (q : Rct) (l bY bR bV : Nat) (pre : List (Nd w0)) (X : List Tr) (e : Ending) (W : World) : Prop := ∃ bb : Bool, e = .returned (.bool bb) ∧ VQ J Jx q l bY bR bV pre X bb W


set_option maxRecDepth 100000 in
set_option maxHeartbeats 8000000 in
theorem visit_in (q : Rct) (l h B N bY bR bV : Nat) (w0 : World) (hh0 : w0.heap.size ≤ h) (hB0 : w0.heap.size ≤ B) (J Jx : List (Nd w0) → World → Prop) (hJa : ∀ pre W W', J pre W → W.grownBy W' none → J pre W')
    (hY : ∀ pre (x : Nd w0) W, J pre W → pre.length < N → YieldAt Fence.wide 2 Try.prog l #[pt x.1.1] W fun e W' => (e = .returned (.bool true) ∧ J (pre ++ [x]) W' ∧ KpT h B 3 53 W W') ∨ (e = .returned (.bool false) ∧ Jx (pre ++ [x]) W')) (m : Nat) :
    ∀ (t : Tr) (p : Nat), SizeOf.sizeOf t = m → ∀ (hT : TM w0 t p) (pre : List (Nd w0)) (W : World), J pre W → Ext w0 W → Bx3 q l bY bR bV W → pre.length + (exam q t).length ≤ N →
    Calls Try.prog 70 #[pt p, .pointer (some ⟨bY, 0, none⟩), .pointer (some ⟨bR, 0, none⟩), .pointer (some ⟨bV, 0, none⟩)] W (VisP J Jx q l bY bR bV pre (exam q t)) := by
  induction m using Nat.strongRecOn with
  | _ m ih =>
    intro t p hm hT pre W hJ hE hBx hN
    have IH := Lib.hid ih
    have HM := Lib.hid hm
    have HY := Lib.hid hY
    have HJA := Lib.hid hJa
    clear ih hm hY hJa
    have hex := exam_eq q t
    rw [hex] at hN ⊢
    clear hex
    simp only [List.length_cons] at hN
    obtain ⟨A, c, ps, hpw, hc5, hkl, hRk, hTk⟩ := hT.kids
    have HSZ := Lib.hid (fun k (hk : k ∈ t.ks) => sz_kid hk)
    generalize hks : t.ks = ks at hN hc5 hkl hRk hTk HSZ ⊢
    have HKS := Lib.hid hks
    clear hks
    obtain ⟨x0, hx1, hx2⟩ : ∃ x0 : Nd w0, x0.1.1 = p ∧ x0.1.2 = t := ⟨⟨(p, t), hT⟩, rfl, rfl⟩
    obtain ⟨fn, tmps, assign, body, hy, hR⟩ := HY.out pre x0 W hJ (by omega)
    have HR := Lib.hid hR
    rw [hx1] at hy
    have HX2 := Lib.hid hx2
    clear hx1 hx2
    clear hR
    obtain ⟨⟨s1, s2, s3⟩, d1, ⟨d2, d3, d4, d5⟩, d6⟩ := hBx.cells
    refine (callsIn_wide (n := 3)).1 ?_
    refine callsIn_of_wp Try.func70 rfl trivial ?_ rfl
    simp only [Try.ntmps70, List.size_toArray, List.length_cons, List.length_nil, Nat.reduceAdd, Nat.reduceSub, Array.replicate_succ, Array.replicate_zero, List.push_toArray, List.append_toArray, List.nil_append, List.cons_append]
    gi_wp2
    refine RoundIn.mono HR.out ?_
    rintro e W3 (⟨rfl, hJ3, hK3⟩ | ⟨rfl, hJx3⟩)
    case inr =>
      gi_wp2
      go_ret
      exact ⟨false, rfl, .inr ⟨rfl, _, hJx3⟩⟩
    case inl =>
      have hE3 : Ext w0 W3 := hE.trans (hK3.but.below hh0 hB0)
      have hB3 := hBx.kp hK3
      clear hy HR d1 d2 d3 d4 d5 d6 s1 s2 s3
      have e5 := hE3.cell' hc5
      gi_wp2
      gi_loopw [17] (fun i wr => ∃ (k : Nat) (xs : List (Nd w0)), i = .int .i64 k ∧ k ≤ ks.length ∧ xs.map (·.1.2) = examS q (ks.take k) ∧ J (pre ++ [x0] ++ xs) wr ∧ Ext w0 wr ∧ Bx3 q l bY bR bV wr) (fun i _ => ks.length - (intOf i).toNat)
      case atStart => exact ⟨0, [], rfl, Nat.zero_le _, rfl, by simpa using hJ3, hE3, hB3⟩
      case round =>
        obtain ⟨k, xs, rfl, hk, hxs, hJ4, hE4, hB4⟩ := hrel
        have HXS := Lib.hid hxs
        clear hxs e5
        by_cases hlt : k < ks.length
        · have HEX0 := Lib.hid (examS_take q ks hlt)
          obtain ⟨hpl, hg⟩ := TMs.get hTk
          have HPL := Lib.hid hpl
          have hlt3 : k < ps.length := by omega
          have hTM := hg k hlt hlt3
          clear hg hpl
          have hRw := hRk.ext hE4
          obtain ⟨b, o, rfl, hbw, ec⟩ := hRw.ptr hlt3
          obtain ⟨hpk, r0, r1, r2, r3⟩ := (hTM.ext hE4).rect
          obtain ⟨⟨s1, s2, s3⟩, d1, ⟨d2, d3, d4, d5⟩, d6⟩ := hB4.cells
          have hlen : (examS q (ks.take (k + 1))).length ≤ (examS q ks).length := examS_take_le q ks (k + 1)
          have hxl : xs.length = (examS q (ks.take k)).length := by rw [← HXS.out, List.length_map]
          have hSZ := HSZ.out ks[k] (List.getElem_mem hlt)
          have hsm : SizeOf.sizeOf ks[k] < m := by have := HM.out; omega
          have HIH := Lib.hid (fun (W4 : World) h1 h2 h3 (h4 : (pre ++ [x0] ++ xs).length + (exam q ks[k]).length ≤ N) => IH.out _ hsm ks[k] ps[k] rfl hTM (pre ++ [x0] ++ xs) W4 h1 h2 h3 h4)
          have HOV := Lib.hid (fun w => overlapsX_any ks[k].r q w)
          have HL := Lib.hid hxl
          have HLL := Lib.hid hlen
          clear hSZ hxl hlen hTM hRw hsm
          rcases hov : ovlB ks[k].r q with _ | _
          · have HEX : Hid (examS q (ks.take (k + 1)) = examS q (ks.take k)) := Lib.hid (by rw [HEX0.out, hov]; simp)
            rw [hov] at HOV
            clear HIH hov
            generalize ks[k].r = rk at HOV r0 r1 r2 r3
            generalize ps[k] = pk at ec hpk r0 r1 r2 r3
            clear HEX0
            gi_wp2
            refine wpIn_wide.2 ?_
            refine wp_region_held_drew (S := fun _ => True) (by kernel_rfl) trivial (fun hHeld => ?_)
            refine wpAnyH_take (i := 0) (oi := ?oi1) (v := ?v1) ?hi1 (by kernel_rfl) (by kernel_rfl) (by kernel_rfl) ?hQ1 ?hy1 (by assumption) ?_
            case hi1 => (simp only [List.getElem?_toArray, List.getElem?_cons_succ, List.getElem?_cons_zero]; rfl)
            case hQ1 => exact fun _ _ _ h => h
            case hy1 => (refine Or.inl ⟨by rfl, ?_⟩; intro wq hSw; (try dsimp only at hSw); go_simp; (try with_reducible rfl))
            (try simp only [Act.put, List.setIfInBounds_toArray, List.set_cons_zero, List.set_cons_succ])
            refine wpAnyH_take (i := 1) (oi := ?oi2) (v := ?v2) ?hi2 (by kernel_rfl) (by kernel_rfl) (by kernel_rfl) ?hQ2 ?hy2 (by assumption) ?_
            case hi2 => (simp only [List.getElem?_toArray, List.getElem?_cons_succ, List.getElem?_cons_zero]; rfl)
            case hQ2 => exact fun _ _ _ h => h
            case hy2 => (refine Or.inl ⟨by rfl, ?_⟩; intro wq hSw; (try dsimp only at hSw); go_simp; (try with_reducible rfl))
            (try simp only [Act.put, List.setIfInBounds_toArray, List.set_cons_zero, List.set_cons_succ])
            refine wpAnyH_take (i := 2) (oi := ?oi3) (v := ?v3) ?hi3 (by kernel_rfl) (by kernel_rfl) (by kernel_rfl) ?hQ3 ?hy3 (by assumption) ?_
            case hi3 => (simp only [List.getElem?_toArray, List.getElem?_cons_succ, List.getElem?_cons_zero]; rfl)
            case hQ3 => exact fun _ _ _ h => h
            case hy3 => (refine Or.inl ⟨by rfl, ?_⟩; intro wq hSw; (try dsimp only at hSw); go_simp; (try with_reducible rfl))
            (try simp only [Act.put, List.setIfInBounds_toArray, List.set_cons_zero, List.set_cons_succ])
            refine wpAnyH_ready (rs := [3, 4]) (by kernel_rfl) (by simp) ?_
            refine AllReadyH.cons (o := ?oi4) ?hi4 ?ti4 ?ri4
            case hi4 => (simp only [List.getElem?_toArray, List.getElem?_cons_succ, List.getElem?_cons_zero]; rfl)
            case ti4 =>
              intro KQ hKQ
              go_simp
              (try simp [go_sem, ↓IntWalk.iteOmega, *])
              refine hKQ.out _ _ (by trivial) (fun hHeld2 => ?_)
              clear hHeld hKQ KQ; have hHeld := hHeld2; clear hHeld2
              (try simp only [Act.put, List.setIfInBounds_toArray, List.set_cons_zero, List.set_cons_succ])
              refine wpAnyH_ready (rs := [4]) (by kernel_rfl) (by simp) ?_
              refine AllReadyH.cons (o := ?oi5) ?hi5 ?ti5 AllReadyH.nil
              case hi5 => (simp only [List.getElem?_toArray, List.getElem?_cons_succ, List.getElem?_cons_zero]; rfl)
              case ti5 =>
                intro KQ hKQ
                go_simp
                (try simp [go_sem, ↓IntWalk.iteOmega, *])
                refine hKQ.out _ _ (by trivial) (fun hHeld2 => ?_)
                clear hHeld hKQ KQ; have hHeld := hHeld2; clear hHeld2
                (try simp only [Act.put, List.setIfInBounds_toArray, List.set_cons_zero, List.set_cons_succ])
                refine wpAnyH_ready (rs := [5]) (by kernel_rfl) (by simp) ?_
                refine AllReadyH.cons (o := ?oi6) ?hi6 ?ti6 AllReadyH.nil
                case hi6 => (simp only [List.getElem?_toArray, List.getElem?_cons_succ, List.getElem?_cons_zero]; rfl)
                case ti6 =>
                  intro KQ hKQ
                  go_simp
                  (go_at_call 48; (refine (HOV.out _).mono ?_); rintro e w1 ⟨rfl, hb1⟩; obtain ⟨x1, rfl⟩ := hb1.get; clear hb1)
                  refine hKQ.out _ _ (by trivial) (fun hHeld2 => ?_)
                  clear hHeld hKQ KQ; have hHeld := hHeld2; clear hHeld2
                  (try simp only [Act.put, List.setIfInBounds_toArray, List.set_cons_zero, List.set_cons_succ])
                  refine wpAnyH_take (i := 6) (oi := ?oi7) (v := ?v7) ?hi7 (by kernel_rfl) (by kernel_rfl) (by kernel_rfl) ?hQ7 ?hy7 (by assumption) ?_
                  case hi7 => (simp only [List.getElem?_toArray, List.getElem?_cons_succ, List.getElem?_cons_zero]; rfl)
                  case hQ7 => exact fun _ _ _ h => h
                  case hy7 => (refine Or.inl ⟨by rfl, ?_⟩; intro wq hSw; (try dsimp only at hSw); go_simp; (try with_reducible rfl))
                  (try simp only [Act.put, List.setIfInBounds_toArray, List.set_cons_zero, List.set_cons_succ])
                  refine wpAnyH_take (i := 7) (oi := ?oi8) (v := undef) ?hi8 (by kernel_rfl) (by kernel_rfl) (by kernel_rfl) ?hQ8 ?hy8 (by assumption) ?_
                  case hi8 => (simp only [List.getElem?_toArray, List.getElem?_cons_succ, List.getElem?_cons_zero]; rfl)
                  case hQ8 => exact fun _ _ _ h => h
                  case hy8 => exact Or.inr ⟨by rfl, rfl⟩
                  (try simp only [Act.put, List.setIfInBounds_toArray, List.set_cons_zero, List.set_cons_succ])
                  refine wpAnyH_take (i := 8) (oi := ?oi9) (v := undef) ?hi9 (by kernel_rfl) (by kernel_rfl) (by kernel_rfl) ?hQ9 ?hy9 (by assumption) ?_
                  case hi9 => (simp only [List.getElem?_toArray, List.getElem?_cons_succ, List.getElem?_cons_zero]; rfl)
                  case hQ9 => exact fun _ _ _ h => h
                  case hy9 => exact Or.inr ⟨by rfl, rfl⟩
                  (try simp only [Act.put, List.setIfInBounds_toArray, List.set_cons_zero, List.set_cons_succ])
                  refine wpAnyH_take (i := 9) (oi := ?oi10) (v := undef) ?hi10 (by kernel_rfl) (by kernel_rfl) (by kernel_rfl) ?hQ10 ?hy10 (by assumption) ?_
                  case hi10 => (simp only [List.getElem?_toArray, List.getElem?_cons_succ, List.getElem?_cons_zero]; rfl)
                  case hQ10 => exact fun _ _ _ h => h
                  case hy10 => exact Or.inr ⟨by rfl, rfl⟩
                  (try simp only [Act.put, List.setIfInBounds_toArray, List.set_cons_zero, List.set_cons_succ])
                  refine wpAnyH_take (i := 10) (oi := ?oi11) (v := undef) ?hi11 (by kernel_rfl) (by kernel_rfl) (by kernel_rfl) ?hQ11 ?hy11 (by assumption) ?_
                  case hi11 => (simp only [List.getElem?_toArray, List.getElem?_cons_succ, List.getElem?_cons_zero]; rfl)
                  case hQ11 => exact fun _ _ _ h => h
                  case hy11 => exact Or.inr ⟨by rfl, rfl⟩
                  (try simp only [Act.put, List.setIfInBounds_toArray, List.set_cons_zero, List.set_cons_succ])
                  refine wpAnyH_take (i := 11) (oi := ?oi12) (v := ?v12) ?hi12 (by kernel_rfl) (by kernel_rfl) (by kernel_rfl) ?hQ12 ?hy12 (by assumption) ?_
                  case hi12 => (simp only [List.getElem?_toArray, List.getElem?_cons_succ, List.getElem?_cons_zero]; rfl)
                  case hQ12 => exact fun _ _ _ h => h
                  case hy12 => (refine Or.inl ⟨by rfl, ?_⟩; intro wq hSw; (try dsimp only at hSw); go_simp; (try with_reducible rfl))
                  (try simp only [Act.put, List.setIfInBounds_toArray, List.set_cons_zero, List.set_cons_succ])
                  refine wpAnyH_done (by kernel_rfl) ?_ _
                  gi_wp2
                  go_roundw
                  case rel => exact ⟨k + 1, xs, by go_num, by omega, by rw [HXS.out, HEX.out], HJA.out _ wr _ hJ4 (ext_grown (by repeat (first | exact Ext.refl' _ | assumption | apply Ext.ex' | apply Ext.al | apply Ext.drN | apply Ext.dr))), hE4.trans (Below.mono (show Ext wr _ from (by repeat (first | exact Ext.refl' _ | assumption | apply Ext.ex' | apply Ext.al | apply Ext.drN | apply Ext.dr))) hE4.size), hB4.ext (by repeat (first | exact Ext.refl' _ | assumption | apply Ext.ex' | apply Ext.al | apply Ext.drN | apply Ext.dr))⟩
                  case measure => simp [intOf]; omega
            case ri4 =>
              refine AllReadyH.cons (o := ?oi13) ?hi13 ?ti13 AllReadyH.nil
              case hi13 => (simp only [List.getElem?_toArray, List.getElem?_cons_succ, List.getElem?_cons_zero]; rfl)
              case ti13 =>
                intro KQ hKQ
                go_simp
                (try simp [go_sem, ↓IntWalk.iteOmega, *])
                refine hKQ.out _ _ (by trivial) (fun hHeld2 => ?_)
                clear hHeld hKQ KQ; have hHeld := hHeld2; clear hHeld2
                (try simp only [Act.put, List.setIfInBounds_toArray, List.set_cons_zero, List.set_cons_succ])
                refine wpAnyH_ready (rs := [3]) (by kernel_rfl) (by simp) ?_
                refine AllReadyH.cons (o := ?oi14) ?hi14 ?ti14 AllReadyH.nil
                case hi14 => (simp only [List.getElem?_toArray, List.getElem?_cons_succ, List.getElem?_cons_zero]; rfl)
                case ti14 =>
                  intro KQ hKQ
                  go_simp
                  (try simp [go_sem, ↓IntWalk.iteOmega, *])
                  refine hKQ.out _ _ (by trivial) (fun hHeld2 => ?_)
                  clear hHeld hKQ KQ; have hHeld := hHeld2; clear hHeld2
                  (try simp only [Act.put, List.setIfInBounds_toArray, List.set_cons_zero, List.set_cons_succ])
                  refine wpAnyH_ready (rs := [5]) (by kernel_rfl) (by simp) ?_
                  refine AllReadyH.cons (o := ?oi15) ?hi15 ?ti15 AllReadyH.nil
                  case hi15 => (simp only [List.getElem?_toArray, List.getElem?_cons_succ, List.getElem?_cons_zero]; rfl)
                  case ti15 =>
                    intro KQ hKQ
                    go_simp
                    (go_at_call 48; (refine (HOV.out _).mono ?_); rintro e w1 ⟨rfl, hb1⟩; obtain ⟨x1, rfl⟩ := hb1.get; clear hb1)
                    refine hKQ.out _ _ (by trivial) (fun hHeld2 => ?_)
                    clear hHeld hKQ KQ; have hHeld := hHeld2; clear hHeld2
                    (try simp only [Act.put, List.setIfInBounds_toArray, List.set_cons_zero, List.set_cons_succ])
                    refine wpAnyH_take (i := 6) (oi := ?oi16) (v := ?v16) ?hi16 (by kernel_rfl) (by kernel_rfl) (by kernel_rfl) ?hQ16 ?hy16 (by assumption) ?_
                    case hi16 => (simp only [List.getElem?_toArray, List.getElem?_cons_succ, List.getElem?_cons_zero]; rfl)
                    case hQ16 => exact fun _ _ _ h => h
                    case hy16 => (refine Or.inl ⟨by rfl, ?_⟩; intro wq hSw; (try dsimp only at hSw); go_simp; (try with_reducible rfl))
                    (try simp only [Act.put, List.setIfInBounds_toArray, List.set_cons_zero, List.set_cons_succ])
                    refine wpAnyH_take (i := 7) (oi := ?oi17) (v := undef) ?hi17 (by kernel_rfl) (by kernel_rfl) (by kernel_rfl) ?hQ17 ?hy17 (by assumption) ?_
                    case hi17 => (simp only [List.getElem?_toArray, List.getElem?_cons_succ, List.getElem?_cons_zero]; rfl)
                    case hQ17 => exact fun _ _ _ h => h
                    case hy17 => exact Or.inr ⟨by rfl, rfl⟩
                    (try simp only [Act.put, List.setIfInBounds_toArray, List.set_cons_zero, List.set_cons_succ])
                    refine wpAnyH_take (i := 8) (oi := ?oi18) (v := undef) ?hi18 (by kernel_rfl) (by kernel_rfl) (by kernel_rfl) ?hQ18 ?hy18 (by assumption) ?_
                    case hi18 => (simp only [List.getElem?_toArray, List.getElem?_cons_succ, List.getElem?_cons_zero]; rfl)
                    case hQ18 => exact fun _ _ _ h => h
                    case hy18 => exact Or.inr ⟨by rfl, rfl⟩
                    (try simp only [Act.put, List.setIfInBounds_toArray, List.set_cons_zero, List.set_cons_succ])
                    refine wpAnyH_take (i := 9) (oi := ?oi19) (v := undef) ?hi19 (by kernel_rfl) (by kernel_rfl) (by kernel_rfl) ?hQ19 ?hy19 (by assumption) ?_
                    case hi19 => (simp only [List.getElem?_toArray, List.getElem?_cons_succ, List.getElem?_cons_zero]; rfl)
                    case hQ19 => exact fun _ _ _ h => h
                    case hy19 => exact Or.inr ⟨by rfl, rfl⟩
                    (try simp only [Act.put, List.setIfInBounds_toArray, List.set_cons_zero, List.set_cons_succ])
                    refine wpAnyH_take (i := 10) (oi := ?oi20) (v := undef) ?hi20 (by kernel_rfl) (by kernel_rfl) (by kernel_rfl) ?hQ20 ?hy20 (by assumption) ?_
                    case hi20 => (simp only [List.getElem?_toArray, List.getElem?_cons_succ, List.getElem?_cons_zero]; rfl)
                    case hQ20 => exact fun _ _ _ h => h
                    case hy20 => exact Or.inr ⟨by rfl, rfl⟩
                    (try simp only [Act.put, List.setIfInBounds_toArray, List.set_cons_zero, List.set_cons_succ])
                    refine wpAnyH_take (i := 11) (oi := ?oi21) (v := ?v21) ?hi21 (by kernel_rfl) (by kernel_rfl) (by kernel_rfl) ?hQ21 ?hy21 (by assumption) ?_
                    case hi21 => (simp only [List.getElem?_toArray, List.getElem?_cons_succ, List.getElem?_cons_zero]; rfl)
                    case hQ21 => exact fun _ _ _ h => h
                    case hy21 => (refine Or.inl ⟨by rfl, ?_⟩; intro wq hSw; (try dsimp only at hSw); go_simp; (try with_reducible rfl))
                    (try simp only [Act.put, List.setIfInBounds_toArray, List.set_cons_zero, List.set_cons_succ])
                    refine wpAnyH_done (by kernel_rfl) ?_ _
                    gi_wp2
                    go_roundw
                    case rel => exact ⟨k + 1, xs, by go_num, by omega, by rw [HXS.out, HEX.out], HJA.out _ wr _ hJ4 (ext_grown (by repeat (first | exact Ext.refl' _ | assumption | apply Ext.ex' | apply Ext.al | apply Ext.drN | apply Ext.dr))), hE4.trans (Below.mono (show Ext wr _ from (by repeat (first | exact Ext.refl' _ | assumption | apply Ext.ex' | apply Ext.al | apply Ext.drN | apply Ext.dr))) hE4.size), hB4.ext (by repeat (first | exact Ext.refl' _ | assumption | apply Ext.ex' | apply Ext.al | apply Ext.drN | apply Ext.dr))⟩
                    case measure => simp [intOf]; omega
          · have HEX : Hid (examS q (ks.take (k + 1)) = examS q (ks.take k) ++ exam q ks[k]) := Lib.hid (by rw [HEX0.out, hov]; simp)
            rw [hov] at HOV
            have HIH := Lib.hid (fun W4 h1 h2 h3 => HIH.out W4 h1 h2 h3 (by have a := HLL.out; have b := HL.out; rw [HEX.out, List.length_append] at a; simp; omega))
            clear hov
            generalize hrk : ks[k].r = rk at HOV r0 r1 r2 r3
            clear hrk
            generalize ps[k] = pk at ec hpk r0 r1 r2 r3 HIH
            clear HEX0
            gi_wp2
            refine wpIn_wide.2 ?_
            refine wp_region_held_drew (S := fun _ => True) (by kernel_rfl) trivial (fun hHeld => ?_)
            refine wpAnyH_take (i := 0) (oi := ?oi201) (v := ?v201) ?hi201 (by kernel_rfl) (by kernel_rfl) (by kernel_rfl) ?hQ201 ?hy201 (by assumption) ?_
            case hi201 => (simp only [List.getElem?_toArray, List.getElem?_cons_succ, List.getElem?_cons_zero]; rfl)
            case hQ201 => exact fun _ _ _ h => h
            case hy201 => (refine Or.inl ⟨by rfl, ?_⟩; intro wq hSw; (try dsimp only at hSw); go_simp; (try with_reducible rfl))
            (try simp only [Act.put, List.setIfInBounds_toArray, List.set_cons_zero, List.set_cons_succ])
            refine wpAnyH_take (i := 1) (oi := ?oi202) (v := ?v202) ?hi202 (by kernel_rfl) (by kernel_rfl) (by kernel_rfl) ?hQ202 ?hy202 (by assumption) ?_
            case hi202 => (simp only [List.getElem?_toArray, List.getElem?_cons_succ, List.getElem?_cons_zero]; rfl)
            case hQ202 => exact fun _ _ _ h => h
            case hy202 => (refine Or.inl ⟨by rfl, ?_⟩; intro wq hSw; (try dsimp only at hSw); go_simp; (try with_reducible rfl))
            (try simp only [Act.put, List.setIfInBounds_toArray, List.set_cons_zero, List.set_cons_succ])
            refine wpAnyH_take (i := 2) (oi := ?oi203) (v := ?v203) ?hi203 (by kernel_rfl) (by kernel_rfl) (by kernel_rfl) ?hQ203 ?hy203 (by assumption) ?_
            case hi203 => (simp only [List.getElem?_toArray, List.getElem?_cons_succ, List.getElem?_cons_zero]; rfl)
            case hQ203 => exact fun _ _ _ h => h
            case hy203 => (refine Or.inl ⟨by rfl, ?_⟩; intro wq hSw; (try dsimp only at hSw); go_simp; (try with_reducible rfl))
            (try simp only [Act.put, List.setIfInBounds_toArray, List.set_cons_zero, List.set_cons_succ])
            refine wpAnyH_ready (rs := [3, 4]) (by kernel_rfl) (by simp) ?_
            refine AllReadyH.cons (o := ?oi204) ?hi204 ?ti204 ?ri204
            case hi204 => (simp only [List.getElem?_toArray, List.getElem?_cons_succ, List.getElem?_cons_zero]; rfl)
            case ti204 =>
              intro KQ hKQ
              go_simp
              (try simp [go_sem, ↓IntWalk.iteOmega, *])
              refine hKQ.out _ _ (by trivial) (fun hHeld2 => ?_)
              clear hHeld hKQ KQ; have hHeld := hHeld2; clear hHeld2
              (try simp only [Act.put, List.setIfInBounds_toArray, List.set_cons_zero, List.set_cons_succ])
              refine wpAnyH_ready (rs := [4]) (by kernel_rfl) (by simp) ?_
              refine AllReadyH.cons (o := ?oi205) ?hi205 ?ti205 AllReadyH.nil
              case hi205 => (simp only [List.getElem?_toArray, List.getElem?_cons_succ, List.getElem?_cons_zero]; rfl)
              case ti205 =>
                intro KQ hKQ
                go_simp
                (try simp [go_sem, ↓IntWalk.iteOmega, *])
                refine hKQ.out _ _ (by trivial) (fun hHeld2 => ?_)
                clear hHeld hKQ KQ; have hHeld := hHeld2; clear hHeld2
                (try simp only [Act.put, List.setIfInBounds_toArray, List.set_cons_zero, List.set_cons_succ])
                refine wpAnyH_ready (rs := [5]) (by kernel_rfl) (by simp) ?_
                refine AllReadyH.cons (o := ?oi206) ?hi206 ?ti206 AllReadyH.nil
                case hi206 => (simp only [List.getElem?_toArray, List.getElem?_cons_succ, List.getElem?_cons_zero]; rfl)
                case ti206 =>
                  intro KQ hKQ
                  go_simp
                  (go_at_call 48; (refine (HOV.out _).mono ?_); rintro e w1 ⟨rfl, hb1⟩; obtain ⟨x1, rfl⟩ := hb1.get; clear hb1)
                  refine hKQ.out _ _ (by trivial) (fun hHeld2 => ?_)
                  clear hHeld hKQ KQ; have hHeld := hHeld2; clear hHeld2
                  (try simp only [Act.put, List.setIfInBounds_toArray, List.set_cons_zero, List.set_cons_succ])
                  refine wpAnyH_take (i := 6) (oi := ?oi207) (v := ?v207) ?hi207 (by kernel_rfl) (by kernel_rfl) (by kernel_rfl) ?hQ207 ?hy207 (by assumption) ?_
                  case hi207 => (simp only [List.getElem?_toArray, List.getElem?_cons_succ, List.getElem?_cons_zero]; rfl)
                  case hQ207 => exact fun _ _ _ h => h
                  case hy207 => (refine Or.inl ⟨by rfl, ?_⟩; intro wq hSw; (try dsimp only at hSw); go_simp; (try with_reducible rfl))
                  (try simp only [Act.put, List.setIfInBounds_toArray, List.set_cons_zero, List.set_cons_succ])
                  refine wpAnyH_take (i := 8) (oi := ?oi208) (v := ?v208) ?hi208 (by kernel_rfl) (by kernel_rfl) (by kernel_rfl) ?hQ208 ?hy208 (by assumption) ?_
                  case hi208 => (simp only [List.getElem?_toArray, List.getElem?_cons_succ, List.getElem?_cons_zero]; rfl)
                  case hQ208 => exact fun _ _ _ h => h
                  case hy208 => (refine Or.inl ⟨by rfl, ?_⟩; intro wq hSw; (try dsimp only at hSw); go_simp; (try with_reducible rfl))
                  (try simp only [Act.put, List.setIfInBounds_toArray, List.set_cons_zero, List.set_cons_succ])
                  refine wpAnyH_ready (rs := [7]) (by kernel_rfl) (by simp) ?_
                  refine AllReadyH.cons (o := ?oi209) ?hi209 ?ti209 AllReadyH.nil
                  case hi209 => (simp only [List.getElem?_toArray, List.getElem?_cons_succ, List.getElem?_cons_zero]; rfl)
                  case ti209 =>
                    intro KQ hKQ
                    go_simp
                    (try simp [go_sem, ↓IntWalk.iteOmega, *])
                    refine hKQ.out _ _ (by trivial) (fun hHeld2 => ?_)
                    clear hHeld hKQ KQ; have hHeld := hHeld2; clear hHeld2
                    (try simp only [Act.put, List.setIfInBounds_toArray, List.set_cons_zero, List.set_cons_succ])
                    refine wpAnyH_ready (rs := [9]) (by kernel_rfl) (by simp) ?_
                    refine AllReadyH.cons (o := ?oi210) ?hi210 ?ti210 AllReadyH.nil
                    case hi210 => (simp only [List.getElem?_toArray, List.getElem?_cons_succ, List.getElem?_cons_zero]; rfl)
                    case ti210 =>
                      intro KQ hKQ
                      go_simp
                      (go_at_call 70; (refine (HIH.out _ (HJA.out _ wr _ hJ4 (ext_grown (by repeat (first | exact Ext.refl' _ | assumption | apply Ext.ex' | apply Ext.al | apply Ext.drN | apply Ext.dr)))) (hE4.trans (Below.mono (show Ext wr _ from (by repeat (first | exact Ext.refl' _ | assumption | apply Ext.ex' | apply Ext.al | apply Ext.drN | apply Ext.dr))) hE4.size)) (hB4.ext (by repeat (first | exact Ext.refl' _ | assumption | apply Ext.ex' | apply Ext.al | apply Ext.drN | apply Ext.dr)))).mono ?_); rintro e w2 ⟨bb, rfl, hV⟩)
                      refine hKQ.out _ _ (by trivial) (fun hHeld2 => ?_)
                      clear hHeld hKQ KQ; have hHeld := hHeld2; clear hHeld2
                      (try simp only [Act.put, List.setIfInBounds_toArray, List.set_cons_zero, List.set_cons_succ])
                      refine wpAnyH_take (i := 10) (oi := ?oi211) (v := ?v211) ?hi211 (by kernel_rfl) (by kernel_rfl) (by kernel_rfl) ?hQ211 ?hy211 (by assumption) ?_
                      case hi211 => (simp only [List.getElem?_toArray, List.getElem?_cons_succ, List.getElem?_cons_zero]; rfl)
                      case hQ211 => exact fun _ _ _ h => h
                      case hy211 => (refine Or.inl ⟨by rfl, ?_⟩; intro wq hSw; (try dsimp only at hSw); go_simp; (try with_reducible rfl))
                      (try simp only [Act.put, List.setIfInBounds_toArray, List.set_cons_zero, List.set_cons_succ])
                      refine wpAnyH_take (i := 11) (oi := ?oi212) (v := ?v212) ?hi212 (by kernel_rfl) (by kernel_rfl) (by kernel_rfl) ?hQ212 ?hy212 (by assumption) ?_
                      case hi212 => (simp only [List.getElem?_toArray, List.getElem?_cons_succ, List.getElem?_cons_zero]; rfl)
                      case hQ212 => exact fun _ _ _ h => h
                      case hy212 => (refine Or.inl ⟨by rfl, ?_⟩; intro wq hSw; (try dsimp only at hSw); go_simp; (try with_reducible rfl))
                      (try simp only [Act.put, List.setIfInBounds_toArray, List.set_cons_zero, List.set_cons_succ])
                      refine wpAnyH_done (by kernel_rfl) ?_ _
                      cases bb
                      · gi_wp2
                        go_ret
                        rcases hV with ⟨h, _⟩ | ⟨_, pre', hp⟩
                        · cases h
                        · exact ⟨false, rfl, .inr ⟨rfl, pre', hp⟩⟩
                      · rcases hV with ⟨_, ys, hys, hJ5, hE5, hB5⟩ | ⟨h, _⟩
                        · gi_wp2
                          go_roundw
                          case rel => exact ⟨k + 1, xs ++ ys, by go_num, by omega, by rw [List.map_append, HXS.out, hys, HEX.out], by rw [← List.append_assoc]; exact hJ5, hE5, hB5⟩
                          case measure => simp [intOf]; omega
                        · cases h
            case ri204 =>
              refine AllReadyH.cons (o := ?oi213) ?hi213 ?ti213 AllReadyH.nil
              case hi213 => (simp only [List.getElem?_toArray, List.getElem?_cons_succ, List.getElem?_cons_zero]; rfl)
              case ti213 =>
                intro KQ hKQ
                go_simp
                (try simp [go_sem, ↓IntWalk.iteOmega, *])
                refine hKQ.out _ _ (by trivial) (fun hHeld2 => ?_)
                clear hHeld hKQ KQ; have hHeld := hHeld2; clear hHeld2
                (try simp only [Act.put, List.setIfInBounds_toArray, List.set_cons_zero, List.set_cons_succ])
                refine wpAnyH_ready (rs := [3]) (by kernel_rfl) (by simp) ?_
                refine AllReadyH.cons (o := ?oi214) ?hi214 ?ti214 AllReadyH.nil
                case hi214 => (simp only [List.getElem?_toArray, List.getElem?_cons_succ, List.getElem?_cons_zero]; rfl)
                case ti214 =>
                  intro KQ hKQ
                  go_simp
                  (try simp [go_sem, ↓IntWalk.iteOmega, *])
                  refine hKQ.out _ _ (by trivial) (fun hHeld2 => ?_)
                  clear hHeld hKQ KQ; have hHeld := hHeld2; clear hHeld2
                  (try simp only [Act.put, List.setIfInBounds_toArray, List.set_cons_zero, List.set_cons_succ])
                  refine wpAnyH_ready (rs := [5]) (by kernel_rfl) (by simp) ?_
                  refine AllReadyH.cons (o := ?oi215) ?hi215 ?ti215 AllReadyH.nil
                  case hi215 => (simp only [List.getElem?_toArray, List.getElem?_cons_succ, List.getElem?_cons_zero]; rfl)
                  case ti215 =>
                    intro KQ hKQ
                    go_simp
                    (go_at_call 48; (refine (HOV.out _).mono ?_); rintro e w1 ⟨rfl, hb1⟩; obtain ⟨x1, rfl⟩ := hb1.get; clear hb1)
                    refine hKQ.out _ _ (by trivial) (fun hHeld2 => ?_)
                    clear hHeld hKQ KQ; have hHeld := hHeld2; clear hHeld2
                    (try simp only [Act.put, List.setIfInBounds_toArray, List.set_cons_zero, List.set_cons_succ])
                    refine wpAnyH_take (i := 6) (oi := ?oi216) (v := ?v216) ?hi216 (by kernel_rfl) (by kernel_rfl) (by kernel_rfl) ?hQ216 ?hy216 (by assumption) ?_
                    case hi216 => (simp only [List.getElem?_toArray, List.getElem?_cons_succ, List.getElem?_cons_zero]; rfl)
                    case hQ216 => exact fun _ _ _ h => h
                    case hy216 => (refine Or.inl ⟨by rfl, ?_⟩; intro wq hSw; (try dsimp only at hSw); go_simp; (try with_reducible rfl))
                    (try simp only [Act.put, List.setIfInBounds_toArray, List.set_cons_zero, List.set_cons_succ])
                    refine wpAnyH_take (i := 8) (oi := ?oi217) (v := ?v217) ?hi217 (by kernel_rfl) (by kernel_rfl) (by kernel_rfl) ?hQ217 ?hy217 (by assumption) ?_
                    case hi217 => (simp only [List.getElem?_toArray, List.getElem?_cons_succ, List.getElem?_cons_zero]; rfl)
                    case hQ217 => exact fun _ _ _ h => h
                    case hy217 => (refine Or.inl ⟨by rfl, ?_⟩; intro wq hSw; (try dsimp only at hSw); go_simp; (try with_reducible rfl))
                    (try simp only [Act.put, List.setIfInBounds_toArray, List.set_cons_zero, List.set_cons_succ])
                    refine wpAnyH_ready (rs := [7]) (by kernel_rfl) (by simp) ?_
                    refine AllReadyH.cons (o := ?oi218) ?hi218 ?ti218 AllReadyH.nil
                    case hi218 => (simp only [List.getElem?_toArray, List.getElem?_cons_succ, List.getElem?_cons_zero]; rfl)
                    case ti218 =>
                      intro KQ hKQ
                      go_simp
                      (try simp [go_sem, ↓IntWalk.iteOmega, *])
                      refine hKQ.out _ _ (by trivial) (fun hHeld2 => ?_)
                      clear hHeld hKQ KQ; have hHeld := hHeld2; clear hHeld2
                      (try simp only [Act.put, List.setIfInBounds_toArray, List.set_cons_zero, List.set_cons_succ])
                      refine wpAnyH_ready (rs := [9]) (by kernel_rfl) (by simp) ?_
                      refine AllReadyH.cons (o := ?oi219) ?hi219 ?ti219 AllReadyH.nil
                      case hi219 => (simp only [List.getElem?_toArray, List.getElem?_cons_succ, List.getElem?_cons_zero]; rfl)
                      case ti219 =>
                        intro KQ hKQ
                        go_simp
                        (go_at_call 70; (refine (HIH.out _ (HJA.out _ wr _ hJ4 (ext_grown (by repeat (first | exact Ext.refl' _ | assumption | apply Ext.ex' | apply Ext.al | apply Ext.drN | apply Ext.dr)))) (hE4.trans (Below.mono (show Ext wr _ from (by repeat (first | exact Ext.refl' _ | assumption | apply Ext.ex' | apply Ext.al | apply Ext.drN | apply Ext.dr))) hE4.size)) (hB4.ext (by repeat (first | exact Ext.refl' _ | assumption | apply Ext.ex' | apply Ext.al | apply Ext.drN | apply Ext.dr)))).mono ?_); rintro e w2 ⟨bb, rfl, hV⟩)
                        refine hKQ.out _ _ (by trivial) (fun hHeld2 => ?_)
                        clear hHeld hKQ KQ; have hHeld := hHeld2; clear hHeld2
                        (try simp only [Act.put, List.setIfInBounds_toArray, List.set_cons_zero, List.set_cons_succ])
                        refine wpAnyH_take (i := 10) (oi := ?oi220) (v := ?v220) ?hi220 (by kernel_rfl) (by kernel_rfl) (by kernel_rfl) ?hQ220 ?hy220 (by assumption) ?_
                        case hi220 => (simp only [List.getElem?_toArray, List.getElem?_cons_succ, List.getElem?_cons_zero]; rfl)
                        case hQ220 => exact fun _ _ _ h => h
                        case hy220 => (refine Or.inl ⟨by rfl, ?_⟩; intro wq hSw; (try dsimp only at hSw); go_simp; (try with_reducible rfl))
                        (try simp only [Act.put, List.setIfInBounds_toArray, List.set_cons_zero, List.set_cons_succ])
                        refine wpAnyH_take (i := 11) (oi := ?oi221) (v := ?v221) ?hi221 (by kernel_rfl) (by kernel_rfl) (by kernel_rfl) ?hQ221 ?hy221 (by assumption) ?_
                        case hi221 => (simp only [List.getElem?_toArray, List.getElem?_cons_succ, List.getElem?_cons_zero]; rfl)
                        case hQ221 => exact fun _ _ _ h => h
                        case hy221 => (refine Or.inl ⟨by rfl, ?_⟩; intro wq hSw; (try dsimp only at hSw); go_simp; (try with_reducible rfl))
                        (try simp only [Act.put, List.setIfInBounds_toArray, List.set_cons_zero, List.set_cons_succ])
                        refine wpAnyH_done (by kernel_rfl) ?_ _
                        cases bb
                        · gi_wp2
                          go_ret
                          rcases hV with ⟨h, _⟩ | ⟨_, pre', hp⟩
                          · cases h
                          · exact ⟨false, rfl, .inr ⟨rfl, pre', hp⟩⟩
                        · rcases hV with ⟨_, ys, hys, hJ5, hE5, hB5⟩ | ⟨h, _⟩
                          · gi_wp2
                            go_roundw
                            case rel => exact ⟨k + 1, xs ++ ys, by go_num, by omega, by rw [List.map_append, HXS.out, hys, HEX.out], by rw [← List.append_assoc]; exact hJ5, hE5, hB5⟩
                            case measure => simp [intOf]; omega
                          · cases h
        · have hkk : k = ks.length := by omega
          have HX3 : Hid (xs.map (·.1.2) = examS q ks) := Lib.hid (by rw [HXS.out, hkk, List.take_length])
          clear hkk
          gi_wp2
          go_ret
          exact ⟨true, rfl, .inl ⟨rfl, x0 :: xs, by rw [List.map_cons, HX3.out, HX2.out], by simpa using hJ4, hE4, hB4⟩⟩

end Go.Proofs.Ytahmkinppighkaa
