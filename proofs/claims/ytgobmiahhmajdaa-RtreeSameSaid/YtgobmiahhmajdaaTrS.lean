/- The reference of packed trees: Search, Stab, Bounds, Visits. -/
import Derived.Test.YtgobmiahhmajdaaTrQ
set_option linter.unusedSimpArgs false
set_option linter.unusedVariables false
namespace Go.Proofs.Ytgobmiahhmajdaa
open Go.RowKit


/-- what the reference's search finds -/
def rsF (Lo : List Bxs) (q : Rct) : List Int := putsF ((Lo.filter fun b => ovlB b.1 q).map (·.2))
def ctB (b : Bxs) (x y : Int) : Bool := decide (b.1.1.1 ≤ x) && decide (x < b.1.1.2) && decide (b.1.2.1 ≤ y) && decide (y < b.1.2.2)
def rtF (Lo : List Bxs) (x y : Int) : List Int := putsF ((Lo.filter fun b => ctB b x y).map (·.2))
def rbF (Lo : List Bxs) : Rct × Bool := match Lo with | [] => (((0, 0), (0, 0)), false) | b :: l => ((b :: l).foldl (fun r x => jn r x.1) b.1, true)
theorem put_step (p : Bxs → Bool) (acc : List Int) (l : List Bxs) {k : Nat} (h : k < l.length) : (((l.drop k).filter p).map (·.2)).foldl putF acc = (((l.drop (k + 1)).filter p).map (·.2)).foldl putF (if p l[k] then putF acc l[k].2 else acc) := by
  rw [List.drop_eq_getElem_cons h, List.filter_cons]
  cases hp : p l[k] <;> simp
theorem putF_length (l : List Int) (n : Int) : (putF l n).length ≤ l.length + 1 := by
  unfold putF
  rw [List.length_append, List.length_cons]
  have h1 : (l.filter fun x => decide (x < n)).length + (l.filter fun x => decide (n < x)).length ≤ l.length := by
    induction l with
    | nil => simp
    | cons x l ih => simp only [List.filter_cons]; split <;> split <;> simp_all <;> omega
  omega
set_option maxRecDepth 100000 in
set_option maxHeartbeats 4000000 in
theorem rsearch_any (x : Value) (Lo : List Bxs) (root : Option Tr) (d : Int) (q : Rct) (w : World) (hT : RTree w x Lo root d) :
    Calls Try.prog 18 #[x, rx q] w (RdP 1 (rsF Lo q).length (ic (rsF Lo q)) w) := by
  obtain ⟨wd, A, c, r, u, v, rfl, hLl, hR, _, hu, hv⟩ := hT
  have HF : Hid (rsF Lo q = ((Lo.filter fun b => ovlB b.1 q).map (·.2)).foldl putF []) := Lib.hid rfl
  generalize rsF Lo q = res at HF ⊢
  go_enter Try.func18, Try.ntmps18
  go_wp2
  go_loopw [5, 11] (fun out i wr => ∃ (k : Nat) (acc : List Int) (B : Option Addr) (cb : Nat), k ≤ Lo.length ∧ i = .int .i64 k ∧ out = .slice B acc.length cb ∧ acc.length ≤ k ∧ Rd wr 1 B acc.length (ic acc) ∧ Hid (res = (((Lo.drop k).filter fun b => ovlB b.1 q).map (·.2)).foldl putF acc) ∧ Ext ((w.alloc (.cells #[.int .i64 wd, .slice A Lo.length c, .int .i64 r.1.1, .int .i64 r.1.2, .int .i64 r.2.1, .int .i64 r.2.2, u, v, .int .i64 d] 36)).alloc (.cells #[.int .i64 q.1.1, .int .i64 q.1.2, .int .i64 q.2.1, .int .i64 q.2.2] 31)) wr) (fun _ i _ => Lo.length - (intOf i).toNat)
  case atStart => exact ⟨0, [], none, 0, Nat.zero_le _, rfl, rfl, Nat.le_refl _, Rd.nil, HF, Ext.refl' _⟩
  case round =>
    obtain ⟨k, acc, B, cb, hk, rfl, rfl, hal, hB, HC, hE⟩ := hrel
    obtain ⟨y, rfl⟩ := hE.get
    clear hE
    by_cases hlt : k < Lo.length
    · obtain ⟨b, o, rfl, hb, e0, e1, e2, e3, e4⟩ := hR.box rfl hlt
      have HS := Lib.hid (put_step (fun b => ovlB b.1 q) acc Lo hlt)
      generalize Lo[k] = bb at e0 e1 e2 e3 e4 HS
      obtain ⟨br, bi⟩ := bb
      simp only at e0 e1 e2 e3 e4
      have HOV := Lib.hid (fun w => roverlapX_any br q w)
      rcases hov : ovlB br q with _ | _
      · rw [hov] at HOV
        have HN : Hid (res = (((Lo.drop (k + 1)).filter fun b => ovlB b.1 q).map (·.2)).foldl putF acc) := Lib.hid (by rw [HC.out, HS.out]; simp [hov])
        clear hov HS
        go_wp2_with (go_at_call 26; refine (HOV.out _).mono ?_; rintro e w1 ⟨rfl, hb1⟩; obtain ⟨x1, rfl⟩ := hb1.get; clear hb1)
        go_roundw
        case rel => exact ⟨k + 1, acc, B, cb, by omega, by go_num, rfl, by omega, hB.ext (by repeat (first | exact Ext.refl' _ | assumption | apply Ext.ex' | apply Ext.al | apply Ext.drN | apply Ext.dr)), HN, by repeat (first | exact Ext.refl' _ | assumption | apply Ext.ex' | apply Ext.al | apply Ext.drN | apply Ext.dr)⟩
        case measure => simp [intOf]; omega
      · rw [hov] at HOV
        have HN : Hid (res = (((Lo.drop (k + 1)).filter fun b => ovlB b.1 q).map (·.2)).foldl putF (putF acc bi)) := Lib.hid (by rw [HC.out, HS.out]; simp [hov])
        have hpl := putF_length acc bi
        have HP := Lib.hid (fun w h => put_any B cb acc bi w h (by omega))
        generalize putF acc bi = acc2 at HN hpl HP
        clear hov HS
        go_wp2_with (first | (go_at_call 26; refine (HOV.out _).mono ?_; rintro e w1 ⟨rfl, hb1⟩; obtain ⟨x1, rfl⟩ := hb1.get; clear hb1) | (go_at_call 41; refine (HP.out _ (hB.ext (by repeat (first | exact Ext.refl' _ | assumption | apply Ext.ex' | apply Ext.al | apply Ext.drN | apply Ext.dr)))).mono ?_; rintro e w1 ⟨A2, c2, rfl, hb1, hR2⟩; obtain ⟨x2, rfl⟩ := hb1.get; clear hb1))
        go_roundw
        case rel => exact ⟨k + 1, acc2, A2, c2, by omega, by go_num, rfl, by omega, hR2, HN, by repeat (first | exact Ext.refl' _ | assumption | apply Ext.ex' | apply Ext.al | apply Ext.drN | apply Ext.dr)⟩
        case measure => simp [intOf]; omega
    · have H0 : Hid (res = acc) := Lib.hid (by rw [HC.out, List.drop_eq_nil_of_le (Nat.le_of_not_lt hlt)]; rfl)
      go_wp2
      go_ret
      exact ⟨B, cb, by rw [H0.out]; rfl, by repeat (first | exact Ext.refl' _ | assumption | apply Ext.ex' | apply Ext.al | apply Ext.drN | apply Ext.dr), by rw [H0.out]; exact hB⟩


set_option maxRecDepth 100000 in
set_option maxHeartbeats 4000000 in
theorem rstab_any (x : Value) (Lo : List Bxs) (root : Option Tr) (d : Int) (px py : Int) (w : World) (hT : RTree w x Lo root d) :
    Calls Try.prog 22 #[x, .int .i64 px, .int .i64 py] w (RdP 1 (rtF Lo px py).length (ic (rtF Lo px py)) w) := by
  obtain ⟨wd, A, c, r, u, v, rfl, hLl, hR, _, hu, hv⟩ := hT
  have HF : Hid (rtF Lo px py = ((Lo.filter fun b => ctB b px py).map (·.2)).foldl putF []) := Lib.hid rfl
  generalize rtF Lo px py = res at HF ⊢
  go_enter Try.func22, Try.ntmps22
  go_wp2
  go_loopw [7, 13] (fun out i wr => ∃ (k : Nat) (acc : List Int) (B : Option Addr) (cb : Nat), k ≤ Lo.length ∧ i = .int .i64 k ∧ out = .slice B acc.length cb ∧ acc.length ≤ k ∧ Rd wr 1 B acc.length (ic acc) ∧ Hid (res = (((Lo.drop k).filter fun b => ctB b px py).map (·.2)).foldl putF acc) ∧ Ext (w.alloc (.cells #[.int .i64 wd, .slice A Lo.length c, .int .i64 r.1.1, .int .i64 r.1.2, .int .i64 r.2.1, .int .i64 r.2.2, u, v, .int .i64 d] 36)) wr) (fun _ i _ => Lo.length - (intOf i).toNat)
  case atStart => exact ⟨0, [], none, 0, Nat.zero_le _, rfl, rfl, Nat.le_refl _, Rd.nil, HF, Ext.refl' _⟩
  case round =>
    obtain ⟨k, acc, B, cb, hk, rfl, rfl, hal, hB, HC, hE⟩ := hrel
    obtain ⟨y, rfl⟩ := hE.get
    clear hE
    by_cases hlt : k < Lo.length
    · obtain ⟨b, o, rfl, hb, e0, e1, e2, e3, e4⟩ := hR.box rfl hlt
      have HS := Lib.hid (put_step (fun b => ctB b px py) acc Lo hlt)
      generalize Lo[k] = bb at e0 e1 e2 e3 e4 HS
      obtain ⟨br, bi⟩ := bb
      simp only at e0 e1 e2 e3 e4
      by_cases hin : br.1.1 ≤ px ∧ px < br.1.2 ∧ br.2.1 ≤ py ∧ py < br.2.2
      · obtain ⟨q1, q2, q3, q4⟩ := hin
        have HN : Hid (res = (((Lo.drop (k + 1)).filter fun b => ctB b px py).map (·.2)).foldl putF (putF acc bi)) := Lib.hid (by rw [HC.out, HS.out, if_pos (by simp [ctB]; omega)])
        have hpl := putF_length acc bi
        have HP := Lib.hid (fun w h => put_any B cb acc bi w h (by omega))
        generalize putF acc bi = acc2 at HN hpl HP
        clear HS
        go_wp2_with (go_at_call 41; refine (HP.out _ (hB.ext (by repeat (first | exact Ext.refl' _ | assumption | apply Ext.ex' | apply Ext.al | apply Ext.drN | apply Ext.dr)))).mono ?_; rintro e w1 ⟨A2, c2, rfl, hb1, hR2⟩; obtain ⟨x2, rfl⟩ := hb1.get; clear hb1)
        go_roundw
        case rel => exact ⟨k + 1, acc2, A2, c2, by omega, by go_num, rfl, by omega, hR2, HN, by repeat (first | exact Ext.refl' _ | assumption | apply Ext.ex' | apply Ext.al | apply Ext.drN | apply Ext.dr)⟩
        case measure => simp [intOf]; omega
      · have HN : Hid (res = (((Lo.drop (k + 1)).filter fun b => ctB b px py).map (·.2)).foldl putF acc) := Lib.hid (by rw [HC.out, HS.out, if_neg (by simp [ctB]; omega)])
        clear HS
        rcases (show ¬ br.1.1 ≤ px ∨ (br.1.1 ≤ px ∧ ¬ px < br.1.2) ∨ (br.1.1 ≤ px ∧ px < br.1.2 ∧ ¬ br.2.1 ≤ py) ∨ (br.1.1 ≤ px ∧ px < br.1.2 ∧ br.2.1 ≤ py ∧ ¬ py < br.2.2) from by omega) with h1 | ⟨h1, h2⟩ | ⟨h1, h2, h3⟩ | ⟨h1, h2, h3, h4⟩
        all_goals
          clear hin
          go_wp2
          go_roundw
          case rel => exact ⟨k + 1, acc, B, cb, by omega, by go_num, rfl, by omega, hB.ext (by repeat (first | exact Ext.refl' _ | assumption | apply Ext.ex' | apply Ext.al | apply Ext.drN | apply Ext.dr)), HN, by repeat (first | exact Ext.refl' _ | assumption | apply Ext.ex' | apply Ext.al | apply Ext.drN | apply Ext.dr)⟩
          case measure => simp [intOf]; omega
    · have H0 : Hid (res = acc) := Lib.hid (by rw [HC.out, List.drop_eq_nil_of_le (Nat.le_of_not_lt hlt)]; rfl)
      go_wp2
      go_ret
      exact ⟨B, cb, by rw [H0.out]; rfl, by repeat (first | exact Ext.refl' _ | assumption | apply Ext.ex' | apply Ext.al | apply Ext.drN | apply Ext.dr), by rw [H0.out]; exact hB⟩
set_option maxRecDepth 100000 in
set_option maxHeartbeats 4000000 in
theorem rbounds_any (x : Value) (Lo : List Bxs) (root : Option Tr) (d : Int) (w : World) (hT : RTree w x Lo root d) :
    Calls Try.prog 13 #[x] w fun e w' => e = .returned (.tuple #[rx (rbF Lo).1, .bool (rbF Lo).2]) ∧ Ext w w' := by
  obtain ⟨wd, A, c, r, u, v, rfl, hLl, hR, _, hu, hv⟩ := hT
  by_cases h0 : Lo.length = 0
  · obtain rfl : Lo = [] := List.eq_nil_of_length_eq_zero h0
    clear h0
    go_enter Try.func13, Try.ntmps13
    go_wp2
    refine bodyPost_ret (v := .tuple #[rx ((0, 0), (0, 0)), .bool false]) ?_ rfl ⟨rfl, by repeat (first | exact Ext.refl' _ | assumption | apply Ext.ex' | apply Ext.al | apply Ext.drN | apply Ext.dr)⟩
    simp [results, Try.results13, go_sem, ↓IntWalk.iteOmega]
  · have hlp : 0 < Lo.length := by omega
    obtain ⟨b, o, rfl, hb, d0, d1, d2, d3, _⟩ := hR.box rfl hlp
    simp only [Nat.zero_mul, Nat.add_zero] at d0 d1 d2 d3
    have HB : Hid (rbF Lo = (rL Lo[0].1 Lo Lo.length, true)) := Lib.hid (by
      cases Lo with
      | nil => simp at hlp
      | cons b l => unfold rL; rw [List.take_length]; rfl)
    generalize hcc : Lo[0].1 = c0 at d0 d1 d2 d3 HB
    clear hcc
    rw [HB.out]
    have hLb : ((Lo.length : Int) == 0) = false := by rw [beq_eq_false_iff_ne]; omega
    clear HB h0
    go_enter Try.func13, Try.ntmps13
    go_wp2
    go_loopw [20] (fun i wr => ∃ k : Nat, k ≤ Lo.length ∧ i = .int .i64 k ∧ Ext (((w.alloc (.cells #[.int .i64 wd, .slice (some ⟨b, o, none⟩) Lo.length c, .int .i64 r.1.1, .int .i64 r.1.2, .int .i64 r.2.1, .int .i64 r.2.2, u, v, .int .i64 d] 36)).alloc (.cells #[.int .i64 0, .int .i64 0, .int .i64 0, .int .i64 0] 31)).alloc (.cells #[.int .i64 (rL c0 Lo k).1.1, .int .i64 (rL c0 Lo k).1.2, .int .i64 (rL c0 Lo k).2.1, .int .i64 (rL c0 Lo k).2.2] 31)) wr) (fun i _ => Lo.length - (intOf i).toNat)
    case atStart => exact ⟨0, Nat.zero_le _, rfl, Ext.refl' _⟩
    case round =>
      obtain ⟨k, hk, rfl, hE⟩ := hrel
      obtain ⟨y, rfl⟩ := hE.get
      clear hE
      by_cases hlt : k < Lo.length
      · obtain ⟨b', o', he, _, e0, e1, e2, e3, e4⟩ := hR.box rfl hlt
        simp only [Option.some.injEq, Addr.mk.injEq, and_true] at he
        obtain ⟨rfl, rfl⟩ := he
        have HJ := Lib.hid (rL_succ c0 Lo hlt)
        generalize Lo[k] = ck at e0 e1 e2 e3 e4 HJ
        generalize rL c0 Lo k = rk at HJ ⊢
        have HJN := Lib.hid (fun w => around_any rk ck.1 w)
        go_wp2_with (go_at_call 37; refine (HJN.out _).mono ?_; rintro e w1 ⟨rfl, hb1⟩; obtain ⟨x1, rfl⟩ := hb1.get; clear hb1)
        go_roundw
        case rel => exact ⟨k + 1, by omega, by go_num, by rw [HJ.out]; exact (by repeat (first | exact Ext.refl' _ | assumption | apply Ext.ex' | apply Ext.al | apply Ext.drN | apply Ext.dr))⟩
        case measure => simp [intOf]; omega
      · have HK : Hid (rL c0 Lo k = rL c0 Lo Lo.length) := Lib.hid (by rw [show k = Lo.length by omega])
        generalize rL c0 Lo k = rk at HK ⊢
        go_wp2
        refine bodyPost_ret (v := .tuple #[rx rk, .bool true]) ?_ rfl ⟨by rw [← HK.out], by repeat (first | exact Ext.refl' _ | assumption | apply Ext.ex' | apply Ext.al | apply Ext.drN | apply Ext.dr)⟩
        simp [results, Try.results13, go_sem, ↓IntWalk.iteOmega]


theorem exam_len_pos (q : Rct) (t : Tr) : 1 ≤ (exam q t).length := exam_pos q t
theorem examS_eq (q : Rct) : ∀ l : List Tr, (examS q l).length = (l.map fun k => if ovlB k.r q then (exam q k).length else 0).sum
  | [] => rfl
  | k :: l => by
    rw [examS, List.length_append, examS_eq q l, List.map_cons, List.sum_cons]
    congr 1
    split <;> simp
set_option maxRecDepth 100000 in
set_option maxHeartbeats 4000000 in
theorem rvisits_in (q : Rct) (m : Nat) : ∀ (t : Tr) (u v : Value), SizeOf.sizeOf t = m → ∀ (w : World), RM w t (nodc t.r u v) → (exam q t).length ≤ 1048576 →
    Calls Try.prog 42 #[nodg t.r u v, rx q] w fun e w' => e = .returned (.int .i64 ((exam q t).length : Nat)) ∧ Ext w w' := by
  induction m using Nat.strongRecOn with
  | _ m ih =>
    intro t u v hm w hM hE
    have IH := Lib.hid ih
    have HM := Lib.hid hm
    clear ih hm
    obtain ⟨A0, c0, A, c, css, hcs, hkl, hR, hT⟩ := hM.form
    simp only [nodc, List.cons.injEq, and_true, true_and] at hcs
    obtain ⟨rfl, rfl⟩ := hcs
    have HSZ := Lib.hid (fun k (hk : k ∈ t.ks) => sz_kid hk)
    have HEX : Hid ((exam q t).length = (examS q t.ks).length + 1) := Lib.hid (by rw [exam_eq]; rfl)
    rw [HEX.out] at hE
    generalize (exam q t).length = ex at HEX ⊢
    generalize t.bs.length = nb
    generalize t.r = tr
    clear hM
    generalize t.ks = ks at hkl hR hT HSZ HEX hE ⊢
    go_enter Try.func42, Try.ntmps42
    go_wp2
    go_loopw [5, 11] (fun out i wr => ∃ k : Nat, k ≤ ks.length ∧ i = .int .i64 k ∧ out = .int .i64 (((examS q (ks.take k)).length + 1 : Nat)) ∧ Ext ((w.alloc (.cells #[.int .i64 tr.1.1, .int .i64 tr.1.2, .int .i64 tr.2.1, .int .i64 tr.2.2, .slice A0 nb c0, .slice A ks.length c] 34)).alloc (.cells #[.int .i64 q.1.1, .int .i64 q.1.2, .int .i64 q.2.1, .int .i64 q.2.2] 31)) wr) (fun _ i _ => ks.length - (intOf i).toNat)
    case atStart => exact ⟨0, Nat.zero_le _, rfl, rfl, Ext.refl' _⟩
    case round =>
      obtain ⟨k, hk, rfl, rfl, hE1⟩ := hrel
      obtain ⟨y, rfl⟩ := hE1.get
      clear hE1
      by_cases hlt : k < ks.length
      · obtain ⟨b, o, rfl, hb, Ab, cb, A', c', css', e0, e1, e2, e3, e4, e5, hkl2, _, _, hM2⟩ := RM.arg hR hT hlt
        have HST := Lib.hid (examS_take q ks hlt)
        have hle := examS_take_le q ks (k + 1)
        have hsz := HSZ.out ks[k] (List.getElem_mem hlt)
        have hmm : SizeOf.sizeOf ks[k] < m := by have := HM.out; omega
        have HIH := Lib.hid (fun (w : World) (h1 : RM w ks[k] (nodc ks[k].r (.slice Ab ks[k].bs.length cb) (.slice A' ks[k].ks.length c'))) (h2 : (exam q ks[k]).length ≤ 1048576) => IH.out _ hmm ks[k] (.slice Ab ks[k].bs.length cb) (.slice A' ks[k].ks.length c') rfl w h1 h2)
        have HM2 := Lib.hid hM2
        clear hsz hmm hM2
        generalize hl0 : (examS q (ks.take k)).length = ek at hle ⊢
        have HL0 := Lib.hid hl0
        clear hl0
        generalize hl1 : (examS q (ks.take (k + 1))).length = ek1 at hle
        have HL1 := Lib.hid hl1
        clear hl1
        rcases hov : ovlB ks[k].r q with _ | _
        · have HN : Hid (ek1 = ek) := Lib.hid (by rw [← HL1.out, ← HL0.out, HST.out, hov]; simp)
          clear HIH HM2
          generalize ks[k].bs.length = nb2 at e4
          generalize ks[k].ks.length = nk2 at e5
          have HOV := Lib.hid (fun w => roverlapX_any ks[k].r q w)
          rw [hov] at HOV
          clear hov HST
          generalize ks[k].r = rk at e0 e1 e2 e3 HOV
          go_wp2_with (go_at_call 26; refine (HOV.out _).mono ?_; rintro e w1 ⟨rfl, hb1⟩; obtain ⟨x1, rfl⟩ := hb1.get; clear hb1)
          go_roundw
          case rel => exact ⟨k + 1, by omega, by go_num, (by rw [HL1.out, HN.out]; first | rfl | go_num), by repeat (first | exact Ext.refl' _ | assumption | apply Ext.ex' | apply Ext.al | apply Ext.drN | apply Ext.dr)⟩
          case measure => simp [intOf]; omega
        · have HN : Hid (ek1 = ek + (exam q ks[k]).length) := Lib.hid (by rw [← HL1.out, ← HL0.out, HST.out, hov]; simp)
          have hxl : (exam q ks[k]).length ≤ 1048576 := by have := HN.out; omega
          have hek : ek ≤ 1048576 := by have := HN.out; omega
          have HV := Lib.hid (fun (w2 : World) (h : Ext w w2) => HIH.out w2 (HM2.out.ext h) hxl)
          clear HIH HM2
          have HOV := Lib.hid (fun w => roverlapX_any ks[k].r q w)
          rw [hov] at HOV
          clear hov HST
          generalize (exam q ks[k]).length = xk at HN HV hxl
          generalize ks[k].bs.length = nb2 at e4 HV
          generalize ks[k].ks.length = nk2 at e5 HV
          generalize ks[k].r = rk at e0 e1 e2 e3 HOV HV
          go_wp2_with (first | (go_at_call 26; refine (HOV.out _).mono ?_; rintro e w1 ⟨rfl, hb1⟩; obtain ⟨x1, rfl⟩ := hb1.get; clear hb1) | (go_at_call 42; refine (HV.out _ (by repeat (first | exact Ext.refl' _ | assumption | apply Ext.ex' | apply Ext.al | apply Ext.drN | apply Ext.dr))).mono ?_; rintro e w1 ⟨rfl, hb1⟩; obtain ⟨x2, rfl⟩ := hb1.get; clear hb1))
          go_roundw
          case rel => exact ⟨k + 1, by omega, by go_num, by rw [HL1.out, HN.out]; go_num, by repeat (first | exact Ext.refl' _ | assumption | apply Ext.ex' | apply Ext.al | apply Ext.drN | apply Ext.dr)⟩
          case measure => simp [intOf]; omega
      · have hkk : (examS q (ks.take k)).length + 1 = ex := by rw [HEX.out, List.take_of_length_le (Nat.le_of_not_lt hlt)]
        have HKK := Lib.hid hkk
        clear hkk
        go_wp2
        go_ret
        exact ⟨by rw [← HKK.out]; rfl, by repeat (first | exact Ext.refl' _ | assumption | apply Ext.ex' | apply Ext.al | apply Ext.drN | apply Ext.dr)⟩
set_option maxRecDepth 100000 in
set_option maxHeartbeats 4000000 in
theorem rvisitsT_any (x : Value) (Lo : List Bxs) (root : Option Tr) (d : Int) (q : Rct) (w : World) (hT : RTree w x Lo root d) (hN : (exQ q root).length ≤ 1048576) :
    Calls Try.prog 20 #[x, rx q] w fun e w' => e = .returned (.int .i64 ((exQ q root).length : Nat)) ∧ Ext w w' := by
  obtain ⟨wd, A, c, r, u, v, rfl, hLl, hR, h, hu, hv⟩ := hT
  rcases h with ⟨rfl, rfl⟩ | ⟨t, rfl, hne, hM⟩
  · go_enter Try.func20, Try.ntmps20
    go_wp2
    go_ret
    exact ⟨rfl, by repeat (first | exact Ext.refl' _ | assumption | apply Ext.ex' | apply Ext.al | apply Ext.drN | apply Ext.dr)⟩
  · have hLb : ((Lo.length : Int) == 0) = false := by rw [beq_eq_false_iff_ne]; intro h; exact hne (List.eq_nil_of_length_eq_zero (by omega))
    have hr : r = t.r := by
      obtain ⟨_, _, _, _, _, hcs, _⟩ := hM.form
      simp only [nodc, List.cons.injEq, Value.int.injEq, true_and, and_true] at hcs
      obtain ⟨h1, h2, h3, h4, _⟩ := hcs
      exact Prod.ext (Prod.ext h1 h2) (Prod.ext h3 h4)
    subst hr
    have HV := Lib.hid (fun w => rvalidX_any q w)
    rcases hvq : rvB q with _ | _
    · rw [hvq] at HV
      have HX : Hid ((exQ q (some t)).length = 0) := Lib.hid (by simp [exQ, hvq])
      clear hvq hne
      generalize (exQ q (some t)).length = n at HX hN ⊢
      go_enter Try.func20, Try.ntmps20
      go_wp2_with (go_at_call 23; refine (HV.out _).mono ?_; rintro e w1 ⟨rfl, hb1⟩; obtain ⟨x1, rfl⟩ := hb1.get; clear hb1)
      go_ret
      exact ⟨by rw [HX.out]; rfl, by repeat (first | exact Ext.refl' _ | assumption | apply Ext.ex' | apply Ext.al | apply Ext.drN | apply Ext.dr)⟩
    · rw [hvq] at HV
      have hX : exQ q (some t) = exam q t := by simp [exQ, hvq]
      rw [hX] at hN ⊢
      have HC := Lib.hid (fun (w2 : World) (h : Ext w w2) => rvisits_in q _ t u v rfl w2 (hM.ext h) hN)
      clear hvq hX hne hM
      generalize (exam q t).length = n at HC hN ⊢
      generalize t.r = tr at HC
      go_enter Try.func20, Try.ntmps20
      go_wp2_with (first | (go_at_call 23; refine (HV.out _).mono ?_; rintro e w1 ⟨rfl, hb1⟩; obtain ⟨x1, rfl⟩ := hb1.get; clear hb1) | (go_at_call 42; refine (HC.out _ (by repeat (first | exact Ext.refl' _ | assumption | apply Ext.ex' | apply Ext.al | apply Ext.drN | apply Ext.dr))).mono ?_; rintro e w1 ⟨rfl, hb1⟩; obtain ⟨x2, rfl⟩ := hb1.get; clear hb1))
      go_ret
      exact ⟨rfl, by repeat (first | exact Ext.refl' _ | assumption | apply Ext.ex' | apply Ext.al | apply Ext.drN | apply Ext.dr)⟩

end Go.Proofs.Ytgobmiahhmajdaa
