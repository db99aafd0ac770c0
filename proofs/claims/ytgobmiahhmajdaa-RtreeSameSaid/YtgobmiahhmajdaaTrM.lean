/- The reference of packed trees: Check, ordered. -/
import Derived.Test.YtgobmiahhmajdaaTrL
set_option linter.unusedSimpArgs false
set_option linter.unusedVariables false
namespace Go.Proofs.Ytgobmiahhmajdaa
open Go.RowKit


def errR (wd : Int) (L : List Bxs) : Int := if wd < 2 ∨ 64 < wd then 6 else if 4096 < L.length then 5 else chkF [] L
theorem Rd.takeB {w : World} {b o n : Nat} {l : List Bxs} (h : Rd w 5 (some ⟨b, o, none⟩) n (bxl l)) (hn : n = l.length) (k : Nat) (hk : k ≤ n) : Rd w 5 (some ⟨b, o, none⟩) (l.take k).length (bxl (l.take k)) := by
  have h1 := h.1
  refine ⟨bxl_length _, fun h0 => ?_⟩
  have hl : (l.take k).length ≤ l.length := by rw [List.length_take]; omega
  obtain ⟨b', o', hA, hb, hc⟩ := h.2 (by omega)
  refine ⟨b', o', hA, hb, fun j u hu => hc j u ?_⟩
  have : bxl l = bxl (l.take k) ++ bxl (l.drop k) := by rw [← bxl_append, List.take_append_drop]
  rw [this, List.getElem?_append_left (List.getElem?_eq_some_iff.1 hu).1]
  exact hu
set_option maxRecDepth 100000 in
set_option maxHeartbeats 8000000 in
theorem rcheck_any (A : Option Addr) (c : Nat) (wd : Int) (L : List Bxs) (w : World) (hR : Rd w 5 A L.length (bxl L)) (hn : L.length ≤ 1048576) (hc : L.length ≤ c) :
    Calls Try.prog 33 #[.slice A L.length c, .int .i64 wd] w fun e w' => e = .returned (.int .i64 (errR wd L)) ∧ Ext w w' := by
  by_cases h1 : wd < 2 ∨ 64 < wd
  · have HE : Hid (errR wd L = 6) := Lib.hid (by simp [errR, h1])
    rcases (show wd < 2 ∨ (2 ≤ wd ∧ 64 < wd) from by omega) with h2 | ⟨h2, h3⟩
    all_goals
      clear h1
      go_enter Try.func33, Try.ntmps33
      go_wp2
      go_ret
      exact ⟨by rw [HE.out]; rfl, by repeat (first | exact Ext.refl' _ | assumption | apply Ext.ex' | apply Ext.al | apply Ext.drN | apply Ext.dr)⟩
  · have hw1 : 2 ≤ wd := by omega
    have hw2 : wd ≤ 64 := by omega
    by_cases hbig : 4096 < L.length
    · have HE : Hid (errR wd L = 5) := Lib.hid (by unfold errR; rw [if_neg h1, if_pos hbig])
      clear h1
      go_enter Try.func33, Try.ntmps33
      go_wp2
      go_ret
      exact ⟨by rw [HE.out]; rfl, by repeat (first | exact Ext.refl' _ | assumption | apply Ext.ex' | apply Ext.al | apply Ext.drN | apply Ext.dr)⟩
    · have HE : Hid (errR wd L = chkF [] L) := Lib.hid (by unfold errR; rw [if_neg h1, if_neg hbig])
      generalize errR wd L = er at HE ⊢
      clear h1
      go_enter Try.func33, Try.ntmps33
      go_wp2
      go_loopw [20] (fun i wr => ∃ k : Nat, k ≤ L.length ∧ i = .int .i64 k ∧ Hid (chkF [] L = chkF ((L.take k).map (·.2)) (L.drop k)) ∧ Ext w wr) (fun i _ => L.length - (intOf i).toNat)
      case atStart => exact ⟨0, Nat.zero_le _, rfl, Lib.hid rfl, Ext.refl' _⟩
      case round =>
        obtain ⟨k, hk, rfl, HC, hE⟩ := hrel
        obtain ⟨x, rfl⟩ := hE.get
        clear hE
        by_cases hlt : k < L.length
        · obtain ⟨b, o, rfl, hb, e0, e1, e2, e3, e4⟩ := hR.box rfl hlt
          have HD := Lib.hid (List.drop_eq_getElem_cons hlt)
          have HT := Lib.hid (List.take_succ_eq_append_getElem hlt)
          have HTB := Lib.hid (hR.takeB rfl k hk)
          have hTl : (L.take k).length = k := by simp; omega
          generalize L[k] = bb at e0 e1 e2 e3 e4 HD HT
          obtain ⟨r, id⟩ := bb
          simp only at e0 e1 e2 e3 e4
          have HV := Lib.hid (fun w => rvalidX_any r w)
          rcases hv : rvB r with _ | _
          · rw [hv] at HV
            have HF : Hid (er = 8) := Lib.hid (by rw [HE.out, HC.out, HD.out, chkF, hv]; rfl)
            clear hv hTl
            go_wp2_with (go_at_call 23; refine (HV.out _).mono ?_; rintro e w1 ⟨rfl, hb1⟩; obtain ⟨x1, rfl⟩ := hb1.get; clear hb1)
            go_ret
            exact ⟨by rw [HF.out]; rfl, by repeat (first | exact Ext.refl' _ | assumption | apply Ext.ex' | apply Ext.al | apply Ext.drN | apply Ext.dr)⟩
          · rw [hv] at HV
            have HF1 : Hid (id ∈ (L.take k).map (·.2) → er = 10) := Lib.hid (fun hm => by rw [HE.out, HC.out, HD.out, chkF, hv, if_pos rfl, if_pos hm])
            have HF2 : Hid (¬ id ∈ (L.take k).map (·.2) → chkF [] L = chkF ((L.take (k + 1)).map (·.2)) (L.drop (k + 1))) := Lib.hid (fun hm => by
              rw [HC.out, HD.out, chkF, hv, if_pos rfl, if_neg hm, HT.out]; simp)
            clear hv HC HT HD
            generalize hP : L.take k = P at HTB hTl HF1 HF2
            have HPk := Lib.hid hP
            clear hP
            have HTl := Lib.hid hTl
            clear hTl
            go_wp2_with (go_at_call 23; refine (HV.out _).mono ?_; rintro e w1 ⟨rfl, hb1⟩; obtain ⟨x1, rfl⟩ := hb1.get; clear hb1)
            go_loopw [33] (fun i wr => ∃ j : Nat, j ≤ k ∧ i = .int .i64 j ∧ Hid (id ∉ (P.take j).map (·.2)) ∧ Ext (ext ((ext w x).alloc (.cells #[.int .i64 r.1.1, .int .i64 r.1.2, .int .i64 r.2.1, .int .i64 r.2.2, .int .i64 id] 55)) x1) wr) (fun i _ => k - (intOf i).toNat)
            case atStart => exact ⟨0, Nat.zero_le _, rfl, Lib.hid (by simp), Ext.refl' _⟩
            case round =>
              obtain ⟨j, hj, rfl, HNm, hE2⟩ := hrel
              obtain ⟨x2, rfl⟩ := hE2.get
              clear hE2
              by_cases hlt2 : j < k
              · have hlt3 : j < P.length := by have := HTl.out; omega
                obtain ⟨b', o', he, _, f0, f1, f2, f3, f4⟩ := HTB.out.box rfl hlt3
                simp only [Option.some.injEq, Addr.mk.injEq, and_true] at he
                obtain ⟨rfl, rfl⟩ := he
                have HT2 := Lib.hid (List.take_succ_eq_append_getElem hlt3)
                have HM := Lib.hid (List.getElem_mem hlt3)
                generalize P[j] = q at f0 f1 f2 f3 f4 HT2 HM
                obtain ⟨qr, qid⟩ := q
                simp only at f0 f1 f2 f3 f4
                by_cases hid : qid = id
                · have hq : (qid == id) = true := by simp [hid]
                  have HX : Hid (er = 10) := Lib.hid (HF1.out (List.mem_map.2 ⟨_, HM.out, hid⟩))
                  clear hid
                  go_wp2
                  go_ret
                  exact ⟨by rw [HX.out]; rfl, by repeat (first | exact Ext.refl' _ | assumption | apply Ext.ex' | apply Ext.al | apply Ext.drN | apply Ext.dr)⟩
                · have hq : (qid == id) = false := by simp [hid]
                  have HX : Hid (id ∉ (P.take (j + 1)).map (·.2)) := Lib.hid (by
                    rw [HT2.out, List.map_append, List.mem_append]
                    rintro (h | h)
                    · exact HNm.out h
                    · simp at h; exact hid h.symm)
                  clear hid
                  go_wp2
                  go_roundw
                  case rel => exact ⟨j + 1, by omega, by go_num, HX, by repeat (first | exact Ext.refl' _ | assumption | apply Ext.ex' | apply Ext.al | apply Ext.drN | apply Ext.dr)⟩
                  case measure => simp [intOf]; omega
              · have HX : Hid (chkF [] L = chkF ((L.take (k + 1)).map (·.2)) (L.drop (k + 1))) := Lib.hid (HF2.out (by
                  have := HNm.out
                  rwa [List.take_of_length_le (by have := HTl.out; omega)] at this))
                go_wp2
                go_roundw
                case rel => exact ⟨k + 1, by omega, by go_num, HX, by repeat (first | exact Ext.refl' _ | assumption | apply Ext.ex' | apply Ext.al | apply Ext.drN | apply Ext.dr)⟩
                case measure => simp [intOf]; omega
        · have HF : Hid (er = 0) := Lib.hid (by rw [HE.out, HC.out, List.drop_eq_nil_of_le (Nat.le_of_not_lt hlt)]; rfl)
          go_wp2
          go_ret
          exact ⟨by rw [HF.out]; rfl, by repeat (first | exact Ext.refl' _ | assumption | apply Ext.ex' | apply Ext.al | apply Ext.drN | apply Ext.dr)⟩


theorem fb_take (p : Bxs → Bool) (l : List Bxs) {k : Nat} (h : k < l.length) : (l.take (k + 1)).filter p = (l.take k).filter p ++ if p l[k] then [l[k]] else [] := by
  rw [List.take_succ_eq_append_getElem h, List.filter_append]
  congr 1
  cases hp : p l[k] <;> simp [hp]
set_option maxRecDepth 100000 in
set_option maxHeartbeats 8000000 in
theorem ordered_any (A : Option Addr) (c : Nat) (L : List Bxs) (w : World) (hR : Rd w 5 A L.length (bxl L)) (hn : L.length ≤ 1048576) :
    Calls Try.prog 34 #[.slice A L.length c] w (fun e w' => ∃ A c, e = .returned (.slice A (ordF L).length c) ∧ Ext w w' ∧ Rd w' 5 A (ordF L).length (bxl (ordF L)) ∧ (∀ a, A = some a → w.heap.size ≤ a.block) ∧ (ordF L).length ≤ c ∧ c ≤ 9223372036854775807) := by
  go_enter Try.func34, Try.ntmps34
  go_wp2
  go_loopw [3, 13] (fun out i wr => ∃ (k : Nat) (S : List Bxs) (A5 : Option Addr) (c5 : Nat), k ≤ L.length ∧ i = .int .i64 k ∧ out = .slice A5 S.length c5 ∧ S.length ≤ k ∧ Rd wr 5 A5 S.length (bxl S) ∧ ((∀ a, A5 = some a → w.heap.size ≤ a.block) ∧ S.length ≤ c5 ∧ c5 ≤ 9223372036854775807) ∧ Ext w wr ∧ Hid (ordF L = (L.drop k).foldl ordS S)) (fun _ i _ => L.length - (intOf i).toNat)
  case atStart => exact ⟨0, [], none, 0, Nat.zero_le _, rfl, rfl, Nat.le_refl _, Rd.nil, ⟨fun a h => (by cases h), by simp, by omega⟩, Ext.refl' _, Lib.hid rfl⟩
  case round =>
    obtain ⟨k, S, A5, c5, hk, rfl, rfl, hSk, hS5, hlo5, hE, HC⟩ := hrel
    obtain ⟨x0, rfl⟩ := hE.get
    clear hE
    by_cases hlt : k < L.length
    · obtain ⟨b, o, rfl, hb, e0, e1, e2, e3, e4⟩ := hR.box rfl hlt
      have HD := Lib.hid (List.drop_eq_getElem_cons hlt)
      generalize L[k] = xb at e0 e1 e2 e3 e4 HD
      have hS : Rd ((ext w x0).alloc (.cells #[.int .i64 xb.1.1.1, .int .i64 xb.1.1.2, .int .i64 xb.1.2.1, .int .i64 xb.1.2.2, .int .i64 xb.2] 55)) 5 A5 S.length (bxl S) := hS5.ext (by repeat (first | exact Ext.refl' _ | assumption | apply Ext.ex' | apply Ext.al | apply Ext.drN | apply Ext.dr))
      clear hS5
      go_wp2
      go_loopw [6, 19] (fun nx i wr => ∃ (j : Nat) (N : List Bxs) (y : Add), j ≤ S.length ∧ i = .int .i64 j ∧ N.length ≤ j ∧ Hid (N = (S.take j).filter fun y => ltB y xb) ∧ wr = ext ((ext w x0).alloc (.cells #[.int .i64 xb.1.1.1, .int .i64 xb.1.1.2, .int .i64 xb.1.2.1, .int .i64 xb.1.2.2, .int .i64 xb.2] 55)) y ∧ Own ((ext w x0).alloc (.cells #[.int .i64 xb.1.1.1, .int .i64 xb.1.1.2, .int .i64 xb.1.2.1, .int .i64 xb.1.2.2, .int .i64 xb.2] 55)) y 55 5 nx N.length (bxl N)) (fun _ i _ => S.length - (intOf i).toNat)
      case atStart => (obtain ⟨y, hy⟩ := (Ext.refl' ((ext w x0).alloc (.cells #[.int .i64 xb.1.1.1, .int .i64 xb.1.1.2, .int .i64 xb.1.2.1, .int .i64 xb.1.2.2, .int .i64 xb.2] 55))).get; exact ⟨0, [], y, Nat.zero_le _, rfl, Nat.le_refl _, Lib.hid rfl, hy, own_nil _ _ _ _⟩)
      case round =>
        obtain ⟨j, N, y, hj, rfl, hNl, HN, rfl, hown⟩ := hrel
        by_cases hlt2 : j < S.length
        · obtain ⟨b2, o2, rfl, hb2, f0, f1, f2, f3, f4⟩ := hS.box rfl hlt2
          have HT2 := Lib.hid (fb_take (fun y => ltB y xb) S hlt2)
          generalize S[j] = yb at f0 f1 f2 f3 f4 HT2
          have HB := Lib.hid (fun w => rbefore_any yb xb w)
          rcases hlb : ltB yb xb with _ | _
          all_goals rw [hlb] at HB
          all_goals simp only [hlb] at HT2
          · have HN2 : Hid (N = (S.take (j + 1)).filter fun y => ltB y xb) := Lib.hid (by rw [HN.out, HT2.out]; simp)
            clear hlb HT2 HN
            go_wp2_with (go_at_call 53; refine (HB.out _).mono ?_; rintro e w1 ⟨rfl, hb1⟩; obtain ⟨x1, rfl⟩ := hb1.get; clear hb1)
            go_roundw
            case rel =>
              obtain ⟨y2, hy2⟩ := (show Ext ((ext w x0).alloc (.cells #[.int .i64 xb.1.1.1, .int .i64 xb.1.1.2, .int .i64 xb.1.2.1, .int .i64 xb.1.2.2, .int .i64 xb.2] 55)) (ext ((ext ((ext w x0).alloc (.cells #[.int .i64 xb.1.1.1, .int .i64 xb.1.1.2, .int .i64 xb.1.2.1, .int .i64 xb.1.2.2, .int .i64 xb.2] 55)) y).alloc (.cells #[.int .i64 yb.1.1.1, .int .i64 yb.1.1.2, .int .i64 yb.1.2.1, .int .i64 yb.1.2.2, .int .i64 yb.2] 55)) x1) from (by repeat (first | exact Ext.refl' _ | assumption | apply Ext.ex' | apply Ext.al | apply Ext.drN | apply Ext.dr))).get
              exact ⟨j + 1, N, y2, by omega, by go_num, by omega, HN2, hy2, Own.of_eq (by repeat (first | exact hown | apply World.ownsRow.alloc | apply own_ext)) hy2⟩
            case measure => simp [intOf]; omega
          · have HN2 : Hid (N ++ [yb] = (S.take (j + 1)).filter fun y => ltB y xb) := Lib.hid (by rw [HN.out, HT2.out]; simp)
            clear hlb HT2 HN
            go_wp2_with (first | (go_at_call 53; refine (HB.out _).mono ?_; rintro e w1 ⟨rfl, hb1⟩; obtain ⟨x1, rfl⟩ := hb1.get; clear hb1) | (at_builtin; refine wpList_app _ rfl (.tmp 26) (.tmp 28) rfl elBox ((ext w x0).alloc (.cells #[.int .i64 xb.1.1.1, .int .i64 xb.1.1.2, .int .i64 xb.1.2.1, .int .i64 xb.1.2.2, .int .i64 xb.2] 55)) (by repeat (first | exact Ext.refl' _ | assumption | apply Ext.ex' | apply Ext.al | apply Ext.drN | apply Ext.dr)) _ _ _ rfl (by repeat (first | exact hown | apply World.ownsRow.alloc | apply own_ext)) _ 1 1 (encX yb) rfl (Rd.lit _ #[.int .i64 yb.1.1.1, .int .i64 yb.1.1.2, .int .i64 yb.1.2.1, .int .i64 yb.1.2.2, .int .i64 yb.2] _ 1 5 rfl (by simp [size_ext])) (by rw [← bxl_one]; exact oneCell_bxl _) (by unfold maxLen; omega) (by omega) ?_; intro v' x' hown' _))
            go_roundw
            case rel => exact ⟨j + 1, N ++ [yb], x', by omega, by go_num, by simp; omega, HN2, rfl, by simpa [bxl_append, bxl_one] using hown'⟩
            case measure => simp [intOf]; omega
        · have HM : Hid (N ++ [xb] = (S.filter fun y => ltB y xb) ++ [xb]) := Lib.hid (by rw [HN.out, List.take_of_length_le (Nat.le_of_not_lt hlt2)])
          clear HN
          go_wp2_with (at_builtin; refine wpList_app _ rfl (.tmp 31) (.tmp 33) rfl elBox ((ext w x0).alloc (.cells #[.int .i64 xb.1.1.1, .int .i64 xb.1.1.2, .int .i64 xb.1.2.1, .int .i64 xb.1.2.2, .int .i64 xb.2] 55)) (by repeat (first | exact Ext.refl' _ | assumption | apply Ext.ex' | apply Ext.al | apply Ext.drN | apply Ext.dr)) _ _ _ rfl (by repeat (first | exact hown | apply World.ownsRow.alloc | apply own_ext)) _ 1 1 (encX xb) rfl (Rd.lit _ #[.int .i64 xb.1.1.1, .int .i64 xb.1.1.2, .int .i64 xb.1.2.1, .int .i64 xb.1.2.2, .int .i64 xb.2] _ 1 5 rfl (by simp [size_ext])) (by rw [← bxl_one]; exact oneCell_bxl _) (by unfold maxLen; omega) (by omega) ?_; intro v' x' hown' _)
          go_loopw [6, 37] (fun nx i wr => ∃ (j : Nat) (N : List Bxs) (y : Add), j ≤ S.length ∧ i = .int .i64 j ∧ N.length ≤ S.length + 1 + j ∧ Hid (N = (S.filter fun y => ltB y xb) ++ [xb] ++ (S.take j).filter fun y => !ltB y xb) ∧ wr = ext ((ext w x0).alloc (.cells #[.int .i64 xb.1.1.1, .int .i64 xb.1.1.2, .int .i64 xb.1.2.1, .int .i64 xb.1.2.2, .int .i64 xb.2] 55)) y ∧ Own ((ext w x0).alloc (.cells #[.int .i64 xb.1.1.1, .int .i64 xb.1.1.2, .int .i64 xb.1.2.1, .int .i64 xb.1.2.2, .int .i64 xb.2] 55)) y 55 5 nx N.length (bxl N)) (fun _ i _ => S.length - (intOf i).toNat)
          case atStart => exact ⟨0, N ++ [xb], x', Nat.zero_le _, rfl, by simp; omega, Lib.hid (by rw [HM.out]; simp), rfl, by simpa [bxl_append, bxl_one] using hown'⟩
          case round =>
            clear hown hown'
            obtain ⟨j, N, y, hj, rfl, hNl, HN, rfl, hown⟩ := hrel
            by_cases hlt2 : j < S.length
            · obtain ⟨b2, o2, rfl, hb2, f0, f1, f2, f3, f4⟩ := hS.box rfl hlt2
              have HT2 := Lib.hid (fb_take (fun y => !ltB y xb) S hlt2)
              generalize S[j] = yb at f0 f1 f2 f3 f4 HT2
              have HB := Lib.hid (fun w => rbefore_any yb xb w)
              rcases hlb : ltB yb xb with _ | _
              all_goals rw [hlb] at HB
              all_goals simp only [hlb] at HT2
              · have HN2 : Hid (N ++ [yb] = (S.filter fun y => ltB y xb) ++ [xb] ++ (S.take (j + 1)).filter fun y => !ltB y xb) := Lib.hid (by rw [HN.out, HT2.out]; simp)
                clear hlb HT2 HN
                go_wp2_with (first | (go_at_call 53; refine (HB.out _).mono ?_; rintro e w1 ⟨rfl, hb1⟩; obtain ⟨x1, rfl⟩ := hb1.get; clear hb1) | (at_builtin; refine wpList_app _ rfl (.tmp 45) (.tmp 47) rfl elBox ((ext w x0).alloc (.cells #[.int .i64 xb.1.1.1, .int .i64 xb.1.1.2, .int .i64 xb.1.2.1, .int .i64 xb.1.2.2, .int .i64 xb.2] 55)) (by repeat (first | exact Ext.refl' _ | assumption | apply Ext.ex' | apply Ext.al | apply Ext.drN | apply Ext.dr)) _ _ _ rfl (by repeat (first | exact hown | apply World.ownsRow.alloc | apply own_ext)) _ 1 1 (encX yb) rfl (Rd.lit _ #[.int .i64 yb.1.1.1, .int .i64 yb.1.1.2, .int .i64 yb.1.2.1, .int .i64 yb.1.2.2, .int .i64 yb.2] _ 1 5 rfl (by simp [size_ext])) (by rw [← bxl_one]; exact oneCell_bxl _) (by unfold maxLen; omega) (by omega) ?_; intro v' x' hown' _))
                go_roundw
                case rel => exact ⟨j + 1, N ++ [yb], x', by omega, by go_num, by simp; omega, HN2, rfl, by simpa [bxl_append, bxl_one] using hown'⟩
                case measure => simp [intOf]; omega
              · have HN2 : Hid (N = (S.filter fun y => ltB y xb) ++ [xb] ++ (S.take (j + 1)).filter fun y => !ltB y xb) := Lib.hid (by rw [HN.out, HT2.out]; simp)
                clear hlb HT2 HN
                go_wp2_with (go_at_call 53; refine (HB.out _).mono ?_; rintro e w1 ⟨rfl, hb1⟩; obtain ⟨x1, rfl⟩ := hb1.get; clear hb1)
                go_roundw
                case rel =>
                  obtain ⟨y2, hy2⟩ := (show Ext ((ext w x0).alloc (.cells #[.int .i64 xb.1.1.1, .int .i64 xb.1.1.2, .int .i64 xb.1.2.1, .int .i64 xb.1.2.2, .int .i64 xb.2] 55)) (ext ((ext ((ext w x0).alloc (.cells #[.int .i64 xb.1.1.1, .int .i64 xb.1.1.2, .int .i64 xb.1.2.1, .int .i64 xb.1.2.2, .int .i64 xb.2] 55)) y).alloc (.cells #[.int .i64 yb.1.1.1, .int .i64 yb.1.1.2, .int .i64 yb.1.2.1, .int .i64 yb.1.2.2, .int .i64 yb.2] 55)) x1) from (by repeat (first | exact Ext.refl' _ | assumption | apply Ext.ex' | apply Ext.al | apply Ext.drN | apply Ext.dr))).get
                  exact ⟨j + 1, N, y2, by omega, by go_num, by omega, HN2, hy2, Own.of_eq (by repeat (first | exact hown | apply World.ownsRow.alloc | apply own_ext)) hy2⟩
                case measure => simp [intOf]; omega
            · have HF : Hid (ordS S xb = N) := Lib.hid (by rw [HN.out, List.take_of_length_le (Nat.le_of_not_lt hlt2)]; simp [ordS])
              obtain ⟨A6, c6, rfl, hn6, hc6⟩ := Own.form hown
              have hlo := Lib.hid (fun a (h : A6 = some a) => (hown.lt a.block (by rw [h]; rfl)).1)
              have hbase : w.heap.size ≤ ((((ext w x0).alloc (.cells #[.int .i64 xb.1.1.1, .int .i64 xb.1.1.2, .int .i64 xb.1.2.1, .int .i64 xb.1.2.2, .int .i64 xb.2] 55))).heap.size) := by simp; omega
              go_wp2
              go_roundw
              case rel => exact ⟨k + 1, N, A6, c6, by omega, by go_num, rfl, by rw [← HF.out, (ordS_perm S xb).length_eq]; simp; omega, Rd.of_own hown, ⟨fun a h => Nat.le_trans hbase (hlo.out a h), hn6, by unfold maxLen at hc6; omega⟩, (by repeat (first | exact Ext.refl' _ | assumption | apply Ext.ex' | apply Ext.al | apply Ext.drN | apply Ext.dr)), Lib.hid (by rw [HC.out, HD.out, List.foldl_cons, HF.out])⟩
              case measure => simp [intOf]; omega
    · have H0 : Hid (ordF L = S) := Lib.hid (by rw [HC.out, List.drop_eq_nil_of_le (Nat.le_of_not_lt hlt)]; rfl)
      go_wp2
      go_ret
      rw [H0.out]
      exact ⟨A5, c5, rfl, Ext.ex _ _, hS5, hlo5.1, hlo5.2.1, hlo5.2.2⟩

end Go.Proofs.Ytgobmiahhmajdaa
