/- The reference of retention: before, row, Sort. -/
import Derived.Test.YtccndjnaakmlkaaGreatRtF
set_option linter.unusedSimpArgs false
set_option linter.unusedVariables false
namespace Go.Proofs.YtccndjnaakmlkaaGreat
open Go.RowKit


theorem ba_loop (s : ByteArray) : ∀ (n i : Nat) (r : List UInt8), s.size - i = n → ByteArray.toList.loop s i r = r.reverse ++ s.data.toList.drop i := by
  intro n
  induction n with
  | zero =>
    intro i r h
    unfold ByteArray.toList.loop
    rw [if_neg (by omega), List.drop_eq_nil_of_le (by simp; show s.size ≤ i; omega), List.append_nil]
  | succ n ih =>
    intro i r h
    unfold ByteArray.toList.loop
    have hi : i < s.size := by omega
    rw [if_pos hi, ih (i + 1) _ (by omega), List.reverse_cons, List.append_assoc]
    congr 1
    have : i < s.data.toList.length := by simpa using hi
    rw [List.drop_eq_getElem_cons this]
    simp [ByteArray.get!]
    rw [getElem!_pos s.data i hi]
theorem ba_data (s : ByteArray) : s.toList = s.data.toList := by unfold ByteArray.toList; rw [ba_loop s _ 0 [] rfl]; simp
theorem ba_inj {a b : ByteArray} (h : a.toList = b.toList) : a = b := by
  rw [ba_data, ba_data] at h
  obtain ⟨a⟩ := a
  obtain ⟨b⟩ := b
  congr
  exact Array.toList_inj.1 h
theorem held_val3 : Tryz.prog.stoodInHeld 68 = false := by kernel_rfl
@[go_sem] theorem guard_val3 : Tryz.prog.eqGuardType Tryz.prog.depth 68 = false := by kernel_rfl
@[go_sem high] theorem neq_val3 (a b : Va) (w : World) : (binOp .neq 68 (.agg #[.int .i64 a.k, .int .i64 a.i, .string a.t]) (.agg #[.int .i64 b.k, .int .i64 b.i, .string b.t])).run Tryz.prog w = .ok (.bool (!decide (a = b))) w := by
  obtain ⟨a1, a2, a3⟩ := a
  obtain ⟨b1, b2, b3⟩ := b
  simp [go_sem, held_val3, Tryz.underlying68]
  by_cases h1 : a1 = b1 <;> by_cases h2 : a2 = b2 <;> by_cases h3 : a3 = b3 <;> simp [h1, h2, h3]
  exact fun h => h3 (ba_inj h)
theorem vcl_get (l : List Va) (k : Nat) (h : k < l.length) : (vcl l)[k * 3]? = some (.int .i64 l[k].k) ∧ (vcl l)[k * 3 + 1]? = some (.int .i64 l[k].i) ∧ (vcl l)[k * 3 + 2]? = some (.string l[k].t) := by
  have f := fun j hj => flatMap_get vc 3 (fun _ => rfl) l k j h hj
  exact ⟨f 0 (by omega), f 1 (by omega), f 2 (by omega)⟩
theorem Rd.val {w : World} {A : Option Addr} {l : List Va} (h : Rd w 3 A l.length (vcl l)) {k : Nat} (hk : k < l.length) :
    ∃ b o, A = some ⟨b, o, none⟩ ∧ b < w.heap.size ∧ w.cell? ⟨b, o + k * 3, none⟩ = some (.int .i64 l[k].k) ∧ w.cell? ⟨b, o + k * 3 + 1, none⟩ = some (.int .i64 l[k].i) ∧ w.cell? ⟨b, o + k * 3 + 2, none⟩ = some (.string l[k].t) := by
  obtain ⟨b, o, hA, hb, hc⟩ := h.2 (by omega)
  obtain ⟨h1, h2, h3⟩ := vcl_get l k hk
  exact ⟨b, o, hA, hb, hc _ _ h1, hc _ _ h2, hc _ _ h3⟩


set_option maxHeartbeats 800000 in
theorem rrow_any (A B : Option Addr) (c d : Nat) (l m : List Va) (w : World) (hA : Rd w 3 A l.length (vcl l)) (hB : Rd w 3 B m.length (vcl m)) (hl : l.length ≤ 9223372036854775807) (hm : m.length ≤ 9223372036854775807) :
    Calls Tryz.prog 41 #[.slice A l.length c, .slice B m.length d] w fun e w' => e = .returned (.bool (decide (l = m))) ∧ Ext w w' := by
  go_enter Tryz.func41, Tryz.ntmps41
  by_cases hn : l.length = m.length
  · have hb : ((l.length : Int) != (m.length : Int)) = false := by simp [hn]
    have HN := Lib.hid hn
    clear hn
    go_wp2
    go_loopw [5] (fun i wr => ∃ k : Nat, k ≤ l.length ∧ i = .int .i64 k ∧ Hid (l.take k = m.take k) ∧ Ext w wr) (fun i _ => l.length - (intOf i).toNat)
    case atStart => exact ⟨0, Nat.zero_le _, rfl, Lib.hid (by simp), Ext.refl' _⟩
    case round =>
      obtain ⟨k, hk, rfl, HT, hext⟩ := hrel
      obtain ⟨x, rfl⟩ := hext.get
      clear hext
      by_cases hlt : k < l.length
      · obtain ⟨b, o, rfl, hb, hc1, hc2, hc3⟩ := hA.val hlt
        have hlt' : k < m.length := by have := HN.out; omega
        obtain ⟨b', o', rfl, hb', hd1, hd2, hd3⟩ := hB.val hlt'
        by_cases heq : l[k] = m[k]
        · have HE := Lib.hid (take_succ_eq hlt hlt' HT.out heq)
          have hdq : decide (l[k] = m[k]) = true := by simp [heq]
          clear heq
          generalize l[k] = p at hc1 hc2 hc3 hdq
          generalize m[k] = q at hd1 hd2 hd3 hdq
          go_wp2
          go_quiet (fail)
          go_wp2
          go_roundw
          case rel => exact ⟨k + 1, by omega, by go_num, HE, by repeat (first | exact Ext.refl' _ | assumption | apply Ext.ex' | apply Ext.al | apply Ext.drN | apply Ext.dr)⟩
          case measure => simp [intOf]; omega
        · have HE := Lib.hid (take_ne hlt hlt' heq)
          have hdq : decide (l[k] = m[k]) = false := by simp [heq]
          clear heq
          generalize l[k] = p at hc1 hc2 hc3 hdq
          generalize m[k] = q at hd1 hd2 hd3 hdq
          go_wp2
          go_quiet (fail)
          go_wp2
          go_ret
          exact ⟨by simp [HE.out], by repeat (first | exact Ext.refl' _ | assumption | apply Ext.ex' | apply Ext.al | apply Ext.drN | apply Ext.dr)⟩
      · go_wp2
        go_ret
        exact ⟨by rw [eq_of_takes HN.out hlt HT.out]; simp, Ext.ex _ _⟩
  · have hb : ((l.length : Int) != (m.length : Int)) = true := by simp; omega
    have hlm : decide (l = m) = false := by simp; rintro rfl; exact hn rfl
    rw [hlm]
    clear hn hlm
    go_wp2
    go_ret
    exact ⟨rfl, Ext.refl' _⟩


/-- the order, from what lies in memory -/
def ltW (x y : Ver) : Bool := decide (x.id < y.id ∨ x.id = y.id ∧ (x.r.2.1 < y.r.2.1 ∨ x.r.2.1 = y.r.2.1 ∧ x.r.1.1 < y.r.1.1))
theorem ltW_is {w : World} {x y : VP} (h1 : VerIs w x.1 x.2) (h2 : VerIs w y.1 y.2) : ltW x.1 y.1 = ltZ x y := by
  unfold ltW ltZ ltV
  rw [h1.id, h1.r, h2.id, h2.r]
theorem rbefore_any (x y : Ver) (w : World) : Calls Tryz.prog 44 #[vg x, vg y] w fun e w' => e = .returned (.bool (ltW x y)) ∧ Ext w w' := by
  have HB : Hid (ltW x y = decide (x.id < y.id ∨ x.id = y.id ∧ (x.r.2.1 < y.r.2.1 ∨ x.r.2.1 = y.r.2.1 ∧ x.r.1.1 < y.r.1.1))) := Lib.hid rfl
  generalize ltW x y = b at HB ⊢
  by_cases h1 : x.id = y.id
  · have hq1 : (x.id != y.id) = false := by simp [h1]
    by_cases h2 : x.r.2.1 = y.r.2.1
    · have hq2 : (x.r.2.1 != y.r.2.1) = false := by simp [h2]
      have H0 : Hid (b = decide (x.r.1.1 < y.r.1.1)) := Lib.hid (by rw [HB.out, decide_eq_decide]; omega)
      clear HB h1 h2
      go_enter Tryz.func44, Tryz.ntmps44
      go_wp2
      go_ret
      exact ⟨by rw [H0.out]; rfl, by repeat (first | exact Ext.refl' _ | assumption | apply Ext.ex' | apply Ext.al | apply Ext.drN | apply Ext.dr)⟩
    · have hq2 : (x.r.2.1 != y.r.2.1) = true := by simp [h2]
      have H0 : Hid (b = decide (x.r.2.1 < y.r.2.1)) := Lib.hid (by rw [HB.out, decide_eq_decide]; omega)
      clear HB h1 h2
      go_enter Tryz.func44, Tryz.ntmps44
      go_wp2
      go_ret
      exact ⟨by rw [H0.out]; rfl, by repeat (first | exact Ext.refl' _ | assumption | apply Ext.ex' | apply Ext.al | apply Ext.drN | apply Ext.dr)⟩
  · have hq1 : (x.id != y.id) = true := by simp [h1]
    have H0 : Hid (b = decide (x.id < y.id)) := Lib.hid (by rw [HB.out, decide_eq_decide]; omega)
    clear HB h1
    go_enter Tryz.func44, Tryz.ntmps44
    go_wp2
    go_ret
    exact ⟨by rw [H0.out]; rfl, by repeat (first | exact Ext.refl' _ | assumption | apply Ext.ex' | apply Ext.al | apply Ext.drN | apply Ext.dr)⟩


/-- what the insertion gives, from index j on -/
def insT (Zo : List VP) (x : VP) (k j : Nat) : List VP := if j ≤ k then (Zo.drop j).take (k - j) ++ x :: Zo.drop k else Zo.drop j
theorem insT_zero (Zo : List VP) (x : VP) (k : Nat) : insT Zo x k 0 = Zo.take k ++ x :: Zo.drop k := by simp [insT]
theorem insT_at {Zo : List VP} {x : VP} {k : Nat} (hk : k < Zo.length) : insT Zo x k k = [x] ++ [Zo[k]] ++ insT Zo x k (k + 1) := by
  unfold insT
  rw [if_pos (Nat.le_refl _), if_neg (by omega), List.drop_eq_getElem_cons hk]
  simp
theorem insT_ne {Zo : List VP} {x : VP} {k j : Nat} (hj : j < Zo.length) (hne : j ≠ k) : insT Zo x k j = [Zo[j]] ++ insT Zo x k (j + 1) := by
  unfold insT
  by_cases h : j ≤ k
  · obtain ⟨m, hm⟩ : ∃ m, k - j = m + 1 := ⟨k - j - 1, by omega⟩
    rw [if_pos h, if_pos (by omega), List.drop_eq_getElem_cons hj, hm, List.take_succ_cons, show k - (j + 1) = m by omega]
    rfl
  · rw [if_neg h, if_neg (by omega), List.drop_eq_getElem_cons hj]; rfl
theorem insT_end (Zo : List VP) (x : VP) (k : Nat) (hk : k ≤ Zo.length) : insT Zo x k Zo.length = if k = Zo.length then [x] else [] := by
  unfold insT
  by_cases h : k = Zo.length
  · subst h; simp
  · rw [if_neg (by omega), if_neg h]; simp
theorem Rd.verAt {w : World} {A : Option Addr} {Z : List VP} {n : Nat} (h : Rd w 9 A n (verc (vsOf Z))) (hn : Z.length = n) {k : Nat} (hk : k < Z.length) :
    ∃ v : Ver, Hid (v = Z[k].1) ∧ ∃ b o, A = some ⟨b, o, none⟩ ∧ b < w.heap.size ∧ w.cell? ⟨b, o + k * 9, none⟩ = some (.int .i64 v.id) ∧ w.cell? ⟨b, o + k * 9 + 1, none⟩ = some (.int .i64 v.sch) ∧ w.cell? ⟨b, o + k * 9 + 2, none⟩ = some (.slice v.rA v.rn v.rc) ∧ w.cell? ⟨b, o + k * 9 + 3, none⟩ = some (.int .i64 v.r.1.1) ∧ w.cell? ⟨b, o + k * 9 + 4, none⟩ = some (.int .i64 v.r.1.2) ∧ w.cell? ⟨b, o + k * 9 + 5, none⟩ = some (.int .i64 v.r.2.1) ∧ w.cell? ⟨b, o + k * 9 + 6, none⟩ = some (.int .i64 v.r.2.2) ∧ w.cell? ⟨b, o + k * 9 + 7, none⟩ = some (.int .i64 v.by_) ∧ w.cell? ⟨b, o + k * 9 + 8, none⟩ = some (.int .i64 v.un) := by
  subst hn
  have hl : (vsOf Z).length = Z.length := by simp
  have h' : Rd w 9 A (vsOf Z).length (verc (vsOf Z)) := by rw [hl]; exact h
  have := h'.ver (k := k) (by omega)
  have e : (vsOf Z)[k]'(by omega) = Z[k].1 := by simp [vsOf]
  rw [e] at this
  exact ⟨_, Lib.hid rfl, this⟩

theorem vsOf_len (Z : List VP) : (vsOf Z).length = Z.length := by simp
theorem swo_ltZ : Swo ltZ := ⟨fun x y => swo_ltV.asym x.2 y.2, fun x y z => swo_ltV.neg x.2 y.2 z.2⟩
theorem ins_eq {Zo : List VP} {x : VP} {k : Nat} (hs : Srt ltZ Zo) (hk : k ≤ Zo.length) (h1 : ∀ j, k ≤ j → (h : j < Zo.length) → ltZ x Zo[j] = true) (h2 : k = 0 ∨ ∃ h : k - 1 < Zo.length, ltZ x Zo[k - 1] = false) : mrg ltZ Zo [x] = Zo.take k ++ x :: Zo.drop k := by
  have e := (List.take_append_drop k Zo).symm
  rw [e, mrg_ins, List.take_append_drop]
  · intro y hy
    obtain ⟨j, hj, rfl⟩ := List.getElem_of_mem hy
    have hjk : j < k := by simp at hj; omega
    rcases h2 with h2 | ⟨hk1, h2⟩
    · omega
    · rw [List.getElem_take]
      have := hs.at swo_ltZ (i := j) (j := k - 1) (by omega) hk1
      exact swo_ltZ.le_trans this h2
  · intro y hy
    obtain ⟨j, hj, rfl⟩ := List.getElem_of_mem hy
    rw [List.getElem_drop]
    exact h1 _ (by omega) _

set_option maxRecDepth 100000 in
set_option maxHeartbeats 8000000 in
theorem rsort_any (A : Option Addr) (c : Nat) (Z : List VP) (w : World) (hl : Rd w 9 A Z.length (verc (vsOf Z))) (hz : ∀ z ∈ Z, VerIs w z.1 z.2) (nl : Z.length ≤ 100000000) :
    Calls Tryz.prog 31 #[.slice A Z.length c] w (RdP 9 Z.length (verc (vsOf (sortZ Z))) w) := by
  have HZ := Lib.hid hz
  clear hz
  go_enter Tryz.func31, Tryz.ntmps31
  go_wp2
  go_loopw [3, 4] (fun s3 s4 wr => ∃ (i : Nat) (B : Option Addr) (d : Nat) (Zo : List VP), i ≤ Z.length ∧ Hid (Zo.length = i) ∧ s4 = .int .i64 i ∧ s3 = .slice B i d ∧ Hid (Zo = sortZ (Z.take i)) ∧ Ext w wr ∧ Rd wr 9 B i (verc (vsOf Zo))) (fun _ s4 _ => Z.length - (intOf s4).toNat)
  case atStart => exact ⟨0, none, 0, [], by omega, Lib.hid rfl, rfl, rfl, Lib.hid rfl, Ext.refl' _, Rd.nil⟩
  case round =>
    obtain ⟨i, B, d, Zo, hi, HZi, rfl, rfl, HO, hE, hB⟩ := hrel
    have hA := hl.ext hE
    by_cases hlt : i < Z.length
    · obtain ⟨vx, HVX, ga, oa, rfl, hga, c0, c1, c2, c3, c4, c5, c6, c7, c8⟩ := hA.verAt rfl hlt
      have HN : Hid (sortZ (Z.take (i + 1)) = mrg ltZ Zo [Z[i]]) := Lib.hid (by rw [List.take_succ_eq_append_getElem hlt, HO.out]; exact isort_snoc _ _)
      have HS : Hid (Srt ltZ Zo) := Lib.hid (by rw [HO.out]; exact isort_srt swo_ltZ _)
      have HX := Lib.hid (HZ.out _ (List.getElem_mem hlt))
      have HM : Hid (∀ z ∈ Zo, VerIs w z.1 z.2) := Lib.hid fun z hz => HZ.out z (List.mem_of_mem_take ((isort_perm _).mem_iff.1 (by rw [HO.out] at hz; exact hz)))
      generalize Z[i] = xz at HN HX HVX
      clear HO
      go_wp2
      go_loopw [5] (fun s5 wx => ∃ k : Nat, k ≤ i ∧ s5 = .int .i64 k ∧ Hid (∀ j, k ≤ j → (h : j < Zo.length) → ltW vx Zo[j].1 = true) ∧ Ext wr wx) (fun s5 _ => (intOf s5).toNat)
      case atStart => exact ⟨i, by omega, rfl, Lib.hid fun j h1 h2 => by have := HZi.out; omega, Ext.refl' _⟩
      case round =>
        obtain ⟨k, hk, rfl, HK, hex⟩ := hrel
        obtain ⟨x1, rfl⟩ := hex.get
        clear hex
        go_upto_region 6 with fail
        go_cut [29] (fun sc wc => ∃ cb : Bool, sc = .bool cb ∧ Hid (cb = true → 0 < k ∧ ∃ h : k - 1 < Zo.length, ltW vx Zo[k - 1].1 = true) ∧ Hid (cb = false → k = 0 ∨ ∃ h : k - 1 < Zo.length, ltW vx Zo[k - 1].1 = false) ∧ Ext wr wc)
        case first =>
          by_cases h0 : 0 < k
          · have hk1 : k - 1 < Zo.length := by have := HZi.out; omega
            obtain ⟨vy, HVY, gb, ob, rfl, hgb, d0, d1, d2, d3, d4, d5, d6, d7, d8⟩ := hB.verAt HZi.out hk1
            have hkz : (k : Int) - 1 = ((k - 1 : Nat) : Int) := by omega
            refine wp_region_ext (by kernel_rfl) (by kernel_rfl) ?_
            repeat (first | go_big_quiet_step ((go_at_call 44; exact Calls.ext_of (rbefore_any vx vy _))) | quiet_step ((go_at_call 44; exact Calls.ext_of (rbefore_any vx vy _))))
            refine wpQuiet_nil ?_
            intro _ hw'
            obtain ⟨xq, hw''⟩ := hw'
            subst hw''
            go_wp2
            go_meet
            exact ⟨_, rfl, Lib.hid fun h => ⟨h0, hk1, by rw [← HVY.out]; simpa using h⟩, Lib.hid fun h => .inr ⟨hk1, by rw [← HVY.out]; simpa using h⟩, by repeat (first | exact Ext.refl' _ | assumption | apply Ext.ex' | apply Ext.al | apply Ext.drN | apply Ext.dr)⟩
          · have HK0 := Lib.hid (show k = 0 by omega)
            refine wp_region_ext (by kernel_rfl) (by kernel_rfl) ?_
            repeat (first | go_big_quiet_step (fail) | quiet_step (fail))
            refine wpQuiet_nil ?_
            intro _ hw'
            obtain ⟨xq, hw''⟩ := hw'
            subst hw''
            go_wp2
            go_meet
            exact ⟨false, rfl, Lib.hid (by simp), Lib.hid fun _ => .inl HK0.out, by repeat (first | exact Ext.refl' _ | assumption | apply Ext.ex' | apply Ext.al | apply Ext.drN | apply Ext.dr)⟩
        case rest =>
          obtain ⟨cb, rfl, HT, HF, hEc⟩ := hcut
          rcases cb with _ | _
          · have HZL := HZi.out
            have HQ : Hid (sortZ (Z.take (i + 1)) = insT Zo xz k 0) := Lib.hid (by
              rw [HN.out, insT_zero]
              refine ins_eq HS.out (by omega) (fun j h1 h2 => ?_) ?_
              · have := HK.out j h1 h2
                rw [HVX.out] at this
                rw [← ltW_is HX.out (HM.out _ (List.getElem_mem h2))]; exact this
              · rcases HF.out rfl with h | ⟨h1, h2⟩
                · exact .inl h
                · refine .inr ⟨h1, ?_⟩
                  rw [HVX.out] at h2
                  rw [← ltW_is HX.out (HM.out _ (List.getElem_mem h1))]; exact h2)
            have HLEN : Hid ((insT Zo xz k 0).length = i + 1) := Lib.hid (by rw [← HQ.out]; unfold sortZ; rw [isort_length]; simp; omega)
            clear HK HF HT HN HS HM
            have e0 := hEc.cell' c0
            have e1 := hEc.cell' c1
            have e2 := hEc.cell' c2
            have e3 := hEc.cell' c3
            have e4 := hEc.cell' c4
            have e5 := hEc.cell' c5
            have e6 := hEc.cell' c6
            have e7 := hEc.cell' c7
            have e8 := hEc.cell' c8
            have hga2 : ga < wc.heap.size := Nat.lt_of_lt_of_le hga hEc.size
            have hB2 := hB.ext hEc
            clear c0 c1 c2 c3 c4 c5 c6 c7 c8 hga hB hA hl
            go_wp2
            go_loopw [6, 7] (fun s6 s7 wx => ∃ (j : Nat) (acc : List VP) (x : Add), j ≤ i ∧ acc.length ≤ j + 1 ∧ (j ≤ k → acc.length ≤ j) ∧ s7 = .int .i64 j ∧ Hid (insT Zo xz k 0 = acc ++ insT Zo xz k j) ∧ wx = ext wc x ∧ Own wc x 35 9 s6 acc.length (verc (vsOf acc))) (fun _ s7 _ => i - (intOf s7).toNat)
            case atStart =>
              obtain ⟨x, hx⟩ := (Ext.al1 wc (.cells #[] 35)).get
              exact ⟨0, [], x, by omega, by simp, by simp, rfl, Lib.hid rfl, hx, by unfold Own; rw [← hx]; exact own_lit1 _ _ _ rfl⟩
            case round =>
              obtain ⟨j, acc, x, hj, hal, hal2, rfl, HI, rfl, hown⟩ := hrel
              by_cases hjl : j < i
              · have hjz : j < Zo.length := by have := HZi.out; omega
                obtain ⟨vy, HVY, gb, ob, rfl, hgb, d0, d1, d2, d3, d4, d5, d6, d7, d8⟩ := hB2.verAt HZi.out hjz
                by_cases hjk : j = k
                · have hq : ((j : Int) == (k : Int)) = true := by simp [hjk]
                  have HJ : Hid (insT Zo xz k 0 = acc ++ [xz] ++ [Zo[j]] ++ insT Zo xz k (j + 1)) := Lib.hid (by rw [HI.out]; subst hjk; rw [insT_at hjz]; simp)
                  have hal3 := hal2 (by omega)
                  have HJK := Lib.hid hjk
                  clear HI hjk hal2
                  go_wp2_with (first | (at_builtin; refine wpList_app _ rfl (.tmp 42) (.tmp 47) rfl elVer wc (by repeat (first | exact Ext.refl' _ | assumption | apply Ext.ex' | apply Ext.al | apply Ext.drN | apply Ext.dr)) _ _ _ rfl (by repeat (first | exact hown | apply World.ownsRow.alloc | apply own_ext)) _ 1 1 [.int .i64 vx.id, .int .i64 vx.sch, .slice vx.rA vx.rn vx.rc, .int .i64 vx.r.1.1, .int .i64 vx.r.1.2, .int .i64 vx.r.2.1, .int .i64 vx.r.2.2, .int .i64 vx.by_, .int .i64 vx.un] rfl (Rd.lit _ _ _ 1 9 rfl (by simp [size_ext])) (oneCell_encV vx) (by unfold maxLen; omega) (by omega) ?_; intro v1 x1 ho1 _) | (at_builtin; refine wpList_app _ rfl (.tmp 49) (.tmp 54) rfl elVer wc (by repeat (first | exact Ext.refl' _ | assumption | apply Ext.ex' | apply Ext.al | apply Ext.drN | apply Ext.dr)) _ _ _ rfl (by repeat (first | exact ho1 | apply World.ownsRow.alloc | apply own_ext)) _ 1 1 [.int .i64 vy.id, .int .i64 vy.sch, .slice vy.rA vy.rn vy.rc, .int .i64 vy.r.1.1, .int .i64 vy.r.1.2, .int .i64 vy.r.2.1, .int .i64 vy.r.2.2, .int .i64 vy.by_, .int .i64 vy.un] rfl (Rd.lit _ _ _ 1 9 rfl (by simp [size_ext])) (oneCell_encV vy) (by unfold maxLen; omega) (by omega) ?_; intro v2 x2 ho2 _))
                  go_roundw
                  case rel => exact ⟨j + 1, acc ++ [xz] ++ [Zo[j]], x2, by omega, by simp; omega, fun h => by have := HJK.out; omega, by go_num, HJ, rfl, by rw [vsOf_snoc, vsOf_snoc, ← HVX.out, ← HVY.out, List.length_append, List.length_append]; exact ho2⟩
                  case measure => simp [intOf]; omega
                · have hq : ((j : Int) == (k : Int)) = false := by simp; omega
                  have HJ : Hid (insT Zo xz k 0 = acc ++ [Zo[j]] ++ insT Zo xz k (j + 1)) := Lib.hid (by rw [HI.out, insT_ne hjz hjk]; simp)
                  have hal3 : j + 1 ≤ k → acc.length ≤ j := fun h => hal2 (by omega)
                  clear HI hjk hal2
                  go_wp2_with (at_builtin; refine wpList_app _ rfl (.tmp 49) (.tmp 54) rfl elVer wc (by repeat (first | exact Ext.refl' _ | assumption | apply Ext.ex' | apply Ext.al | apply Ext.drN | apply Ext.dr)) _ _ _ rfl (by repeat (first | exact hown | apply World.ownsRow.alloc | apply own_ext)) _ 1 1 [.int .i64 vy.id, .int .i64 vy.sch, .slice vy.rA vy.rn vy.rc, .int .i64 vy.r.1.1, .int .i64 vy.r.1.2, .int .i64 vy.r.2.1, .int .i64 vy.r.2.2, .int .i64 vy.by_, .int .i64 vy.un] rfl (Rd.lit _ _ _ 1 9 rfl (by simp [size_ext])) (oneCell_encV vy) (by unfold maxLen; omega) (by omega) ?_; intro v2 x2 ho2 _)
                  go_roundw
                  case rel => exact ⟨j + 1, acc ++ [Zo[j]], x2, by omega, by simp; omega, fun h => by have := hal3 h; simp; omega, by go_num, HJ, rfl, by rw [vsOf_snoc, ← HVY.out, List.length_append]; exact ho2⟩
                  case measure => simp [intOf]; omega
              · have hji : j = i := by omega
                have HE : Hid (insT Zo xz k 0 = acc ++ if k = i then [xz] else []) := Lib.hid (by rw [HI.out, hji]; rw [← HZi.out, insT_end _ _ _ (by have := HZi.out; omega)])
                clear HI
                by_cases hki : k = i
                · have hq : ((k : Int) == (i : Int)) = true := by simp [hki]
                  have HJ : Hid (insT Zo xz k 0 = acc ++ [xz]) := Lib.hid (by rw [HE.out, if_pos hki])
                  have HAL : Hid (acc.length = i) := Lib.hid (by have h1 := HLEN.out; rw [HJ.out] at h1; simpa using h1)
                  clear HE hki
                  go_wp2_with (at_builtin; refine wpList_app _ rfl (.tmp 60) (.tmp 65) rfl elVer wc (by repeat (first | exact Ext.refl' _ | assumption | apply Ext.ex' | apply Ext.al | apply Ext.drN | apply Ext.dr)) _ _ _ rfl (by repeat (first | exact hown | apply World.ownsRow.alloc | apply own_ext)) _ 1 1 [.int .i64 vx.id, .int .i64 vx.sch, .slice vx.rA vx.rn vx.rc, .int .i64 vx.r.1.1, .int .i64 vx.r.1.2, .int .i64 vx.r.2.1, .int .i64 vx.r.2.2, .int .i64 vx.by_, .int .i64 vx.un] rfl (Rd.lit _ _ _ 1 9 rfl (by simp [size_ext])) (oneCell_encV vx) (by unfold maxLen; omega) (by omega) ?_; intro v1 x1 ho1 _)
                  obtain ⟨A6, c6, rfl, _, _⟩ := Own.form ho1
                  go_wp2
                  go_roundw
                  case rel =>
                    have h1 := HAL.out
                    exact ⟨i + 1, A6, c6, acc ++ [xz], by omega, Lib.hid (by simp; omega), by go_num, by rw [h1], Lib.hid (by rw [HQ.out, HJ.out]), (hE.tr hEc).tr (Ext.ex _ _), by rw [vsOf_snoc, ← HVX.out, ← h1]; exact Rd.of_own ho1⟩
                  case measure => simp [intOf]; omega
                · have hq : ((k : Int) == (i : Int)) = false := by simp; omega
                  have HJ : Hid (insT Zo xz k 0 = acc) := Lib.hid (by rw [HE.out, if_neg hki, List.append_nil])
                  have HAL : Hid (acc.length = i + 1) := Lib.hid (by have h1 := HLEN.out; rw [HJ.out] at h1; exact h1)
                  clear HE hki
                  obtain ⟨A6, c6, rfl, _, _⟩ := Own.form hown
                  go_wp2
                  go_roundw
                  case rel =>
                    have h1 := HAL.out
                    exact ⟨i + 1, A6, c6, acc, by omega, Lib.hid (by omega), by go_num, by rw [h1], Lib.hid (by rw [HQ.out, HJ.out]), (hE.tr hEc).tr (Ext.ex _ _), by rw [← h1]; exact Rd.of_own hown⟩
                  case measure => simp [intOf]; omega
          · obtain ⟨h0, hk1, hlt1⟩ := HT.out rfl
            have HK2 : Hid (∀ j, k - 1 ≤ j → (h : j < Zo.length) → ltW vx Zo[j].1 = true) := Lib.hid fun j h1 h2 => by
              by_cases hj : j = k - 1
              · subst hj; exact hlt1
              · exact HK.out j (by omega) h2
            clear HK hlt1
            go_wp2
            go_roundw
            case rel => exact ⟨k - 1, by omega, by go_num, HK2, hEc⟩
            case measure => simp [intOf]; omega
    · have hiz : i = Z.length := by omega
      have HR : Hid (sortZ Z = Zo) := Lib.hid (by rw [HO.out, hiz, List.take_length])
      clear HO
      go_wp2
      go_ret
      exact ⟨B, d, by rw [hiz]; rfl, hE, by rw [HR.out, ← hiz]; exact hB⟩

end Go.Proofs.YtccndjnaakmlkaaGreat
