/- Regions in memory; the small functions of conflict, of its law and of its reference. -/
import Derived.Test.YtpifjhoelnacgaaGreatSpF
import Derived.Test.YtpifjhoelnacgaaGreatVrw
import Derived.Test.YtpifjhoelnacgaaGreatCfP
import Derived.Test.YtpifjhoelnacgaaGreatCfM
set_option linter.unusedSimpArgs false
set_option linter.unusedVariables false
namespace Go.Proofs.YtpifjhoelnacgaaGreat
open Go.RowKit


abbrev acg (a : Acc) : Value := .agg #[.string a.1, .int .i64 a.2.1, .int .i64 a.2.2]
def ac (a : Acc) : List Value := [.string a.1, .int .i64 a.2.1, .int .i64 a.2.2]
def acl (l : List Acc) : List Value := l.flatMap ac
theorem acl_length : ∀ (l : List Acc), (acl l).length = l.length * 3
  | [] => rfl
  | a :: l => by have := acl_length l; simp [acl, ac, Nat.add_mul] at *; omega
theorem acl_append (a b : List Acc) : acl (a ++ b) = acl a ++ acl b := by simp [acl]
theorem acl_one (a : Acc) : acl [a] = ac a := by simp [acl]
theorem oneCell_acl (l : List Acc) : ∀ u ∈ acl l, u.oneCell' = true := by
  intro u hu; obtain ⟨v, _, hv⟩ := List.mem_flatMap.1 hu; simp [ac] at hv; rcases hv with rfl | rfl | rfl <;> rfl
theorem elAcc : El Tryz.prog 26 32 (.agg #[.string ⟨#[]⟩, .int .i64 0, .int .i64 0]) 3 32 := ⟨Tryz.underlying26, info_parts (by kernel_rfl), rfl, by decide⟩
theorem Rd.acc {w : World} {A : Option Addr} {l : List Acc} {n : Nat} (h : Rd w 3 A n (acl l)) (hn : n = l.length) {k : Nat} (hk : k < l.length) :
    ∃ b o, A = some ⟨b, o, none⟩ ∧ b < w.heap.size ∧ w.cell? ⟨b, o + k * 3, none⟩ = some (.string l[k].1) ∧ w.cell? ⟨b, o + k * 3 + 1, none⟩ = some (.int .i64 l[k].2.1) ∧ w.cell? ⟨b, o + k * 3 + 2, none⟩ = some (.int .i64 l[k].2.2) := by
  obtain ⟨b, o, hA, hb, hc⟩ := h.2 (by omega)
  have f := fun j hj => fmv_get ac 3 (fun _ => rfl) l k hk j hj
  exact ⟨b, o, hA, hb, hc _ _ (f 0 (by omega)), hc _ _ (f 1 (by omega)), hc _ _ (f 2 (by omega))⟩
theorem held_access : Tryz.prog.stoodInHeld 32 = false := by kernel_rfl
@[go_sem] theorem guard_access : Tryz.prog.eqGuardType Tryz.prog.depth 32 = false := by kernel_rfl
theorem bl_iff {a b : ByteArray} : a.toList = b.toList ↔ a = b := by
  rw [ByteArray.toList_eq, ByteArray.toList_eq]
  constructor
  · intro h; exact ByteArray.ext (Array.toList_inj.1 h)
  · rintro rfl; rfl
theorem bl_eq (a b : ByteArray) : (a.toList == b.toList) = decide (a = b) := by
  rw [Bool.eq_iff_iff]; simp [bl_iff]
theorem bl_lt (a b : ByteArray) : Op.bytesLess a.toList b.toList = decide (a.data.toList < b.data.toList) := by
  rw [ByteArray.toList_eq, ByteArray.toList_eq, bytesLess_eq]
@[go_sem high] theorem neq_access (a b : Acc) (w : World) : (binOp .neq 32 (.agg #[.string a.1, .int .i64 a.2.1, .int .i64 a.2.2]) (.agg #[.string b.1, .int .i64 b.2.1, .int .i64 b.2.2])).run Tryz.prog w = .ok (.bool (!decide (a = b))) w := by
  obtain ⟨a1, a2, a3⟩ := a
  obtain ⟨b1, b2, b3⟩ := b
  simp [go_sem, held_access, held_period, guard_period, Tryz.underlying32, Tryz.underlying30, Tryz.underlying9, Tryz.underlying3, bl_eq]
  by_cases h1 : a1 = b1 <;> by_cases h2 : a2 = b2 <;> by_cases h3 : a3 = b3 <;> simp [h1, h2, h3]
@[go_sem high] theorem eql_access (a b : Acc) (w : World) : (binOp .eql 32 (.agg #[.string a.1, .int .i64 a.2.1, .int .i64 a.2.2]) (.agg #[.string b.1, .int .i64 b.2.1, .int .i64 b.2.2])).run Tryz.prog w = .ok (.bool (decide (a = b))) w := by
  obtain ⟨a1, a2, a3⟩ := a
  obtain ⟨b1, b2, b3⟩ := b
  simp [go_sem, held_access, held_period, guard_period, Tryz.underlying32, Tryz.underlying30, Tryz.underlying9, Tryz.underlying3, bl_eq]
  by_cases h1 : a1 = b1 <;> by_cases h2 : a2 = b2 <;> by_cases h3 : a3 = b3 <;> simp [h1, h2, h3]
theorem cregion_any (t : ByteArray) (a b : Int) (w : World) : Calls Tryz.prog 20 #[.string t, .int .i64 a, .int .i64 b] w fun e w' => e = .returned (acg (t, (a, b))) ∧ Ext w w' := by
  go_enter Tryz.func20, Tryz.ntmps20
  go_wp2
  refine bodyPost_ret (v := acg (t, (a, b))) ?_ rfl ⟨rfl, by repeat (first | exact Ext.refl' _ | assumption | apply Ext.ex' | apply Ext.al | apply Ext.drN | apply Ext.dr)⟩
  simp [results, Tryz.results20, go_sem, ↓IntWalk.iteOmega]
theorem cperiod_any (p : Int × Int) (w : World) : Calls Tryz.prog 26 #[pr p] w fun e w' => e = .returned (.bool (pvB p)) ∧ Ext w w' := by
  go_enter Tryz.func26, Tryz.ntmps26
  by_cases h1 : 0 ≤ p.1
  · by_cases h2 : p.1 < p.2
    · by_cases h3 : p.2 ≤ 1099511627776
      all_goals go_wp2
      all_goals go_ret
      all_goals exact ⟨by simp [pvB, h1, h2, h3], by repeat (first | exact Ext.refl' _ | assumption | apply Ext.ex' | apply Ext.al | apply Ext.drN | apply Ext.dr)⟩
    · go_wp2
      go_ret
      exact ⟨by rw [show pvB p = false by rw [Bool.eq_false_iff, Ne, pvB_iff]; omega]; rfl, by repeat (first | exact Ext.refl' _ | assumption | apply Ext.ex' | apply Ext.al | apply Ext.drN | apply Ext.dr)⟩
  · go_wp2
    go_ret
    exact ⟨by rw [show pvB p = false by rw [Bool.eq_false_iff, Ne, pvB_iff]; omega]; rfl, by repeat (first | exact Ext.refl' _ | assumption | apply Ext.ex' | apply Ext.al | apply Ext.drN | apply Ext.dr)⟩
/-- the order of the reference -/
def beF (a b : Acc) : Bool := decide (tb a < tb b) || decide (tb a = tb b) && decide (a.2.1 < b.2.1)
theorem bl_tb (a b : Acc) : (a.1.toList == b.1.toList) = decide (tb a = tb b) := by
  rw [bl_eq, Bool.eq_iff_iff, decide_eq_true_eq, decide_eq_true_eq]
  unfold tb
  exact ⟨fun h => by rw [h], fun h => ByteArray.ext (Array.toList_inj.1 h)⟩
theorem before46_any (a b : Acc) (w : World) : Calls Tryz.prog 33 #[acg a, acg b] w fun e w' => e = .returned (.bool (beF a b)) ∧ Ext w w' := by
  have h1 : Op.bytesLess a.1.toList b.1.toList = decide (tb a < tb b) := bl_lt _ _
  have h2 := bl_tb a b
  have HB : Hid (beF a b = (decide (tb a < tb b) || decide (tb a = tb b) && decide (a.2.1 < b.2.1))) := Lib.hid rfl
  generalize beF a b = r at HB ⊢
  generalize decide (tb a < tb b) = x at h1 HB
  generalize decide (tb a = tb b) = y at h2 HB
  rcases x with _ | _
  · rcases y with _ | _
    · go_enter Tryz.func33, Tryz.ntmps33
      go_wp2
      go_ret
      exact ⟨by rw [HB.out]; rfl, by repeat (first | exact Ext.refl' _ | assumption | apply Ext.ex' | apply Ext.al | apply Ext.drN | apply Ext.dr)⟩
    · by_cases h3 : a.2.1 < b.2.1
      all_goals go_enter Tryz.func33, Tryz.ntmps33
      all_goals go_wp2
      all_goals go_ret
      all_goals exact ⟨by rw [HB.out]; simp [h3], by repeat (first | exact Ext.refl' _ | assumption | apply Ext.ex' | apply Ext.al | apply Ext.drN | apply Ext.dr)⟩
  · go_enter Tryz.func33, Tryz.ntmps33
    go_wp2
    go_ret
    exact ⟨by rw [HB.out]; rfl, by repeat (first | exact Ext.refl' _ | assumption | apply Ext.ex' | apply Ext.al | apply Ext.drN | apply Ext.dr)⟩
set_option maxHeartbeats 1000000 in
theorem sameA_any (A B : Option Addr) (n m c d : Nat) (l s : List Acc) (w : World) (hn : n = l.length) (hm : m = s.length) (hA : Rd w 3 A n (acl l)) (hB : Rd w 3 B m (acl s)) (hl : l.length ≤ 9223372036854775807) (hs : s.length ≤ 9223372036854775807) :
    Calls Tryz.prog 8 #[.slice A n c, .slice B m d] w fun e w' => e = .returned (.bool (decide (l = s))) ∧ Ext w w' := by
  subst hn hm
  by_cases hn : l.length = s.length
  · have hb : ((l.length : Int) != (s.length : Int)) = false := by simp [hn]
    have HN := Lib.hid hn
    clear hn
    go_enter Tryz.func8, Tryz.ntmps8
    go_wp2
    go_loopw [13] (fun i wr => ∃ k : Nat, k ≤ l.length ∧ i = .int .i64 k ∧ Hid (l.take k = s.take k) ∧ Ext w wr) (fun i _ => l.length - (intOf i).toNat)
    case atStart => exact ⟨0, Nat.zero_le _, rfl, Lib.hid (by simp), Ext.refl' _⟩
    case round =>
      obtain ⟨k, hk, rfl, HT, hext⟩ := hrel
      obtain ⟨x, rfl⟩ := hext.get
      clear hext
      by_cases hlt : k < l.length
      · obtain ⟨b, o, rfl, hb, hc1, hc2, hc3⟩ := hA.acc rfl hlt
        have hlt' : k < s.length := by have := HN.out; omega
        obtain ⟨b', o', rfl, hb', hd1, hd2, hd3⟩ := hB.acc rfl hlt'
        by_cases heq : l[k] = s[k]
        · have HE := Lib.hid (take_succ_eq hlt hlt' HT.out heq)
          have hdq : decide (l[k] = s[k]) = true := by simp [heq]
          clear heq
          generalize l[k] = p at hc1 hc2 hc3 hdq
          generalize s[k] = q at hd1 hd2 hd3 hdq
          go_wp2
          go_quiet (fail)
          go_wp2
          go_roundw
          case rel => exact ⟨k + 1, by omega, by go_num, HE, by repeat (first | exact Ext.refl' _ | assumption | apply Ext.ex' | apply Ext.al | apply Ext.drN | apply Ext.dr)⟩
          case measure => simp [intOf]; omega
        · have HE := Lib.hid (take_ne hlt hlt' heq)
          have hdq : decide (l[k] = s[k]) = false := by simp [heq]
          clear heq
          generalize l[k] = p at hc1 hc2 hc3 hdq
          generalize s[k] = q at hd1 hd2 hd3 hdq
          go_wp2
          go_quiet (fail)
          go_wp2
          go_ret
          exact ⟨by simp [HE.out], by repeat (first | exact Ext.refl' _ | assumption | apply Ext.ex' | apply Ext.al | apply Ext.drN | apply Ext.dr)⟩
      · go_wp2
        go_ret
        exact ⟨by rw [eq_of_takes HN.out hlt HT.out]; simp, Ext.ex _ _⟩
  · have hb : ((l.length : Int) != (s.length : Int)) = true := by simp; omega
    have hlm : decide (l = s) = false := by simp; rintro rfl; exact hn rfl
    rw [hlm]
    clear hn hlm
    go_enter Tryz.func8, Tryz.ntmps8
    go_wp2
    go_ret
    exact ⟨rfl, Ext.refl' _⟩
/-- whether a table occurs -/
def touF (t : List UInt8) (l : List Acc) : Bool := l.any fun a => decide (tb a = t) && pvB a.2
theorem tou_clo (bt : Nat) (s : ByteArray) (a : Acc) (w : World) (hb : bt < w.heap.size) (hc : w.cell? ⟨bt, 0, none⟩ = some (.string s)) : Calls Tryz.prog 35 #[acg a, .pointer (some ⟨bt, 0, none⟩)] w fun e w' => e = .returned (.bool (decide (tb a = s.data.toList) && pvB a.2)) ∧ Ext w w' := by
  have h2 := bl_tb a (s, (0, 0))
  have HV := Lib.hid (fun w => pvalid_any a.2 w)
  have HS : Hid (tb (s, ((0 : Int), (0 : Int))) = s.data.toList) := Lib.hid rfl
  rw [HS.out] at h2
  generalize decide (tb a = s.data.toList) = y at h2 ⊢
  generalize pvB a.2 = z at HV ⊢
  rcases y with _ | _ <;> rcases z with _ | _
  all_goals go_enter Tryz.func35, Tryz.ntmps35
  all_goals go_wp2_with (go_at_call 21; refine Calls.mono (HV.out _) ?_; rintro e w1 ⟨rfl, hb1⟩; obtain ⟨y1, rfl⟩ := hb1.get; clear hb1)
  all_goals go_ret
  all_goals exact ⟨rfl, by repeat (first | exact Ext.refl' _ | assumption | apply Ext.ex' | apply Ext.al | apply Ext.drN | apply Ext.dr)⟩
theorem any_drop {α : Type} {p : α → Bool} {l : List α} {k : Nat} (h : k < l.length) : (l.drop k).any p = (p l[k] || (l.drop (k + 1)).any p) := by
  rw [List.drop_eq_getElem_cons h, List.any_cons]
theorem touF_drop {t : List UInt8} {l : List Acc} {k : Nat} (h : k < l.length) : touF t (l.drop k) = ((decide (tb l[k] = t) && pvB l[k].2) || touF t (l.drop (k + 1))) := any_drop h


set_option maxHeartbeats 1000000 in
theorem indexT_any (A : Option Addr) (n c : Nat) (l : List Acc) (bt : Nat) (s : ByteArray) (w : World) (hn : n = l.length) (hA : Rd w 3 A n (acl l)) (hl : l.length ≤ 9223372036854775807) (hb : bt < w.heap.size) (hc : w.cell? ⟨bt, 0, none⟩ = some (.string s)) :
    Calls Tryz.prog 50 #[.slice A n c, .func (.func 35) #[] #[.pointer (some ⟨bt, 0, none⟩)]] w fun e w' => ∃ i : Int, e = .returned (.int .i64 i) ∧ decide (0 ≤ i) = touF s.data.toList l ∧ Ext w w' := by
  subst hn
  have HC : Hid (touF s.data.toList l = touF s.data.toList (l.drop 0)) := Lib.hid (by simp)
  generalize touF s.data.toList l = r at HC ⊢
  go_enter Tryz.func50, Tryz.ntmps50
  go_wp2
  go_loopw [8] (fun i wr => ∃ k : Nat, k ≤ l.length ∧ i = .int .i64 k ∧ Hid (r = touF s.data.toList (l.drop k)) ∧ Ext w wr) (fun i _ => l.length - (intOf i).toNat)
  case atStart => exact ⟨0, Nat.zero_le _, rfl, HC, Ext.refl' _⟩
  case round =>
    obtain ⟨k, hk, rfl, HR, hext⟩ := hrel
    by_cases hlt : k < l.length
    · obtain ⟨b, o, rfl, hbw, hc1, hc2, hc3⟩ := (hA.ext hext).acc rfl hlt
      have HD : Hid (touF s.data.toList (l.drop k) = ((decide (tb l[k] = s.data.toList) && pvB l[k].2) || touF s.data.toList (l.drop (k + 1)))) := Lib.hid (touF_drop hlt)
      have HT := Lib.hid (fun w h1 h2 => tou_clo bt s l[k] w h1 h2)
      have hsz := hext.size
      generalize (decide (tb l[k] = s.data.toList) && pvB l[k].2) = v at HD HT
      generalize l[k] = p at hc1 hc2 hc3 HT
      rcases v with _ | _
      · go_wp2_with (go_at_call 35; refine Calls.mono (HT.out _ (by omega) (hext.cell' hc)) ?_; rintro e w1 ⟨rfl, hb1⟩; obtain ⟨y1, rfl⟩ := hb1.get; clear hb1)
        go_roundw
        case rel => exact ⟨k + 1, by omega, by go_num, Lib.hid (by rw [HR.out, HD.out]; simp), hext.tr (by repeat (first | exact Ext.refl' _ | assumption | apply Ext.ex' | apply Ext.al | apply Ext.drN | apply Ext.dr))⟩
        case measure => simp [intOf]; omega
      · go_wp2_with (go_at_call 35; refine Calls.mono (HT.out _ (by omega) (hext.cell' hc)) ?_; rintro e w1 ⟨rfl, hb1⟩; obtain ⟨y1, rfl⟩ := hb1.get; clear hb1)
        go_ret
        exact ⟨_, rfl, by rw [HR.out, HD.out]; simp, hext.tr (by repeat (first | exact Ext.refl' _ | assumption | apply Ext.ex' | apply Ext.al | apply Ext.drN | apply Ext.dr))⟩
    · have HX : Hid (r = false) := Lib.hid (by rw [HR.out, List.drop_eq_nil_of_le (Nat.le_of_not_lt hlt)]; rfl)
      go_wp2
      go_ret
      exact ⟨_, rfl, by rw [HX.out]; decide, hext⟩
theorem touches_any (A : Option Addr) (n c : Nat) (l : List Acc) (s : ByteArray) (w : World) (hn : n = l.length) (hA : Rd w 3 A n (acl l)) (hl : l.length ≤ 9223372036854775807) :
    Calls Tryz.prog 17 #[.slice A n c, .string s] w fun e w' => e = .returned (.bool (touF s.data.toList l)) ∧ Ext w w' := by
  subst hn
  have HC : Hid (∀ W bt, Rd W 3 A l.length (acl l) → bt < W.heap.size → W.cell? ⟨bt, 0, none⟩ = some (.string s) → Calls Tryz.prog 34 #[.slice A l.length c, .func (.func 35) #[] #[.pointer (some ⟨bt, 0, none⟩)]] W fun e w' => e = .returned (.bool (touF s.data.toList l)) ∧ Ext W w') := Lib.hid (fun W bt hA hb hc => by
    have HI := Lib.hid (indexT_any A l.length c l bt s W rfl hA hl hb hc)
    clear hl hA hb hc
    generalize touF s.data.toList l = r at HI ⊢
    go_enter Tryz.func34, Tryz.ntmps34
    go_wp2_with (go_at_call 50; refine Calls.mono HI.out ?_; rintro e w1 ⟨i, rfl, hi, hb1⟩)
    go_ret
    exact ⟨by rw [← hi]; rfl, hb1⟩)
  generalize touF s.data.toList l = r at HC ⊢
  go_enter Tryz.func17, Tryz.ntmps17
  go_wp2_with (go_at_call 34; refine Calls.mono (HC.out _ _ (hA.ext (by repeat (first | exact Ext.refl' _ | assumption | apply Ext.ex' | apply Ext.al | apply Ext.drN | apply Ext.dr))) (by simp) (by simp [go_sem, ↓IntWalk.iteOmega])) ?_; rintro e w1 ⟨rfl, hb1⟩)
  go_ret
  exact ⟨rfl, Ext.tr (by repeat (first | exact Ext.refl' _ | assumption | apply Ext.ex' | apply Ext.al | apply Ext.drN | apply Ext.dr)) hb1⟩
set_option maxHeartbeats 1000000 in
theorem rtouches_any (A : Option Addr) (n c : Nat) (l : List Acc) (s : ByteArray) (w : World) (hn : n = l.length) (hA : Rd w 3 A n (acl l)) (hl : l.length ≤ 9223372036854775807) :
    Calls Tryz.prog 18 #[.slice A n c, .string s] w fun e w' => e = .returned (.bool (touF s.data.toList l)) ∧ Ext w w' := by
  subst hn
  have HC : Hid (touF s.data.toList l = touF s.data.toList (l.drop 0)) := Lib.hid (by simp)
  generalize touF s.data.toList l = r at HC ⊢
  go_enter Tryz.func18, Tryz.ntmps18
  go_wp2
  go_loopw [9] (fun i wr => ∃ k : Nat, k ≤ l.length ∧ i = .int .i64 k ∧ Hid (r = touF s.data.toList (l.drop k)) ∧ Ext w wr) (fun i _ => l.length - (intOf i).toNat)
  case atStart => exact ⟨0, Nat.zero_le _, rfl, HC, Ext.refl' _⟩
  case round =>
    obtain ⟨k, hk, rfl, HR, hext⟩ := hrel
    by_cases hlt : k < l.length
    · obtain ⟨b, o, rfl, hbw, hc1, hc2, hc3⟩ := (hA.ext hext).acc rfl hlt
      have HD : Hid (touF s.data.toList (l.drop k) = ((decide (tb l[k] = s.data.toList) && pvB l[k].2) || touF s.data.toList (l.drop (k + 1)))) := Lib.hid (touF_drop hlt)
      have HV := Lib.hid (fun w => cperiod_any l[k].2 w)
      have h2 := bl_tb l[k] (s, (0, 0))
      have HS : Hid (tb (s, ((0 : Int), (0 : Int))) = s.data.toList) := Lib.hid rfl
      rw [HS.out] at h2
      generalize decide (tb l[k] = s.data.toList) = y at HD h2
      generalize pvB l[k].2 = z at HD HV
      generalize l[k] = p at hc1 hc2 hc3 HV h2
      rcases y with _ | _
      · go_wp2
        go_roundw
        case rel => exact ⟨k + 1, by omega, by go_num, Lib.hid (by rw [HR.out, HD.out]; simp), hext.tr (by repeat (first | exact Ext.refl' _ | assumption | apply Ext.ex' | apply Ext.al | apply Ext.drN | apply Ext.dr))⟩
        case measure => simp [intOf]; omega
      · rcases z with _ | _
        · go_wp2_with (go_at_call 26; refine Calls.mono (HV.out _) ?_; rintro e w1 ⟨rfl, hb1⟩; obtain ⟨y1, rfl⟩ := hb1.get; clear hb1)
          go_roundw
          case rel => exact ⟨k + 1, by omega, by go_num, Lib.hid (by rw [HR.out, HD.out]; simp), hext.tr (by repeat (first | exact Ext.refl' _ | assumption | apply Ext.ex' | apply Ext.al | apply Ext.drN | apply Ext.dr))⟩
          case measure => simp [intOf]; omega
        · go_wp2_with (go_at_call 26; refine Calls.mono (HV.out _) ?_; rintro e w1 ⟨rfl, hb1⟩; obtain ⟨y1, rfl⟩ := hb1.get; clear hb1)
          go_ret
          exact ⟨by rw [HR.out, HD.out]; simp, hext.tr (by repeat (first | exact Ext.refl' _ | assumption | apply Ext.ex' | apply Ext.al | apply Ext.drN | apply Ext.dr))⟩
    · have HX : Hid (r = false) := Lib.hid (by rw [HR.out, List.drop_eq_nil_of_le (Nat.le_of_not_lt hlt)]; rfl)
      go_wp2
      go_ret
      exact ⟨by rw [HX.out]; rfl, hext⟩

end Go.Proofs.YtpifjhoelnacgaaGreat
