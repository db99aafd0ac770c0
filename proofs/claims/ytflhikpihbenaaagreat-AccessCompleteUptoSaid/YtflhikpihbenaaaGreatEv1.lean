/- The reference of values: truth values, values that are made. -/
import Derived.Test.YtflhikpihbenaaaGreatFrm
import Derived.Test.YtflhikpihbenaaaGreatFro
import Derived.Test.YtflhikpihbenaaaGreatFrn
set_option linter.unusedSimpArgs false
set_option linter.unusedVariables false
namespace Go.Proofs.YtflhikpihbenaaaGreat
open Go.RowKit


theorem RI.mk7 (f : Int) : RI (.returned (.int .i64 f)) := ⟨f, rfl⟩
theorem rnull7 (w : World) : Calls Tryz.prog 36 #[] w fun e w' => e = .returned (.agg #[.int .i64 0, .int .i64 0, .string ⟨#[]⟩]) ∧ Ext w w' := rnull_any w
set_option maxRecDepth 100000 in
set_option maxHeartbeats 4000000 in
theorem rbool_t (w : World) : Calls Tryz.prog 34 #[.bool true] w fun e w' => e = .returned (.agg #[.int .i64 3, .int .i64 1, .string ⟨#[]⟩]) ∧ Ext w w' := by
  go_enter Tryz.func34, Tryz.ntmps34
  go_wp2
  refine bodyPost_ret (v := .agg #[.int .i64 3, .int .i64 1, .string ⟨#[]⟩]) ?_ rfl ⟨rfl, by repeat (first | exact Ext.refl' _ | assumption | apply Ext.ex' | apply Ext.al | apply Ext.drN | apply Ext.dr)⟩
  simp [results, Tryz.results34, go_sem, ↓IntWalk.iteOmega]
set_option maxRecDepth 100000 in
set_option maxHeartbeats 4000000 in
theorem rbool_f (w : World) : Calls Tryz.prog 34 #[.bool false] w fun e w' => e = .returned (.agg #[.int .i64 3, .int .i64 0, .string ⟨#[]⟩]) ∧ Ext w w' := by
  go_enter Tryz.func34, Tryz.ntmps34
  go_wp2
  refine bodyPost_ret (v := .agg #[.int .i64 3, .int .i64 0, .string ⟨#[]⟩]) ?_ rfl ⟨rfl, by repeat (first | exact Ext.refl' _ | assumption | apply Ext.ex' | apply Ext.al | apply Ext.drN | apply Ext.dr)⟩
  simp [results, Tryz.results34, go_sem, ↓IntWalk.iteOmega]
/-- a small value -/
abbrev SmV (r : Va) : Prop := r.t.size ≤ 200 ∧ -1125899906842624 ≤ r.i ∧ r.i ≤ 1125899906842624
def RVs (e : Ending) : Prop := ∃ r : Va, e = .returned (vag r) ∧ SmV r
theorem RVs.mk (r : Va) (h : SmV r) : RVs (.returned (vag r)) := ⟨r, rfl, h⟩
theorem vvB_size {v : Va} (h : vvB v = true) : v.t.size ≤ 200 := by
  have he : emB v.t = true → v.t.size ≤ 200 := fun h => by
    unfold emB at h
    rw [Lib.toList_data, List.isEmpty_iff] at h
    have : v.t.size = 0 := by
      have h2 := congrArg List.length h
      simpa using h2
    omega
  unfold vvB at h
  split at h
  · rw [Bool.and_eq_true] at h; exact he h.2
  · split at h
    · rw [Bool.and_eq_true] at h; exact he h.1
    · split at h
      · rw [Bool.and_eq_true, Bool.and_eq_true, decide_eq_true_iff] at h; exact h.2.1
      · split at h
        · rw [Bool.and_eq_true] at h; exact he h.1
        · cases h
/-- v, or the null if it is not valid -/
def leV (v : Va) : Va := if vvB v then v else nullV
theorem vvB_sm {v : Va} (h : vvB v = true) : SmV v := by
  refine ⟨vvB_size h, ?_⟩
  unfold vvB at h
  split at h
  · simp only [Bool.and_eq_true, beq_iff_eq] at h; omega
  · split at h
    · simp only [Bool.and_eq_true, decide_eq_true_iff] at h; exact h.2
    · split at h
      · simp only [Bool.and_eq_true, beq_iff_eq] at h; omega
      · split at h
        · simp only [Bool.and_eq_true, Bool.or_eq_true, beq_iff_eq] at h; omega
        · cases h
theorem leV_size (v : Va) : SmV (leV v) := by
  unfold leV
  split
  · rename_i h; exact vvB_sm h
  · decide
set_option maxRecDepth 100000 in
set_option maxHeartbeats 4000000 in
theorem rvalidv_any (v : Va) (w : World) (hv : v.t.size ≤ 9223372036854775807) : Calls Tryz.prog 64 #[vag v] w fun e w' => e = .returned (vag (leV v)) ∧ Ext w w' := by
  have HV := Lib.hid fun w => rvv_any v w hv
  rcases h : vvB v with _ | _
  · rw [h] at HV
    have hl : leV v = nullV := by unfold leV; rw [h]; rfl
    rw [hl]
    clear hl h
    go_enter Tryz.func64, Tryz.ntmps64
    go_wp2_with fail
    refine (HV.out _).mono ?_
    rintro e w1 ⟨rfl, hb1⟩
    obtain ⟨x1, rfl⟩ := hb1.get
    clear hb1
    go_wp2_with fail
    refine (rnull7 _).mono ?_
    rintro e w1 ⟨rfl, hb1⟩
    obtain ⟨x2, rfl⟩ := hb1.get
    clear hb1
    go_wp2
    refine bodyPost_ret (v := vag nullV) ?_ rfl ⟨rfl, by repeat (first | exact Ext.refl' _ | assumption | apply Ext.ex' | apply Ext.al | apply Ext.drN | apply Ext.dr)⟩
    simp [results, Tryz.results64, go_sem, ↓IntWalk.iteOmega, nullV]
  · rw [h] at HV
    have hl : leV v = v := by unfold leV; rw [h]; rfl
    rw [hl]
    clear hl h
    go_enter Tryz.func64, Tryz.ntmps64
    go_wp2_with fail
    refine (HV.out _).mono ?_
    rintro e w1 ⟨rfl, hb1⟩
    obtain ⟨x1, rfl⟩ := hb1.get
    clear hb1
    go_wp2
    refine bodyPost_ret (v := vag v) ?_ rfl ⟨rfl, by repeat (first | exact Ext.refl' _ | assumption | apply Ext.ex' | apply Ext.al | apply Ext.drN | apply Ext.dr)⟩
    simp [results, Tryz.results64, go_sem, ↓IntWalk.iteOmega]
set_option maxRecDepth 100000 in
set_option maxHeartbeats 4000000 in
theorem rint7_any (n : Int) (w : World) : Calls Tryz.prog 43 #[.int .i64 n] w fun e w' => RVs e ∧ Ext w w' := by
  have HV := Lib.hid fun w => rvalidv_any ⟨1, n, ⟨#[]⟩⟩ w (show (⟨#[]⟩ : ByteArray).size ≤ 9223372036854775807 from by decide)
  have HZ := Lib.hid (leV_size ⟨1, n, ⟨#[]⟩⟩)
  generalize leV ⟨1, n, ⟨#[]⟩⟩ = r at HV HZ
  go_enter Tryz.func43, Tryz.ntmps43
  go_wp2_with fail
  refine (HV.out _).mono ?_
  rintro e w1 ⟨rfl, hb1⟩
  obtain ⟨x1, rfl⟩ := hb1.get
  clear hb1
  go_wp2
  refine bodyPost_ret (v := vag r) ?_ rfl ⟨RVs.mk r HZ.out, by repeat (first | exact Ext.refl' _ | assumption | apply Ext.ex' | apply Ext.al | apply Ext.drN | apply Ext.dr)⟩
  simp [results, Tryz.results43, go_sem, ↓IntWalk.iteOmega]
set_option maxRecDepth 100000 in
set_option maxHeartbeats 4000000 in
theorem rtext7_any (s : ByteArray) (w : World) (hs : s.size ≤ 9223372036854775807) : Calls Tryz.prog 65 #[.string s] w fun e w' => RVs e ∧ Ext w w' := by
  have HV := Lib.hid fun w => rvalidv_any ⟨2, 0, s⟩ w hs
  have HZ := Lib.hid (leV_size ⟨2, 0, s⟩)
  generalize leV ⟨2, 0, s⟩ = r at HV HZ
  go_enter Tryz.func65, Tryz.ntmps65
  go_wp2_with fail
  refine (HV.out _).mono ?_
  rintro e w1 ⟨rfl, hb1⟩
  obtain ⟨x1, rfl⟩ := hb1.get
  clear hb1
  go_wp2
  refine bodyPost_ret (v := vag r) ?_ rfl ⟨RVs.mk r HZ.out, by repeat (first | exact Ext.refl' _ | assumption | apply Ext.ex' | apply Ext.al | apply Ext.drN | apply Ext.dr)⟩
  simp [results, Tryz.results65, go_sem, ↓IntWalk.iteOmega]
/-- the truth value of a comparison -/
def tyT (a b : Va) (is : Bool) : Int := if a.k = 0 ∨ a.k ≠ b.k then 1 else if is then 2 else 0
set_option maxRecDepth 100000 in
set_option maxHeartbeats 4000000 in
theorem rtruthc_any (a b : Va) (is : Bool) (w : World) : Calls Tryz.prog 74 #[vag a, vag b, .bool is] w fun e w' => e = .returned (.int .i64 (tyT a b is)) ∧ Ext w w' := by
  have HT := Lib.hid (show tyT a b is = if a.k = 0 ∨ a.k ≠ b.k then 1 else if is then 2 else 0 from rfl)
  generalize tyT a b is = t at HT ⊢
  rcases h1 : (a.k == 0) with _ | _
  · have h1n : ¬ a.k = 0 := by simpa using h1
    rcases h2 : (a.k == b.k) with _ | _
    · have h2n : ¬ a.k = b.k := by simpa using h2
      have h2b : (a.k != b.k) = true := by simpa using h2n
      have ht : t = 1 := by rw [HT.out, if_pos (.inr h2n)]
      subst ht
      clear HT h1n h2n h2
      go_enter Tryz.func74, Tryz.ntmps74
      go_wp2
      go_ret
      exact ⟨rfl, by repeat (first | exact Ext.refl' _ | assumption | apply Ext.ex' | apply Ext.al | apply Ext.drN | apply Ext.dr)⟩
    · have h2n : a.k = b.k := by simpa using h2
      have h2b : (a.k != b.k) = false := by simpa using h2n
      have ht : t = if is then 2 else 0 := by rw [HT.out, if_neg (by intro h; rcases h with h | h; exact h1n h; exact h h2n)]
      subst ht
      clear HT h1n h2n h2
      cases is
      · go_enter Tryz.func74, Tryz.ntmps74
        go_wp2
        go_ret
        exact ⟨rfl, by repeat (first | exact Ext.refl' _ | assumption | apply Ext.ex' | apply Ext.al | apply Ext.drN | apply Ext.dr)⟩
      · go_enter Tryz.func74, Tryz.ntmps74
        go_wp2
        go_ret
        exact ⟨rfl, by repeat (first | exact Ext.refl' _ | assumption | apply Ext.ex' | apply Ext.al | apply Ext.drN | apply Ext.dr)⟩
  · have h1n : a.k = 0 := by simpa using h1
    have ht : t = 1 := by rw [HT.out, if_pos (.inl h1n)]
    subst ht
    clear HT h1n
    go_enter Tryz.func74, Tryz.ntmps74
    go_wp2
    go_ret
    exact ⟨rfl, by repeat (first | exact Ext.refl' _ | assumption | apply Ext.ex' | apply Ext.al | apply Ext.drN | apply Ext.dr)⟩


set_option maxRecDepth 100000 in
set_option maxHeartbeats 4000000 in
theorem requal7_any (a b : Va) (w : World) : Calls Tryz.prog 62 #[vag a, vag b] w fun e w' => e = .returned (.int .i64 (tyT a b (cmpV a b == 0))) ∧ Ext w w' := by
  have hc := fun W => rvcmp_any a b W
  generalize cmpV a b = z at hc ⊢
  have HC := Lib.hid hc
  clear hc
  go_enter Tryz.func62, Tryz.ntmps62
  go_wp2_with fail
  refine wp_region_ext (by kernel_rfl) (by kernel_rfl) ?_
  repeat (first | go_big_quiet_step ((first | (go_at_call 75; exact Calls.ext_of (HC.out _)) | (go_at_call 74; exact Calls.ext_of (rtruthc_any a b _ _)))) | quiet_step ((first | (go_at_call 75; exact Calls.ext_of (HC.out _)) | (go_at_call 74; exact Calls.ext_of (rtruthc_any a b _ _)))))
  refine wpQuiet_nil ?_
  intro _ hw'
  obtain ⟨xq, hw''⟩ := hw'
  subst hw''
  go_wp2
  go_ret
  exact ⟨rfl, by repeat (first | exact Ext.refl' _ | assumption | apply Ext.ex' | apply Ext.al | apply Ext.drN | apply Ext.dr)⟩
set_option maxRecDepth 100000 in
set_option maxHeartbeats 4000000 in
theorem rless7_any (a b : Va) (w : World) : Calls Tryz.prog 63 #[vag a, vag b] w fun e w' => RI e ∧ Ext w w' := by
  have hc := fun W => rvcmp_any a b W
  generalize cmpV a b = z at hc
  have HC := Lib.hid hc
  clear hc
  go_enter Tryz.func63, Tryz.ntmps63
  go_wp2_with fail
  refine wp_region_ext (by kernel_rfl) (by kernel_rfl) ?_
  repeat (first | go_big_quiet_step ((first | (go_at_call 75; exact Calls.ext_of (HC.out _)) | (go_at_call 74; exact Calls.ext_of (rtruthc_any a b _ _)))) | quiet_step ((first | (go_at_call 75; exact Calls.ext_of (HC.out _)) | (go_at_call 74; exact Calls.ext_of (rtruthc_any a b _ _)))))
  refine wpQuiet_nil ?_
  intro _ hw'
  obtain ⟨xq, hw''⟩ := hw'
  subst hw''
  go_wp2
  go_ret
  exact ⟨RI.mk7 _, by repeat (first | exact Ext.refl' _ | assumption | apply Ext.ex' | apply Ext.al | apply Ext.drN | apply Ext.dr)⟩
set_option maxRecDepth 100000 in
set_option maxHeartbeats 4000000 in
theorem rnot7_any (a : Int) (w : World) : Calls Tryz.prog 39 #[.int .i64 a] w fun e w' => RI e ∧ Ext w w' := by
  go_enter Tryz.func39, Tryz.ntmps39
  go_wp2
  all_goals go_ret
  all_goals exact ⟨RI.mk7 _, by repeat (first | exact Ext.refl' _ | assumption | apply Ext.ex' | apply Ext.al | apply Ext.drN | apply Ext.dr)⟩
def anT (a b : Int) : Int := if a = 0 ∨ b = 0 then 0 else if a = 2 ∧ b = 2 then 2 else 1
theorem anT_two {a b : Int} (h : anT a b = 2) : a = 2 ∧ b = 2 := by
  unfold anT at h
  split at h
  · omega
  · split at h
    · assumption
    · omega
set_option maxRecDepth 100000 in
set_option maxHeartbeats 4000000 in
theorem rand7_any (a b : Int) (w : World) : Calls Tryz.prog 60 #[.int .i64 a, .int .i64 b] w fun e w' => e = .returned (.int .i64 (anT a b)) ∧ Ext w w' := by
  rcases h1 : (a == 0) with _ | _ <;> rcases h2 : (b == 0) with _ | _ <;> rcases h3 : (a == 2) with _ | _ <;> rcases h4 : (b == 2) with _ | _
  all_goals go_enter Tryz.func60, Tryz.ntmps60
  all_goals go_wp2
  all_goals go_ret
  all_goals refine ⟨?_, by repeat (first | exact Ext.refl' _ | assumption | apply Ext.ex' | apply Ext.al | apply Ext.drN | apply Ext.dr)⟩
  all_goals simp_all [anT]
set_option maxRecDepth 100000 in
set_option maxHeartbeats 4000000 in
theorem ror7_any (a b : Int) (w : World) : Calls Tryz.prog 61 #[.int .i64 a, .int .i64 b] w fun e w' => RI e ∧ Ext w w' := by
  rcases h1 : (a == 0) with _ | _ <;> rcases h2 : (b == 0) with _ | _ <;> rcases h3 : (a == 2) with _ | _ <;> rcases h4 : (b == 2) with _ | _
  all_goals go_enter Tryz.func61, Tryz.ntmps61
  all_goals go_wp2
  all_goals go_ret
  all_goals exact ⟨RI.mk7 _, by repeat (first | exact Ext.refl' _ | assumption | apply Ext.ex' | apply Ext.al | apply Ext.drN | apply Ext.dr)⟩
@[go_sem high] theorem eql_va (a b c d : Int) (s t : ByteArray) (w : World) : (binOp .eql 29 (.agg #[.int .i64 a, .int .i64 b, .string s]) (.agg #[.int .i64 c, .int .i64 d, .string t])).run Tryz.prog w = .ok (.bool (a == c && b == d && s.toList == t.toList)) w := by
  simp [go_sem, held_value, Tryz.underlying29]
  by_cases h1 : a = c <;> by_cases h2 : b = d <;> by_cases h3 : s.toList = t.toList <;> simp [h1, h2, h3]
/-- is the value true, false -/
def isT (v : Va) : Bool := v.k == 3 && v.i == 1 && v.t.toList == []
def isF (v : Va) : Bool := v.k == 3 && v.i == 0 && v.t.toList == []
def trT (v : Va) : Int := if isT v then 2 else if isF v then 0 else 1
theorem trT_two {v : Va} : trT v = 2 ↔ isT v = true := by
  unfold trT
  constructor
  · intro h
    split at h
    · assumption
    · split at h <;> omega
  · intro h
    rw [if_pos h]
theorem nil_ba {s : ByteArray} (h : (s.toList == []) = true) : s = ⟨#[]⟩ := by
  rw [Lib.toList_data] at h
  have h2 : s.data.toList = [] := by simpa using h
  exact ByteArray.ext (Array.toList_inj.1 h2)
theorem isT_eq {v : Va} (h : isT v = true) : v = ⟨3, 1, ⟨#[]⟩⟩ := by
  obtain ⟨k, i, t⟩ := v
  unfold isT at h
  rw [Bool.and_eq_true, Bool.and_eq_true, beq_iff_eq, beq_iff_eq] at h
  obtain ⟨⟨h1, h2⟩, h3⟩ := h
  have h3 := nil_ba h3
  simp only at h1 h2 h3
  rw [h1, h2, h3]
theorem isF_eq {v : Va} (h : isF v = true) : v = ⟨3, 0, ⟨#[]⟩⟩ := by
  obtain ⟨k, i, t⟩ := v
  unfold isF at h
  rw [Bool.and_eq_true, Bool.and_eq_true, beq_iff_eq, beq_iff_eq] at h
  obtain ⟨⟨h1, h2⟩, h3⟩ := h
  have h3 := nil_ba h3
  simp only at h1 h2 h3
  rw [h1, h2, h3]
set_option maxRecDepth 100000 in
set_option maxHeartbeats 4000000 in
theorem rTruth7_any (v : Va) (w : World) : Calls Tryz.prog 19 #[vag v] w fun e w' => e = .returned (.int .i64 (trT v)) ∧ Ext w w' := by
  have HT := Lib.hid (show trT v = if isT v then 2 else if isF v then 0 else 1 from rfl)
  generalize trT v = t at HT ⊢
  rcases h1 : isT v with _ | _
  case true =>
    have ht : t = 2 := by rw [HT.out, h1]; rfl
    subst ht
    obtain rfl := isT_eq h1
    clear HT h1
    go_enter Tryz.func19, Tryz.ntmps19
    go_wp2_with fail
    refine wp_region_ext (by kernel_rfl) (by kernel_rfl) ?_
    repeat (first | go_big_quiet_step ((first | (go_at_call 34; exact Calls.ext_of (rbool_t _)) | (go_at_call 34; exact Calls.ext_of (rbool_f _)))) | quiet_step ((first | (go_at_call 34; exact Calls.ext_of (rbool_t _)) | (go_at_call 34; exact Calls.ext_of (rbool_f _)))))
    refine wpQuiet_nil ?_
    intro _ hw'
    obtain ⟨xq, hw''⟩ := hw'
    subst hw''
    go_wp2
    go_ret
    exact ⟨rfl, by repeat (first | exact Ext.refl' _ | assumption | apply Ext.ex' | apply Ext.al | apply Ext.drN | apply Ext.dr)⟩
  rcases h0 : isF v with _ | _
  case true =>
    have ht : t = 0 := by rw [HT.out, h1, h0]; rfl
    subst ht
    obtain rfl := isF_eq h0
    clear HT h1 h0
    go_enter Tryz.func19, Tryz.ntmps19
    go_wp2_with fail
    refine wp_region_ext (by kernel_rfl) (by kernel_rfl) ?_
    repeat (first | go_big_quiet_step ((first | (go_at_call 34; exact Calls.ext_of (rbool_t _)) | (go_at_call 34; exact Calls.ext_of (rbool_f _)))) | quiet_step ((first | (go_at_call 34; exact Calls.ext_of (rbool_t _)) | (go_at_call 34; exact Calls.ext_of (rbool_f _)))))
    refine wpQuiet_nil ?_
    intro _ hw'
    obtain ⟨xq, hw''⟩ := hw'
    subst hw''
    go_wp2_with fail
    refine wp_region_ext (by kernel_rfl) (by kernel_rfl) ?_
    repeat (first | go_big_quiet_step ((first | (go_at_call 34; exact Calls.ext_of (rbool_t _)) | (go_at_call 34; exact Calls.ext_of (rbool_f _)))) | quiet_step ((first | (go_at_call 34; exact Calls.ext_of (rbool_t _)) | (go_at_call 34; exact Calls.ext_of (rbool_f _)))))
    refine wpQuiet_nil ?_
    intro _ hw'
    obtain ⟨xq, hw''⟩ := hw'
    subst hw''
    go_wp2
    go_ret
    exact ⟨rfl, by repeat (first | exact Ext.refl' _ | assumption | apply Ext.ex' | apply Ext.al | apply Ext.drN | apply Ext.dr)⟩
  have ht : t = 1 := by rw [HT.out, h1, h0]; rfl
  subst ht
  clear HT
  rcases q1 : (v.k == 3) with _ | _
  · clear h1 h0
    go_enter Tryz.func19, Tryz.ntmps19
    go_wp2_with fail
    refine wp_region_ext (by kernel_rfl) (by kernel_rfl) ?_
    repeat (first | go_big_quiet_step ((first | (go_at_call 34; exact Calls.ext_of (rbool_t _)) | (go_at_call 34; exact Calls.ext_of (rbool_f _)))) | quiet_step ((first | (go_at_call 34; exact Calls.ext_of (rbool_t _)) | (go_at_call 34; exact Calls.ext_of (rbool_f _)))))
    refine wpQuiet_nil ?_
    intro _ hw'
    obtain ⟨xq, hw''⟩ := hw'
    subst hw''
    go_wp2_with fail
    refine wp_region_ext (by kernel_rfl) (by kernel_rfl) ?_
    repeat (first | go_big_quiet_step ((first | (go_at_call 34; exact Calls.ext_of (rbool_t _)) | (go_at_call 34; exact Calls.ext_of (rbool_f _)))) | quiet_step ((first | (go_at_call 34; exact Calls.ext_of (rbool_t _)) | (go_at_call 34; exact Calls.ext_of (rbool_f _)))))
    refine wpQuiet_nil ?_
    intro _ hw'
    obtain ⟨xq, hw''⟩ := hw'
    subst hw''
    go_wp2
    go_ret
    exact ⟨rfl, by repeat (first | exact Ext.refl' _ | assumption | apply Ext.ex' | apply Ext.al | apply Ext.drN | apply Ext.dr)⟩
  have h1 : (v.i == 1 && v.t.toList == []) = false := by
    unfold isT at h1
    rw [q1] at h1
    exact h1
  have h0 : (v.i == 0 && v.t.toList == []) = false := by
    unfold isF at h0
    rw [q1] at h0
    exact h0
  rcases q2 : (v.t.toList == []) with _ | _
  · have q3 : (v.t.toList == (⟨#[]⟩ : ByteArray).toList) = false := by rw [nil_toList]; exact q2
    have q4 : v.t.toList.isEmpty = false := by rw [← q2]; cases v.t.toList <;> rfl
    have q5 : ¬ v.t.toList = [] := by simpa using q2
    clear h1 h0
    go_enter Tryz.func19, Tryz.ntmps19
    go_wp2_with fail
    refine wp_region_ext (by kernel_rfl) (by kernel_rfl) ?_
    repeat (first | go_big_quiet_step ((first | (go_at_call 34; exact Calls.ext_of (rbool_t _)) | (go_at_call 34; exact Calls.ext_of (rbool_f _)))) | quiet_step ((first | (go_at_call 34; exact Calls.ext_of (rbool_t _)) | (go_at_call 34; exact Calls.ext_of (rbool_f _)))))
    refine wpQuiet_nil ?_
    intro _ hw'
    obtain ⟨xq, hw''⟩ := hw'
    subst hw''
    go_wp2_with fail
    refine wp_region_ext (by kernel_rfl) (by kernel_rfl) ?_
    repeat (first | go_big_quiet_step ((first | (go_at_call 34; exact Calls.ext_of (rbool_t _)) | (go_at_call 34; exact Calls.ext_of (rbool_f _)))) | quiet_step ((first | (go_at_call 34; exact Calls.ext_of (rbool_t _)) | (go_at_call 34; exact Calls.ext_of (rbool_f _)))))
    refine wpQuiet_nil ?_
    intro _ hw'
    obtain ⟨xq, hw''⟩ := hw'
    subst hw''
    go_wp2
    go_ret
    exact ⟨rfl, by repeat (first | exact Ext.refl' _ | assumption | apply Ext.ex' | apply Ext.al | apply Ext.drN | apply Ext.dr)⟩
  rw [q2, Bool.and_true] at h1 h0
  clear q2
  go_enter Tryz.func19, Tryz.ntmps19
  go_wp2_with fail
  refine wp_region_ext (by kernel_rfl) (by kernel_rfl) ?_
  repeat (first | go_big_quiet_step ((first | (go_at_call 34; exact Calls.ext_of (rbool_t _)) | (go_at_call 34; exact Calls.ext_of (rbool_f _)))) | quiet_step ((first | (go_at_call 34; exact Calls.ext_of (rbool_t _)) | (go_at_call 34; exact Calls.ext_of (rbool_f _)))))
  refine wpQuiet_nil ?_
  intro _ hw'
  obtain ⟨xq, hw''⟩ := hw'
  subst hw''
  go_wp2_with fail
  refine wp_region_ext (by kernel_rfl) (by kernel_rfl) ?_
  repeat (first | go_big_quiet_step ((first | (go_at_call 34; exact Calls.ext_of (rbool_t _)) | (go_at_call 34; exact Calls.ext_of (rbool_f _)))) | quiet_step ((first | (go_at_call 34; exact Calls.ext_of (rbool_t _)) | (go_at_call 34; exact Calls.ext_of (rbool_f _)))))
  refine wpQuiet_nil ?_
  intro _ hw'
  obtain ⟨xq, hw''⟩ := hw'
  subst hw''
  go_wp2
  go_ret
  exact ⟨rfl, by repeat (first | exact Ext.refl' _ | assumption | apply Ext.ex' | apply Ext.al | apply Ext.drN | apply Ext.dr)⟩
/-- the value of a truth value -/
def ofT (t : Int) : Va := if t = 2 then ⟨3, 1, ⟨#[]⟩⟩ else if t = 0 then ⟨3, 0, ⟨#[]⟩⟩ else nullV
theorem ofT_size (t : Int) : SmV (ofT t) := by unfold ofT; split; decide; split <;> decide
theorem ofT_true {t : Int} (h : isT (ofT t) = true) : t = 2 := by
  unfold ofT at h
  split at h
  · assumption
  · split at h <;> simp [isT, nullV] at h
set_option maxRecDepth 100000 in
set_option maxHeartbeats 4000000 in
theorem rof7_any (t : Int) (w : World) : Calls Tryz.prog 38 #[.int .i64 t] w fun e w' => e = .returned (vag (ofT t)) ∧ Ext w w' := by
  rcases h2 : (t == 2) with _ | _
  · have h2n : ¬ t = 2 := by simpa using h2
    rcases h0 : (t == 0) with _ | _
    · have h0n : ¬ t = 0 := by simpa using h0
      rw [show ofT t = nullV by unfold ofT; rw [if_neg h2n, if_neg h0n]]
      clear h2n h0n
      go_enter Tryz.func38, Tryz.ntmps38
      go_wp2_with fail
      refine (rnull7 _).mono ?_
      rintro e w1 ⟨rfl, hb1⟩
      obtain ⟨x1, rfl⟩ := hb1.get
      clear hb1
      go_wp2
      refine bodyPost_ret (v := vag nullV) ?_ rfl ⟨rfl, by repeat (first | exact Ext.refl' _ | assumption | apply Ext.ex' | apply Ext.al | apply Ext.drN | apply Ext.dr)⟩
      simp [results, Tryz.results38, go_sem, ↓IntWalk.iteOmega, nullV]
    · have h0n : t = 0 := by simpa using h0
      subst h0n
      rw [show ofT 0 = ⟨3, 0, ⟨#[]⟩⟩ from rfl]
      clear h2n
      go_enter Tryz.func38, Tryz.ntmps38
      go_wp2_with fail
      refine (rbool_f _).mono ?_
      rintro e w1 ⟨rfl, hb1⟩
      obtain ⟨x1, rfl⟩ := hb1.get
      clear hb1
      go_wp2
      refine bodyPost_ret (v := .agg #[.int .i64 3, .int .i64 0, .string ⟨#[]⟩]) ?_ rfl ⟨rfl, by repeat (first | exact Ext.refl' _ | assumption | apply Ext.ex' | apply Ext.al | apply Ext.drN | apply Ext.dr)⟩
      simp [results, Tryz.results38, go_sem, ↓IntWalk.iteOmega]
  · have h2n : t = 2 := by simpa using h2
    subst h2n
    rw [show ofT 2 = ⟨3, 1, ⟨#[]⟩⟩ from rfl]
    go_enter Tryz.func38, Tryz.ntmps38
    go_wp2_with fail
    refine (rbool_t _).mono ?_
    rintro e w1 ⟨rfl, hb1⟩
    obtain ⟨x1, rfl⟩ := hb1.get
    clear hb1
    go_wp2
    refine bodyPost_ret (v := .agg #[.int .i64 3, .int .i64 1, .string ⟨#[]⟩]) ?_ rfl ⟨rfl, by repeat (first | exact Ext.refl' _ | assumption | apply Ext.ex' | apply Ext.al | apply Ext.drN | apply Ext.dr)⟩
    simp [results, Tryz.results38, go_sem, ↓IntWalk.iteOmega]

end Go.Proofs.YtflhikpihbenaaaGreat
