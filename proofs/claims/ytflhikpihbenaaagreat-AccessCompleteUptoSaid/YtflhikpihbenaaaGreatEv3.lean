/- The reference of expressions: leaf, logic; relations of periods. -/
import Derived.Test.YtflhikpihbenaaaGreatEv2
import Derived.Test.YtflhikpihbenaaaGreatCho
set_option linter.unusedSimpArgs false
set_option linter.unusedVariables false
namespace Go.Proofs.YtflhikpihbenaaaGreat
open Go.RowKit


theorem atV_size {row : List Va} {M : Nat} (h : ∀ v ∈ row, v.t.size ≤ M) (i : Int) : (atV row i).t.size ≤ M := by
  unfold atV
  split
  · exact Nat.zero_le _
  · rw [List.getD_eq_getElem?_getD]
    cases hq : row[i.toNat]? with
    | none => exact Nat.zero_le _
    | some v => exact h v (List.mem_of_getElem? hq)
/-- the value of a leaf -/
def lfV (o i : Int) (v : Va) (row : List Va) : Va := leV (if o = 2 then atV row i else v)
set_option maxRecDepth 100000 in
set_option maxHeartbeats 4000000 in
theorem leaf_any (o i : Int) (v : Va) (nm : ByteArray) (A : Option Addr) (n c : Nat) (RA : Option Addr) (rc : Nat) (row : List Va) (w : World) (hv : v.t.size ≤ 9223372036854775807) (hA : Rd w 3 RA row.length (vcl row)) (nl : row.length ≤ 9223372036854775807) (hz : ∀ v ∈ row, v.t.size ≤ 9223372036854775807) :
    Calls Tryz.prog 37 #[exag o i v nm A n c, .slice RA row.length rc] w fun e w' => e = .returned (vag (lfV o i v row)) ∧ Ext w w' := by
  have HAT := Lib.hid fun W (e : Ext w W) => rat8_any RA rc row i W (hA.ext e) nl
  have hlf : lfV o i v row = leV (if o = 2 then atV row i else v) := rfl
  have HU := Lib.hid (atV_size hz i)
  generalize atV row i = u at HAT hlf HU
  clear hz hA nl
  rcases h2 : (o == 2) with _ | _
  · have h2n : ¬ o = 2 := by simpa using h2
    rw [if_neg h2n] at hlf
    have HV := Lib.hid fun w => rvv_any v w hv
    rw [hlf]
    clear hlf h2n HAT HU
    rcases h : vvB v with _ | _
    · rw [h] at HV
      rw [show leV v = nullV by unfold leV; rw [h]; rfl]
      clear h
      go_enter Tryz.func37, Tryz.ntmps37
      go_wp2_with fail
      refine (HV.out _).mono ?_
      rintro e w1 ⟨rfl, hb1⟩
      obtain ⟨x1, rfl⟩ := hb1.get
      clear hb1
      go_wp2_with fail
      refine (rnull7 _).mono ?_
      rintro e w1 ⟨rfl, hb1⟩
      obtain ⟨x2, rfl⟩ := hb1.get
      clear hb1
      go_wp2
      refine bodyPost_ret (v := vag nullV) ?_ rfl ⟨rfl, by repeat (first | exact Ext.refl' _ | assumption | apply Ext.ex' | apply Ext.al | apply Ext.drN | apply Ext.dr)⟩
      simp [results, Tryz.results37, go_sem, ↓IntWalk.iteOmega, nullV]
    · rw [h] at HV
      rw [show leV v = v by unfold leV; rw [h]; rfl]
      clear h
      go_enter Tryz.func37, Tryz.ntmps37
      go_wp2_with fail
      refine (HV.out _).mono ?_
      rintro e w1 ⟨rfl, hb1⟩
      obtain ⟨x1, rfl⟩ := hb1.get
      clear hb1
      go_wp2
      refine bodyPost_ret (v := vag v) ?_ rfl ⟨rfl, by repeat (first | exact Ext.refl' _ | assumption | apply Ext.ex' | apply Ext.al | apply Ext.drN | apply Ext.dr)⟩
      simp [results, Tryz.results37, go_sem, ↓IntWalk.iteOmega]
  · have h2n : o = 2 := by simpa using h2
    rw [if_pos h2n] at hlf
    have HV := Lib.hid fun w => rvv_any u w HU.out
    rw [hlf]
    clear hlf h2n HU
    rcases h : vvB u with _ | _
    · rw [h] at HV
      rw [show leV u = nullV by unfold leV; rw [h]; rfl]
      clear h
      go_enter Tryz.func37, Tryz.ntmps37
      go_wp2_with fail
      refine (HAT.out _ (by repeat (first | exact Ext.refl' _ | assumption | apply Ext.ex' | apply Ext.al | apply Ext.drN | apply Ext.dr))).mono ?_
      rintro e w1 ⟨rfl, hb1⟩
      obtain ⟨x3, rfl⟩ := hb1.get
      clear hb1
      go_wp2_with fail
      refine (HV.out _).mono ?_
      rintro e w1 ⟨rfl, hb1⟩
      obtain ⟨x1, rfl⟩ := hb1.get
      clear hb1
      go_wp2_with fail
      refine (rnull7 _).mono ?_
      rintro e w1 ⟨rfl, hb1⟩
      obtain ⟨x2, rfl⟩ := hb1.get
      clear hb1
      go_wp2
      refine bodyPost_ret (v := vag nullV) ?_ rfl ⟨rfl, by repeat (first | exact Ext.refl' _ | assumption | apply Ext.ex' | apply Ext.al | apply Ext.drN | apply Ext.dr)⟩
      simp [results, Tryz.results37, go_sem, ↓IntWalk.iteOmega, nullV]
    · rw [h] at HV
      rw [show leV u = u by unfold leV; rw [h]; rfl]
      clear h
      go_enter Tryz.func37, Tryz.ntmps37
      go_wp2_with fail
      refine (HAT.out _ (by repeat (first | exact Ext.refl' _ | assumption | apply Ext.ex' | apply Ext.al | apply Ext.drN | apply Ext.dr))).mono ?_
      rintro e w1 ⟨rfl, hb1⟩
      obtain ⟨x3, rfl⟩ := hb1.get
      clear hb1
      go_wp2_with fail
      refine (HV.out _).mono ?_
      rintro e w1 ⟨rfl, hb1⟩
      obtain ⟨x1, rfl⟩ := hb1.get
      clear hb1
      go_wp2
      refine bodyPost_ret (v := vag u) ?_ rfl ⟨rfl, by repeat (first | exact Ext.refl' _ | assumption | apply Ext.ex' | apply Ext.al | apply Ext.drN | apply Ext.dr)⟩
      simp [results, Tryz.results37, go_sem, ↓IntWalk.iteOmega]
/-- what a conjunction's value tells -/
def LgP (op : Int) (l : List Va) (e : Ending) : Prop := ∃ r : Va, e = .returned (vag r) ∧ SmV r ∧ (op = 5 → isT r = true → ∀ x ∈ l, isT x = true)
theorem LgP.mk {op : Int} {l : List Va} (t : Int) (h : op = 5 → t = 2 → ∀ x ∈ l, isT x = true) : LgP op l (.returned (vag (ofT t))) := ⟨_, rfl, ofT_size t, fun h1 h2 => h h1 (ofT_true h2)⟩
set_option maxRecDepth 100000 in
set_option maxHeartbeats 4000000 in
theorem logic_any (op : Int) (A : Option Addr) (n c : Nat) (l : List Va) (w : World) (hn : l.length = n) (hA : Rd w 3 A n (vcl l)) (nl : n ≤ 1048576) (h2 : 1 ≤ n) : Calls Tryz.prog 40 #[.int .i64 op, .slice A n c] w fun e w' => LgP op l e ∧ Ext w w' := by
  have HN := Lib.hid hn
  obtain ⟨v0, b0, o0, hv0, hAe, hb0, p0, p1, p2⟩ := hA.val3 hn (show 0 < n by omega)
  have HV0 : Hid (∀ x ∈ l.take 1, trT x = 2 ∨ ¬ trT v0 = 2) := Lib.hid (by
    intro x hx
    obtain ⟨h1, h2⟩ := List.getElem?_eq_some_iff.1 hv0
    rw [List.take_succ_eq_append_getElem h1, h2] at hx
    simp at hx
    subst hx
    exact Classical.em _)
  have HT0 := Lib.hid fun W => rTruth7_any v0 W
  generalize trT v0 = t0 at HV0 HT0
  subst hAe
  clear hn hv0
  simp only [Nat.zero_mul, Nat.add_zero] at p0 p1 p2
  go_enter Tryz.func40, Tryz.ntmps40
  go_wp2_with fail
  refine (HT0.out _).mono ?_
  rintro e w1 ⟨rfl, hb1⟩
  obtain ⟨x1, rfl⟩ := hb1.get
  clear hb1
  go_wp2
  go_loopg [5, 6] n (fun g q ix wr => ∃ (k : Nat) (t : Int), q = .int .i64 t ∧ ix = .int .i64 k ∧ 1 ≤ k ∧ k ≤ n ∧ n - k ≤ g ∧ Hid (op = 5 → t = 2 → ∀ x ∈ l.take k, trT x = 2) ∧ Ext (w.alloc (.cells #[.int .i64 0, .int .i64 0, .string ⟨#[]⟩] 29)) wr)
  case atStart => exact ⟨1, t0, rfl, rfl, by omega, by omega, by omega, Lib.hid (fun _ ht x hx => (HV0.out x hx).resolve_right (fun h => h ht)), by repeat (first | exact Ext.refl' _ | assumption | apply Ext.ex' | apply Ext.al | apply Ext.drN | apply Ext.dr)⟩
  case round =>
    obtain ⟨k, t, rfl, rfl, hk1, hk, hg, HK, hE⟩ := hrel
    have HE := Lib.hid hE
    obtain ⟨x, rfl⟩ := hE.get
    clear hE
    have HG := Lib.hid hg
    clear hg
    by_cases hlt : k < n
    · have hkz : (k : Int) < (n : Int) := by omega
      obtain ⟨v1, b1, o1, hv1, hAe, hb1, q0, q1, q2⟩ := hA.val3 HN.out hlt
      simp only [Option.some.injEq, Addr.mk.injEq, and_true] at hAe
      obtain ⟨rfl, rfl⟩ := hAe
      have HTK : Hid (l.take (k + 1) = l.take k ++ [v1]) := Lib.hid (by
        obtain ⟨h1, h2⟩ := List.getElem?_eq_some_iff.1 hv1
        rw [List.take_succ_eq_append_getElem h1, h2])
      have HT1 := Lib.hid fun W => rTruth7_any v1 W
      have HAN : Hid (∀ t1, trT v1 = t1 → op = 5 → anT t t1 = 2 → ∀ x ∈ l.take (k + 1), trT x = 2) := Lib.hid fun t1 ht1 h5 h2 y hy => by
        obtain ⟨ha, hb⟩ := anT_two h2
        rw [HTK.out] at hy
        rcases List.mem_append.1 hy with hy | hy
        · exact HK.out h5 ha y hy
        · simp at hy; subst hy; rw [ht1]; exact hb
      obtain ⟨t1, ht1⟩ : ∃ t1, trT v1 = t1 := ⟨_, rfl⟩
      have HAN2 := Lib.hid (HAN.out t1 ht1)
      rw [ht1] at HT1
      clear ht1 hv1 HTK HAN
      rcases h5 : (op == 5) with _ | _
      · have h5n : ¬ op = 5 := by simpa using h5
        go_wp2_with fail
        refine (HT1.out _).mono ?_
        rintro e w1 ⟨rfl, hb1⟩
        obtain ⟨x1, rfl⟩ := hb1.get
        clear hb1
        go_wp2_with fail
        refine (ror7_any t t1 _).mono ?_
        rintro e w1 ⟨⟨z, rfl⟩, hbb⟩
        obtain ⟨x2, rfl⟩ := hbb.get
        clear hbb
        go_wp2
        go_roundg (gk - 1)
        case rel => exact ⟨k + 1, z, rfl, by go_num, by omega, by omega, by have := HG.out; omega, Lib.hid (fun h => absurd h h5n), by repeat (first | exact Ext.refl' _ | assumption | apply Ext.ex' | apply Ext.al | apply Ext.drN | apply Ext.dr)⟩
        case measure => have := HG.out; omega
      · go_wp2_with fail
        refine (HT1.out _).mono ?_
        rintro e w1 ⟨rfl, hb1⟩
        obtain ⟨x1, rfl⟩ := hb1.get
        clear hb1
        go_wp2_with fail
        refine (rand7_any t t1 _).mono ?_
        rintro e w1 ⟨rfl, hb1⟩
        obtain ⟨x2, rfl⟩ := hb1.get
        clear hb1
        go_wp2
        go_roundg (gk - 1)
        case rel => exact ⟨k + 1, anT t t1, rfl, by go_num, by omega, by omega, by have := HG.out; omega, HAN2, by repeat (first | exact Ext.refl' _ | assumption | apply Ext.ex' | apply Ext.al | apply Ext.drN | apply Ext.dr)⟩
        case measure => have := HG.out; omega
    · have hkz : ¬ ((k : Int) < (n : Int)) := by omega
      have HFIN : Hid (LgP op l (.returned (vag (ofT t)))) := Lib.hid (LgP.mk t fun h5 h2 x hx => by
        have h := HK.out h5 h2
        rw [List.take_of_length_le (by have := HN.out; omega)] at h
        exact trT_two.1 (h x hx))
      have HO := Lib.hid fun W => rof7_any t W
      generalize ofT t = r at HO HFIN
      go_wp2_with fail
      refine (HO.out _).mono ?_
      rintro e w1 ⟨rfl, hb1⟩
      obtain ⟨x1, rfl⟩ := hb1.get
      clear hb1
      go_wp2
      refine bodyPost_ret (v := vag r) ?_ rfl ⟨HFIN.out, by repeat (first | exact Ext.refl' _ | assumption | apply Ext.ex' | apply Ext.al | apply Ext.drN | apply Ext.dr)⟩
      simp [results, Tryz.results40, go_sem, ↓IntWalk.iteOmega]

end Go.Proofs.YtflhikpihbenaaaGreat
