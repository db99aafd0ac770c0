/- The contracts of access.system and access.Choose. -/
import Derived.Test.YtflhikpihbenaaaGreatPre
set_option linter.unusedSimpArgs false
set_option linter.unusedVariables false
namespace Go.Proofs.YtflhikpihbenaaaGreat
open Go.RowKit

def pvB (p : Int × Int) : Bool := decide (0 ≤ p.1) && decide (p.1 < p.2) && decide (p.2 ≤ 1099511627776)
abbrev pr (p : Int × Int) : Value := .agg #[.int .i64 p.1, .int .i64 p.2]
set_option maxHeartbeats 400000 in
theorem pvalid_any (p : Int × Int) (w : World) : Calls Tryz.prog 24 #[pr p] w fun e w' => e = .returned (.bool (pvB p)) ∧ Ext w w' := by
  go_enter Tryz.func24, Tryz.ntmps24
  go_wp2
  all_goals go_ret
  all_goals refine ⟨?_, Ext.al1 _ _⟩
  all_goals simp_all [pvB]
  all_goals omega

theorem held_period : Tryz.prog.stoodInHeld 35 = false := by kernel_rfl
@[go_sem] theorem guard_period : Tryz.prog.eqGuardType Tryz.prog.depth 35 = false := by kernel_rfl
@[go_sem high] theorem neq_period (a b c d : Int) (w : World) : (binOp .neq 35 (.agg #[.int .i64 a, .int .i64 b]) (.agg #[.int .i64 c, .int .i64 d])).run Tryz.prog w = .ok (.bool (!(a == c && b == d))) w := by
  simp [go_sem, held_period, Tryz.underlying35]
  by_cases h1 : a = c <;> by_cases h2 : b = d <;> simp [h1, h2]

/-- the system period of a clause -/
def sysF (k f t : Int) : Int × Int := if k = 0 then (1099511627775, 1099511627776) else if k = 1 then (f, f + 1) else if k = 2 then (f, t) else if k = 3 then (f, t + 1) else if k = 4 then (0, 1099511627776) else (0, 0)

set_option maxHeartbeats 800000 in
theorem system_any (k f t : Int) (w : World) (hf0 : -9223372036854775808 ≤ f) (hf : f ≤ 1099511627776) (ht0 : -9223372036854775808 ≤ t) (ht : t ≤ 1099511627776) :
    Calls Tryz.prog 22 #[.agg #[.int .i64 k, .int .i64 f, .int .i64 t]] w fun e w' => e = .returned (pr (sysF k f t)) ∧ Ext w w' := by
  go_enter Tryz.func22, Tryz.ntmps22
  go_wp2
  all_goals refine bodyPost_ret (v := pr (sysF k f t)) ?_ rfl ⟨rfl, by repeat (first | exact Ext.refl' _ | assumption | apply Ext.ex' | apply Ext.al | apply Ext.drN | apply Ext.dr)⟩
  all_goals simp [results, Tryz.results22, go_sem, ↓IntWalk.iteOmega]
  all_goals simp_all [sysF]

/-- a path: kind, key, rectangle -/
structure Pa where
  k : Int
  key : List Va
  v : Int × Int
  s : Int × Int
def chF (key : List Va) (s d : Int × Int) : Pa :=
  if key ≠ [] then ⟨1, key, (0, 0), (0, 0)⟩ else if pvB s = false then ⟨0, [], (0, 0), (0, 0)⟩ else
  if ¬ (s.1 = 0 ∧ s.2 = 1099511627776) then ⟨3, [], d, s⟩ else if ¬ (d.1 = 0 ∧ d.2 = 1099511627776) then ⟨2, [], d, (0, 0)⟩ else ⟨0, [], (0, 0), (0, 0)⟩

/-- a path that a call returns -/
def PaPost (w : World) (p : Pa) (e : Ending) (w' : World) : Prop := ∃ A c, e = .returned (.agg #[.int .i64 p.k, .slice A p.key.length c, .int .i64 p.v.1, .int .i64 p.v.2, .int .i64 p.s.1, .int .i64 p.s.2]) ∧ Ext w w' ∧ w'.ownsRow w.heap.size 29 3 (.slice A p.key.length c) p.key.length (vcs p.key)

set_option maxHeartbeats 4000000 in
theorem choose_any (s0 : ByteArray) (a1 a3 a4 : Option Addr) (n1 m1 n3 m3 n4 m4 : Nat) (K : Option Addr) (ks : List Int) (kc : Nat) (o i : Int) (v : Va) (nm : ByteArray) (A : Option Addr) (args : List Ex) (c : Nat) (css : List (List Value)) (k f t : Int) (d : Int × Int) (w : World)
    (hK : Rd w 1 K ks.length (ic ks)) (hkl : ks.length ≤ 1048576) (hR : Rd w 7 A args.length css.flatten) (hs : REs w args css) (hl : args.length ≤ 9223372036854775807) (hb : (conds (.mk o i v nm args)).length ≤ 1048576) (hf0 : -9223372036854775808 ≤ f) (hf : f ≤ 1099511627776) (ht0 : -9223372036854775808 ≤ t) (ht : t ≤ 1099511627776) :
    Calls Tryz.prog 11 #[.agg #[.string s0, .slice a1 n1 m1, .slice K ks.length kc, .slice a3 n3 m3, .slice a4 n4 m4], exag o i v nm A args.length c, .agg #[.int .i64 k, .int .i64 f, .int .i64 t], pr d] w (PaPost w (chF (prefF (conds (.mk o i v nm args)) ks) (sysF k f t) d)) := by
  have HP := Lib.hid (fun w h1 h2 h3 => prefix_any (.string s0) (.slice a1 n1 m1) (.slice a3 n3 m3) (.slice a4 n4 m4) K ks kc o i v nm A args c css w ⟨_, rfl⟩ ⟨_, _, _, rfl⟩ ⟨_, _, _, rfl⟩ ⟨_, _, _, rfl⟩ h1 hkl h2 h3 hl hb)
  have HS := Lib.hid (fun w => system_any k f t w hf0 hf ht0 ht)
  have HKL : Hid ((prefF (conds (.mk o i v nm args)) ks).length ≤ 1048576) := Lib.hid (Nat.le_trans (prefF_length _ _) hkl)
  generalize sysF k f t = s at HS ⊢
  generalize prefF (conds (.mk o i v nm args)) ks = key at HP HKL ⊢
  clear hb hf0 hf ht0 ht
  have FIN : ∀ (pa : Pa) (A' : Option Addr) (c' : Nat) (W : World) (vv : Value), vv = .agg #[.int .i64 pa.k, .slice A' pa.key.length c', .int .i64 pa.v.1, .int .i64 pa.v.2, .int .i64 pa.s.1, .int .i64 pa.s.2] → Ext w W → W.ownsRow w.heap.size 29 3 (.slice A' pa.key.length c') pa.key.length (vcs pa.key) → PaPost w pa (.returned vv) W := fun pa A' c' W vv h1 h2 h3 => ⟨A', c', by rw [h1], h2, h3⟩
  have HFIN := Lib.hid FIN
  clear FIN
  rcases key with _ | ⟨q, key⟩
  · rcases (show (pvB s = false) ∨ (pvB s = true ∧ ¬ (s.1 = 0 ∧ s.2 = 1099511627776)) ∨ (pvB s = true ∧ (s.1 = 0 ∧ s.2 = 1099511627776) ∧ ¬ (d.1 = 0 ∧ d.2 = 1099511627776)) ∨ (pvB s = true ∧ (s.1 = 0 ∧ s.2 = 1099511627776) ∧ (d.1 = 0 ∧ d.2 = 1099511627776)) from by
      rcases hq : pvB s with _ | _ <;> simp <;> omega) with h1 | ⟨h1, h2⟩ | ⟨h1, h2, h3⟩ | ⟨h1, h2, h3⟩
    · have HC : Hid (chF [] s d = ⟨0, [], (0, 0), (0, 0)⟩) := Lib.hid (by simp [chF, h1])
      rw [HC.out]
      go_enter Tryz.func11, Tryz.ntmps11
      go_wp2_with (first
        | (go_at_call 22; (refine (HS.out _).mono ?_; rintro e w1 ⟨rfl, hb1⟩; obtain ⟨x1, rfl⟩ := hb1.get; clear hb1))
        | (go_at_call 23; (refine (HP.out _ (hK.ext (by repeat (first | exact Ext.refl' _ | assumption | apply Ext.ex' | apply Ext.al | apply Ext.drN | apply Ext.dr))) (hR.ext (by repeat (first | exact Ext.refl' _ | assumption | apply Ext.ex' | apply Ext.al | apply Ext.drN | apply Ext.dr))) (REs.ext (by repeat (first | exact Ext.refl' _ | assumption | apply Ext.ex' | apply Ext.al | apply Ext.drN | apply Ext.dr)) hs)).mono ?_; rintro e w1 ⟨v1, rfl, hb1, ho1⟩; obtain ⟨x2, rfl⟩ := hb1.get; obtain ⟨A1, c1, rfl, hd1, hd2⟩ := Own.form ho1; have hR1 := Rd.of_own ho1; clear hb1 ho1 hd1 hd2))
        | (go_at_call 24; (refine (pvalid_any s _).mono ?_; rintro e w1 ⟨rfl, hb1⟩; obtain ⟨x3, rfl⟩ := hb1.get; clear hb1)))
      refine bodyPost_ret ?_ rfl (HFIN.out _ none 0 _ _ rfl (by repeat (first | exact Ext.refl' _ | assumption | apply Ext.ex' | apply Ext.al | apply Ext.drN | apply Ext.dr)) (World.ownsRow_nil _ _ _ _))
      simp [results, Tryz.results11, go_sem, ↓IntWalk.iteOmega]
    · have HC : Hid (chF [] s d = ⟨3, [], d, s⟩) := Lib.hid (by simp [chF, h1, h2])
      rw [HC.out]
      have f0 : (!s.1 == 0 || !s.2 == 1099511627776) = true := by (rcases Decidable.em (s.1 = 0) with a | a <;> rcases Decidable.em (s.2 = 1099511627776) with b | b <;> simp_all)
      clear h2
      go_enter Tryz.func11, Tryz.ntmps11
      go_wp2_with (first
        | (go_at_call 22; (refine (HS.out _).mono ?_; rintro e w1 ⟨rfl, hb1⟩; obtain ⟨x1, rfl⟩ := hb1.get; clear hb1))
        | (go_at_call 23; (refine (HP.out _ (hK.ext (by repeat (first | exact Ext.refl' _ | assumption | apply Ext.ex' | apply Ext.al | apply Ext.drN | apply Ext.dr))) (hR.ext (by repeat (first | exact Ext.refl' _ | assumption | apply Ext.ex' | apply Ext.al | apply Ext.drN | apply Ext.dr))) (REs.ext (by repeat (first | exact Ext.refl' _ | assumption | apply Ext.ex' | apply Ext.al | apply Ext.drN | apply Ext.dr)) hs)).mono ?_; rintro e w1 ⟨v1, rfl, hb1, ho1⟩; obtain ⟨x2, rfl⟩ := hb1.get; obtain ⟨A1, c1, rfl, hd1, hd2⟩ := Own.form ho1; have hR1 := Rd.of_own ho1; clear hb1 ho1 hd1 hd2))
        | (go_at_call 24; (refine (pvalid_any s _).mono ?_; rintro e w1 ⟨rfl, hb1⟩; obtain ⟨x3, rfl⟩ := hb1.get; clear hb1)))
      refine bodyPost_ret ?_ rfl (HFIN.out _ none 0 _ _ rfl (by repeat (first | exact Ext.refl' _ | assumption | apply Ext.ex' | apply Ext.al | apply Ext.drN | apply Ext.dr)) (World.ownsRow_nil _ _ _ _))
      simp [results, Tryz.results11, go_sem, ↓IntWalk.iteOmega]
    · have HC : Hid (chF [] s d = ⟨2, [], d, (0, 0)⟩) := Lib.hid (by simp [chF, h1, h2, h3])
      rw [HC.out]
      have f0 : (s.1 == 0) = true := by simp [h2.1]
      have f1 : (s.2 == 1099511627776) = true := by simp [h2.2]
      have f2 : (!d.1 == 0 || !d.2 == 1099511627776) = true := by (rcases Decidable.em (d.1 = 0) with a | a <;> rcases Decidable.em (d.2 = 1099511627776) with b | b <;> simp_all)
      clear h2 h3
      go_enter Tryz.func11, Tryz.ntmps11
      go_wp2_with (first
        | (go_at_call 22; (refine (HS.out _).mono ?_; rintro e w1 ⟨rfl, hb1⟩; obtain ⟨x1, rfl⟩ := hb1.get; clear hb1))
        | (go_at_call 23; (refine (HP.out _ (hK.ext (by repeat (first | exact Ext.refl' _ | assumption | apply Ext.ex' | apply Ext.al | apply Ext.drN | apply Ext.dr))) (hR.ext (by repeat (first | exact Ext.refl' _ | assumption | apply Ext.ex' | apply Ext.al | apply Ext.drN | apply Ext.dr))) (REs.ext (by repeat (first | exact Ext.refl' _ | assumption | apply Ext.ex' | apply Ext.al | apply Ext.drN | apply Ext.dr)) hs)).mono ?_; rintro e w1 ⟨v1, rfl, hb1, ho1⟩; obtain ⟨x2, rfl⟩ := hb1.get; obtain ⟨A1, c1, rfl, hd1, hd2⟩ := Own.form ho1; have hR1 := Rd.of_own ho1; clear hb1 ho1 hd1 hd2))
        | (go_at_call 24; (refine (pvalid_any s _).mono ?_; rintro e w1 ⟨rfl, hb1⟩; obtain ⟨x3, rfl⟩ := hb1.get; clear hb1)))
      refine bodyPost_ret ?_ rfl (HFIN.out _ none 0 _ _ rfl (by repeat (first | exact Ext.refl' _ | assumption | apply Ext.ex' | apply Ext.al | apply Ext.drN | apply Ext.dr)) (World.ownsRow_nil _ _ _ _))
      simp [results, Tryz.results11, go_sem, ↓IntWalk.iteOmega]
    · have HC : Hid (chF [] s d = ⟨0, [], (0, 0), (0, 0)⟩) := Lib.hid (by simp [chF, h1, h2, h3])
      rw [HC.out]
      have f0 : (s.1 == 0) = true := by simp [h2.1]
      have f1 : (s.2 == 1099511627776) = true := by simp [h2.2]
      have f2 : (d.1 == 0) = true := by simp [h3.1]
      have f3 : (d.2 == 1099511627776) = true := by simp [h3.2]
      clear h2 h3
      go_enter Tryz.func11, Tryz.ntmps11
      go_wp2_with (first
        | (go_at_call 22; (refine (HS.out _).mono ?_; rintro e w1 ⟨rfl, hb1⟩; obtain ⟨x1, rfl⟩ := hb1.get; clear hb1))
        | (go_at_call 23; (refine (HP.out _ (hK.ext (by repeat (first | exact Ext.refl' _ | assumption | apply Ext.ex' | apply Ext.al | apply Ext.drN | apply Ext.dr))) (hR.ext (by repeat (first | exact Ext.refl' _ | assumption | apply Ext.ex' | apply Ext.al | apply Ext.drN | apply Ext.dr))) (REs.ext (by repeat (first | exact Ext.refl' _ | assumption | apply Ext.ex' | apply Ext.al | apply Ext.drN | apply Ext.dr)) hs)).mono ?_; rintro e w1 ⟨v1, rfl, hb1, ho1⟩; obtain ⟨x2, rfl⟩ := hb1.get; obtain ⟨A1, c1, rfl, hd1, hd2⟩ := Own.form ho1; have hR1 := Rd.of_own ho1; clear hb1 ho1 hd1 hd2))
        | (go_at_call 24; (refine (pvalid_any s _).mono ?_; rintro e w1 ⟨rfl, hb1⟩; obtain ⟨x3, rfl⟩ := hb1.get; clear hb1)))
      refine bodyPost_ret ?_ rfl (HFIN.out _ none 0 _ _ rfl (by repeat (first | exact Ext.refl' _ | assumption | apply Ext.ex' | apply Ext.al | apply Ext.drN | apply Ext.dr)) (World.ownsRow_nil _ _ _ _))
      simp [results, Tryz.results11, go_sem, ↓IntWalk.iteOmega]
  · have HC : Hid (chF (q :: key) s d = ⟨1, q :: key, (0, 0), (0, 0)⟩) := Lib.hid (by simp [chF])
    rw [HC.out]
    have hkp : 0 < (q :: key).length := by simp
    generalize q :: key = key at HP HKL hkp ⊢
    have hkl2 := HKL.out
    go_enter Tryz.func11, Tryz.ntmps11
    go_wp2_with (first
        | (go_at_call 22; (refine (HS.out _).mono ?_; rintro e w1 ⟨rfl, hb1⟩; obtain ⟨x1, rfl⟩ := hb1.get; clear hb1))
        | (go_at_call 23; (refine (HP.out _ (hK.ext (by repeat (first | exact Ext.refl' _ | assumption | apply Ext.ex' | apply Ext.al | apply Ext.drN | apply Ext.dr))) (hR.ext (by repeat (first | exact Ext.refl' _ | assumption | apply Ext.ex' | apply Ext.al | apply Ext.drN | apply Ext.dr))) (REs.ext (by repeat (first | exact Ext.refl' _ | assumption | apply Ext.ex' | apply Ext.al | apply Ext.drN | apply Ext.dr)) hs)).mono ?_; rintro e w1 ⟨v1, rfl, hb1, ho1⟩; obtain ⟨x2, rfl⟩ := hb1.get; obtain ⟨A1, c1, rfl, hd1, hd2⟩ := Own.form ho1; have HO1 := Lib.hid ho1; clear hb1 ho1 hd1 hd2))
        | (go_at_call 24; (refine (pvalid_any s _).mono ?_; rintro e w1 ⟨rfl, hb1⟩; obtain ⟨x3, rfl⟩ := hb1.get; clear hb1)))
    refine bodyPost_ret ?_ rfl (HFIN.out _ A1 c1 _ _ rfl (by repeat (first | exact Ext.refl' _ | assumption | apply Ext.ex' | apply Ext.al | apply Ext.drN | apply Ext.dr)) (own_mono (own_base HO1.out (by simp)) (by (try simp); (try omega))))
    simp [results, Tryz.results11, go_sem, ↓IntWalk.iteOmega]
end Go.Proofs.YtflhikpihbenaaaGreat
