/- sound, Check. -/
import Derived.Test.YtdmbgimehepfaaaBtCk
set_option linter.unusedSimpArgs false
set_option linter.unusedVariables false
namespace Go.Proofs.Ytdmbgimehepfaaa
open Go.RowKit


set_option maxRecDepth 100000 in
set_option maxHeartbeats 8000000 in
theorem sound_any (base m tb : Nat) (hm : 2 ≤ m) (hm2 : m ≤ 64) (w : World) (htb : w.cell? ⟨tb, 1, none⟩ = some (.int .i64 m)) : ∀ (d : Nat) (t : MT) (lv : Nat) (W : World), Good base w d t → Wf m d (if lv = 1 then 1 else m / 2) m t → 1 ≤ lv → lv + d ≤ 2097152 → Ext w W →
    Calls Try.prog 41 #[pt tb, pt t.r, .int .i64 lv, .int .i64 ((lv + d : Nat) : Int)] W fun e w' => e = .returned (.bool true) ∧ Ext W w' := by
  intro d
  induction d with
  | zero =>
    intro t lv W hG hW hlv hld hE
    obtain ⟨hks, hlo, hhi⟩ := hW
    have hnode := (Good.node (d := 0) hG).same (w' := W) fun b hb => hE.block b ((Good.node (d := 0) hG).old b hb).2.1
    have htb := hE.cell' htb
    obtain ⟨PA, pc, hpv, _, _, _⟩ := own_form2 hnode.op
    obtain ⟨KA, kc, hkv, _, _, _⟩ := own_form2 hnode.ok
    have hp := hnode.hp
    rw [hpv, hkv, hks] at hp
    obtain ⟨np, hnp⟩ : ∃ np, t.ps.length = np := ⟨_, rfl⟩
    rw [hnp] at hp hlo hhi
    obtain ⟨rt, t0, t1, _, _⟩ := two_cells hp
    obtain ⟨h, hh⟩ : ∃ h, m / 2 = h := ⟨_, rfl⟩
    rw [hh] at hlo
    have hdiv : (m : Int) / 2 = (h : Int) := by omega
    have hwh : IntKind.i64.wrap (h : Int) = (h : Int) := IntWalk.i64_in _ (by omega)
    have h2 : ¬ ((m : Int) < (np : Int)) := by omega
    rw [Nat.add_zero]
    clear hG hks hp hnode hpv hkv hnp hh
    by_cases h1 : lv = 1
    · subst h1
      have h3 : ¬ ((np : Int) < 1) := by simp at hlo; omega
      have h4 : ¬ (np = 0) := by simp at hlo; omega
      clear hlo
      go_enter Try.func41, Try.ntmps41
      go_wp2
      go_quiet (fail)
      go_wp2
      go_ret
      exact ⟨rfl, by repeat (first | exact Ext.refl' _ | assumption | apply Ext.ex' | apply Ext.al | apply Ext.drN | apply Ext.dr)⟩
    · rw [if_neg h1] at hlo
      have h3 : ¬ ((np : Int) < (h : Int)) := by omega
      have h1z : ¬ ((lv : Int) = 1) := by omega
      go_enter Try.func41, Try.ntmps41
      go_wp2
      go_quiet (fail)
      go_wp2
      go_ret
      exact ⟨rfl, by repeat (first | exact Ext.refl' _ | assumption | apply Ext.ex' | apply Ext.al | apply Ext.drN | apply Ext.dr)⟩
  | succ d ih =>
    intro t lv W hG hW hlv hld hE
    obtain ⟨hkl, hlo, hhi, hkw⟩ := hW
    have hnode := hG.1.same (w' := W) fun b hb => hE.block b (hG.1.old b hb).2.1
    have htb' := hE.cell' htb
    obtain ⟨PA, pc, hpv, _, _, _⟩ := own_form2 hnode.op
    obtain ⟨kb, kc, hkv, _, _⟩ := own_ne0 hnode.ok (by omega)
    have hp := hnode.hp
    have hok := hnode.ok
    rw [hpv, hkv] at hp
    rw [hkv] at hok
    obtain ⟨np, hnp⟩ : ∃ np, t.ps.length = np := ⟨_, rfl⟩
    obtain ⟨nk, hnk⟩ : ∃ nk, t.ks.length = nk := ⟨_, rfl⟩
    rw [hnp] at hp hlo hhi hkl
    rw [hnk] at hp hkl hok
    obtain ⟨rt, t0, t1, _, _⟩ := two_cells hp
    obtain ⟨h, hh⟩ : ∃ h, m / 2 = h := ⟨_, rfl⟩
    rw [hh] at hlo
    have hdiv : (m : Int) / 2 = (h : Int) := by omega
    have hwh : IntKind.i64.wrap (h : Int) = (h : Int) := IntWalk.i64_in _ (by omega)
    have hwn : IntKind.i64.wrap ((np : Int) + 1) = (np : Int) + 1 := IntWalk.i64_in _ (by omega)
    have hwl : IntKind.i64.wrap ((lv : Int) + 1) = (lv : Int) + 1 := IntWalk.i64_in _ (by omega)
    have h2 : ¬ ((m : Int) < (np : Int)) := by omega
    have hkz : ((nk : Int)) = (np : Int) + 1 := by omega
    have hkz2 : nk = np + 1 := hkl
    have h0 : ¬ (nk = 0) := by omega
    have HIH : Hid (∀ (j : Nat) (k : MT) (W' : World), t.ks[j]? = some k → Ext W W' → Calls Try.prog 41 #[pt tb, pt k.r, .int .i64 ((lv : Int) + 1), .int .i64 ((lv + (d + 1) : Nat) : Int)] W' fun e w' => e = .returned (.bool true) ∧ Ext W' w') := Lib.hid fun j k W' hk hE' => by
      have := ih k (lv + 1) W' (hG.2 k (List.mem_of_getElem? hk)) (by rw [if_neg (by omega)]; exact hkw k (List.mem_of_getElem? hk)) (by omega) (by omega) (hE.tr hE')
      rw [show lv + 1 + d = lv + (d + 1) by omega, show ((lv + 1 : Nat) : Int) = (lv : Int) + 1 by omega] at this
      exact this
    have HOK := Lib.hid hok
    have HNK := Lib.hid hnk
    obtain ⟨dd, hdd⟩ : ∃ dd : Int, ((lv + (d + 1) : Nat) : Int) = dd := ⟨_, rfl⟩
    rw [hdd] at HIH ⊢
    clear hG hp hnode hpv hkv hnp hh hkw hok hnk ih htb hdd
    have HKZ := Lib.hid hkz2
    clear hkz2 hkl
    have HGO : Hid (∀ (lo3 : Prop), True) := Lib.hid fun _ => trivial
    by_cases h1 : lv = 1
    · subst h1
      have h3 : ¬ ((np : Int) < 1) := by simp at hlo; omega
      have h4 : ¬ (np = 0) := by simp at hlo; omega
      have HLO : Hid (1 ≤ np ∧ h ≤ 32 + np) := Lib.hid (by omega)
      clear hlo
      go_enter Try.func41, Try.ntmps41
      go_wp2
      go_quiet (fail)
      go_wp2
      go_quiet (fail)
      go_wp2
      have d1 : decide (m < np) = false := decide_eq_false (by omega)
      have d2 : decide ((np : Int) < 1) = false := decide_eq_false (by have := HLO.out; omega)
      have d3 : ((np : Int) + 1 == 0) = false := by simp; omega
      have d4 : decide ((np : Int) < 1) = false := d2
      (try simp only [d1, d2, d3, d4, Bool.or_false, Bool.false_or])
      clear hkz d1 d2 d3 d4
      go_loopg [64] nk (fun g x wr => ∃ j : Nat, x = .int .i64 j ∧ j ≤ nk ∧ nk - j ≤ g ∧ Ext W wr)
      case atStart => exact ⟨0, rfl, by omega, by omega, by repeat (first | exact Ext.refl' _ | assumption | apply Ext.ex' | apply Ext.al | apply Ext.drN | apply Ext.dr)⟩
      case round =>
        obtain ⟨j, rfl, hj, hg, hEr⟩ := hrel
        have HG := Lib.hid hg
        clear hg
        by_cases hjl : j < nk
        · have hjb : j ≤ 66 := by have := HKZ.out; omega
          obtain ⟨k, hk⟩ : ∃ k, t.ks[j]? = some k := ⟨_, List.getElem?_eq_getElem (by have := HNK.out; omega)⟩
          obtain ⟨hkb, q0⟩ := ownQ_at (ownsRow_ext HOK.out hEr) hk
          have HKJ : Hid (∀ W', Ext wr W' → Calls Try.prog 41 #[pt tb, pt k.r, .int .i64 (((1 : Nat) : Int) + 1), .int .i64 dd] W' fun e w' => e = .returned (.bool true) ∧ Ext W' w') := Lib.hid fun W' hE' => HIH.out j k W' hk (hEr.tr hE')
          have hjz : (j : Int) < (nk : Int) := by omega
          have hjz2 : (j : Int) < (np : Int) + 1 := by have := HKZ.out; omega
          have hwj : IntKind.i64.wrap ((j : Int) + 1) = (j : Int) + 1 := IntWalk.i64_in _ (by omega)
          clear hk
          go_wp2_with fail
          refine Calls.mono (HKJ.out _ (by repeat (first | exact Ext.refl' _ | assumption | apply Ext.ex' | apply Ext.al | apply Ext.drN | apply Ext.dr))) ?_
          rintro e w1 ⟨rfl, hb1⟩
          obtain ⟨x1, rfl⟩ := hb1.get
          clear hb1
          go_wp2
          go_roundg (gk - 1)
          case rel => exact ⟨j + 1, by go_num, by omega, by have := HG.out; omega, hEr.tr (by repeat (first | exact Ext.refl' _ | assumption | apply Ext.ex' | apply Ext.al | apply Ext.drN | apply Ext.dr))⟩
          case measure => have := HG.out; omega
        · have hjz : ¬ ((j : Int) < (np : Int) + 1) := by have := HKZ.out; omega
          go_wp2
          go_ret
          exact ⟨rfl, hEr.tr (by repeat (first | exact Ext.refl' _ | assumption | apply Ext.ex' | apply Ext.al | apply Ext.drN | apply Ext.dr))⟩
    · rw [if_neg h1] at hlo
      have h3 : ¬ ((np : Int) < (h : Int)) := by omega
      have h1z : ¬ ((lv : Int) = 1) := by omega
      have HLO : Hid (1 ≤ np ∧ h ≤ np) := Lib.hid (by omega)
      go_enter Try.func41, Try.ntmps41
      go_wp2
      go_quiet (fail)
      go_wp2
      go_quiet (fail)
      go_wp2
      have d1 : decide (m < np) = false := decide_eq_false (by omega)
      have d2 : decide ((np : Int) < 1) = false := decide_eq_false (by have := HLO.out; omega)
      have d3 : ((np : Int) + 1 == 0) = false := by simp; omega
      have d4 : decide (np < h) = false := decide_eq_false (by have := HLO.out; omega)
      (try simp only [d1, d2, d3, d4, Bool.or_false, Bool.false_or])
      clear hkz d1 d2 d3 d4
      go_loopg [64] nk (fun g x wr => ∃ j : Nat, x = .int .i64 j ∧ j ≤ nk ∧ nk - j ≤ g ∧ Ext W wr)
      case atStart => exact ⟨0, rfl, by omega, by omega, by repeat (first | exact Ext.refl' _ | assumption | apply Ext.ex' | apply Ext.al | apply Ext.drN | apply Ext.dr)⟩
      case round =>
        obtain ⟨j, rfl, hj, hg, hEr⟩ := hrel
        have HG := Lib.hid hg
        clear hg
        by_cases hjl : j < nk
        · have hjb : j ≤ 66 := by have := HKZ.out; omega
          obtain ⟨k, hk⟩ : ∃ k, t.ks[j]? = some k := ⟨_, List.getElem?_eq_getElem (by have := HNK.out; omega)⟩
          obtain ⟨hkb, q0⟩ := ownQ_at (ownsRow_ext HOK.out hEr) hk
          have HKJ : Hid (∀ W', Ext wr W' → Calls Try.prog 41 #[pt tb, pt k.r, .int .i64 ((lv : Int) + 1), .int .i64 dd] W' fun e w' => e = .returned (.bool true) ∧ Ext W' w') := Lib.hid fun W' hE' => HIH.out j k W' hk (hEr.tr hE')
          have hjz : (j : Int) < (nk : Int) := by omega
          have hjz2 : (j : Int) < (np : Int) + 1 := by have := HKZ.out; omega
          have hwj : IntKind.i64.wrap ((j : Int) + 1) = (j : Int) + 1 := IntWalk.i64_in _ (by omega)
          clear hk
          go_wp2_with fail
          refine Calls.mono (HKJ.out _ (by repeat (first | exact Ext.refl' _ | assumption | apply Ext.ex' | apply Ext.al | apply Ext.drN | apply Ext.dr))) ?_
          rintro e w1 ⟨rfl, hb1⟩
          obtain ⟨x1, rfl⟩ := hb1.get
          clear hb1
          go_wp2
          go_roundg (gk - 1)
          case rel => exact ⟨j + 1, by go_num, by omega, by have := HG.out; omega, hEr.tr (by repeat (first | exact Ext.refl' _ | assumption | apply Ext.ex' | apply Ext.al | apply Ext.drN | apply Ext.dr))⟩
          case measure => have := HG.out; omega
        · have hjz : ¬ ((j : Int) < (np : Int) + 1) := by have := HKZ.out; omega
          go_wp2
          go_ret
          exact ⟨rfl, hEr.tr (by repeat (first | exact Ext.refl' _ | assumption | apply Ext.ex' | apply Ext.al | apply Ext.drN | apply Ext.dr))⟩

end Go.Proofs.Ytdmbgimehepfaaa
