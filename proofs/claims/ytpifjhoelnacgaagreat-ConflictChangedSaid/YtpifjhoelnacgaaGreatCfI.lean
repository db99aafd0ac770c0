/- The regions of a map as an iterator; collected; Merge. -/
import Derived.Test.YtpifjhoelnacgaaGreatCfK
set_option linter.unusedSimpArgs false
set_option linter.unusedVariables false
namespace Go.Proofs.YtpifjhoelnacgaaGreat
open Go.RowKit Go.Maps Go.Shelf

attribute [local go_sem] Oper.semAt_some


theorem ownsRow_kpt {h B : Nat} {t1 t2 : TypeId} {W W' : World} (k : KpT h B t1 t2 W W') {base e size n : Nat} {v : Value} {xs : List Value} (hr : W.ownsRow base e size v n xs) (h1 : e ≠ t1) (h2 : e ≠ t2) : W'.ownsRow base e size v n xs := by
  refine ⟨hr.1, ?_⟩
  rcases hr.2 with h0 | ⟨g, cap, cur, hv, hb, hg, r⟩
  · exact .inl h0
  · exact .inr ⟨g, cap, cur, hv, hb, k.blk _ _ _ _ hg h1 h2, r⟩
theorem Rd.str {w : World} {A : Option Addr} {ks : List (List UInt8)} {n : Nat} (h : Rd w 1 A n (ks.map encStr)) (hn : n = ks.length) {k : Nat} (hk : k < ks.length) : ∃ b o, A = some ⟨b, o, none⟩ ∧ b < w.heap.size ∧ w.cell? ⟨b, o + k, none⟩ = some (.string ⟨ks[k].toArray⟩) := by
  obtain ⟨b, o, hA, hb, hc⟩ := h.2 (by omega)
  exact ⟨b, o, hA, hb, hc k _ (by simp [hk, encStr])⟩
theorem regions_any (b : Nat) (w : World) : Calls Tryz.prog 31 #[.map (some b)] w fun e w' => e = .returned (.func (.func 46) #[] #[.pointer (some ⟨w.heap.size, 0, none⟩)]) ∧ w' = w.alloc (.cells #[.map (some b)] 53) := by
  go_enter Tryz.func31, Tryz.ntmps31
  go_wp2
  go_ret
  exact ⟨rfl, rfl⟩
theorem regL_take {F : List UInt8 → List (Int × Int)} {ks : List (List UInt8)} {j : Nat} (h : j < ks.length) : regL F (ks.take (j + 1)) = regL F (ks.take j) ++ (F ks[j]).map fun p => (⟨ks[j].toArray⟩, p) := by
  unfold regL; rw [List.take_succ_eq_append_getElem h, List.flatMap_append]; simp
theorem regL_pre {F : List UInt8 → List (Int × Int)} {ks : List (List UInt8)} {j : Nat} (h : j < ks.length) : regL F ks = regL F (ks.take j) ++ ((F ks[j]).map fun p => (⟨ks[j].toArray⟩, p)) ++ regL F (ks.drop (j + 1)) := by
  rw [← regL_take h]
  conv => lhs; rw [← List.take_append_drop (j + 1) ks]
  simp only [regL, List.flatMap_append]
set_option maxRecDepth 100000 in
set_option maxHeartbeats 8000000 in
theorem regions1_in (m l h B bm b N : Nat) (F : List UInt8 → List (Int × Int)) (ks : List (List UInt8)) (w0 : World) (hM : MapR w0 b N F) (hbm : w0.cell? ⟨bm, 0, none⟩ = some (.map (some b))) (hN : N ≤ 1048576) (hk : ks.Pairwise (· < ·)) (hm : ∀ t, t ∈ ks ↔ F t ≠ []) (hF : ∀ t, (F t).length ≤ 549755813888)
    (hh0 : w0.heap.size ≤ h) (hB0 : w0.heap.size ≤ B) (J Jx : List Acc → World → Prop) (hJa : ∀ pre W W', J pre W → W.grownBy W' none → J pre W')
    (hY : ∀ pre (x : Acc) W, J pre W → pre.length < (regL F ks).length → YieldAt Fence.wide m Tryz.prog l #[acg x] W fun e W' => (e = .returned (.bool true) ∧ J (pre ++ [x]) W' ∧ KpT h B 32 26 W W') ∨ (e = .returned (.bool false) ∧ Jx (pre ++ [x]) W'))
    (W : World) (hE : Ext w0 W) (h0 : J [] W) :
    CallsIn Fence.wide (m + 1) Tryz.prog 46 #[.func (.yield l) #[] #[], .pointer (some ⟨bm, 0, none⟩)] W fun e W' => (∃ v, e = .returned v) ∧ ((∃ xs, xs = regL F ks ∧ J xs W') ∨ ∃ pre, pre <+: regL F ks ∧ Jx pre W') := by
  have HY := Lib.hid hY
  have HJA := Lib.hid hJa
  clear hY hJa
  obtain ⟨D, hown, hMD, hhas⟩ := hM
  have hcb := hE.cell' hbm
  have hbmw := cell_lt hbm
  have hownW := hown.kept (ext_grown hE) (by simp)
  have hsz := hown.size_le
  have HSK := Lib.hid (fun ss hs => sorted_keys (ks := ks) (ss := ss) hown hhas hk hm hs)
  have HSL := Lib.hid (sortedKeys_any b N D heldR W hownW (by unfold maxLen; omega) (by omega))
  have HMK := Lib.hid (mapsKeys_any (some b) W)
  have hkN : ks.length ≤ 1048576 := by
    obtain ⟨s1, s2, s3⟩ := strKeys_spec hown
    have hn : ks.Nodup := hk.imp fun {a b} hab e => by subst e; exact lt_irr _ hab
    have hp : ks.Perm (strKeys D) := (List.perm_ext_iff_of_nodup hn s1).2 fun x => by rw [hm, s2, hhas]; simp
    rw [hp.length_eq]; omega
  refine callsIn_of_wp Tryz.func46 rfl trivial ?_ rfl
  simp only [Tryz.ntmps46, List.size_toArray, List.length_cons, List.length_nil, Nat.reduceAdd, Nat.reduceSub, Array.replicate_succ, Array.replicate_zero, List.push_toArray, List.append_toArray, List.nil_append, List.cons_append]
  gi_wp2_with (first | (refine ⟨trivial, ?_⟩; gi_at_call 48; refine CallsIn.mono (callsIn_wide.2 (callsIn_wide.1 HMK.out)) ?_; rintro e w' ⟨rfl, rfl⟩) | (refine ⟨trivial, ?_⟩; gi_at_call 47; refine CallsIn.mono (callsIn_wide.2 (callsIn_wide.1 HSL.out)) ?_; rintro e W1 ⟨v, ss, rfl, hS, hrow, hnil, hbl⟩; obtain ⟨A9, c9, rfl, hc9⟩ := row_formG hrow))
  obtain ⟨hsl, hso⟩ := HSK.out ss hS
  rw [hsl, hso] at hrow
  rw [hsl]
  have hEW1 : Ext W W1 := Ext.tr (by repeat (first | exact Ext.refl' _ | assumption | apply Ext.ex' | apply Ext.al | apply Ext.drN | apply Ext.dr)) hbl
  have hE1 := hE.tr hEW1
  have h1 := HJA.out _ _ _ h0 (ext_grown hEW1)
  have HKL : Hid (∀ t ∈ ks, t.length ≤ maxLen) := Lib.hid (fun t ht => strKeys_le hown Tryz.underlying9 t (((strKeys_spec hown).2.1 t).2 (by rw [hhas]; simpa using (hm t).1 ht)))
  have HMD := Lib.hid hMD
  have HOW := Lib.hid hown
  have HPF : Hid (∀ (j : Nat) (hj : j < ks.length) (k : Nat) (hk : k < (F ks[j]).length), regL F (ks.take j) ++ ((F ks[j]).take k).map (fun p => ((⟨ks[j].toArray⟩ : ByteArray), p)) ++ [(⟨ks[j].toArray⟩, (F ks[j])[k])] <+: regL F ks) := Lib.hid (by
    intro j hj k hk
    rw [regL_pre hj]
    refine List.IsPrefix.trans ?_ (List.prefix_append _ _)
    rw [List.append_assoc]
    refine (List.prefix_append_right_inj _).2 ?_
    have := List.take_succ_eq_append_getElem hk
    rw [show [((⟨ks[j].toArray⟩ : ByteArray), (F ks[j])[k])] = [(F ks[j])[k]].map (fun p => ((⟨ks[j].toArray⟩ : ByteArray), p)) from rfl, ← List.map_append, ← this]
    exact (List.take_prefix _ _).map _)
  clear hS hnil hsl hso hbl hEW1 h0 HSK HSL HMK hownW hcb hMD hown hhas hm hk hE
  generalize (W.alloc (.cells #[.map (some b)] 53)).heap.size = base at hrow
  gi_loopw [11] (fun i wr => ∃ j : Nat, i = .int .i64 j ∧ j ≤ ks.length ∧ J (regL F (ks.take j)) wr ∧ Ext w0 wr ∧ wr.ownsRow base 9 1 (.slice A9 ks.length c9) ks.length (ks.map encStr)) (fun i _ => ks.length - (intOf i).toNat)
  case atStart => exact ⟨0, rfl, Nat.zero_le _, by simpa [regL] using h1, hE1, hrow⟩
  case round =>
    obtain ⟨j, rfl, hj, hJ, hE, hrow⟩ := hrel
    clear h1 hE1
    have hcb := hE.cell' hbm
    have hbmr := Nat.lt_of_lt_of_le hbmw hE.size
    by_cases hlt : j < ks.length
    · obtain ⟨b', o', hA9, hbw, e0⟩ := (Rd.of_own hrow).str rfl hlt
      subst hA9
      have hkl := HKL.out ks[j] (List.getElem_mem hlt)
      have HPJ := Lib.hid (HPF.out j hlt)
      have HRT := Lib.hid (regL_take (F := F) hlt)
      generalize ks[j] = t at e0 hkl HPJ HRT
      obtain ⟨A2, n2, c2, hat, hn2, hR2⟩ := HMD.out.2 t
      subst hn2
      have hkey : keyOf Tryz.prog 9 (.string ⟨t.toArray⟩) = some (.string t) := by
        have := key_mk (s := ⟨t.toArray⟩) (show t.toArray.size ≤ maxLen by simpa using hkl)
        simpa using this
      have hlk : (Instr.lookup 53 (.map (some b)) (.string ⟨t.toArray⟩) false).run Tryz.prog wr = .ok (.slice A2 (F t).length c2) wr := look_held (HOW.out.kept (ext_grown hE) (by simp)) keyT Tryz.underlying53 (Tryz.zeroValue44 _) hkey hat
      have hFt := hF t
      generalize F t = ps at hlk HPJ HRT hR2 hFt hat
      gi_wp2
      gi_loopw [19] (fun i wr2 => ∃ k : Nat, i = .int .i64 k ∧ k ≤ ps.length ∧ J (regL F (ks.take j) ++ (ps.take k).map fun p => (⟨t.toArray⟩, p)) wr2 ∧ Ext w0 wr2 ∧ wr2.ownsRow base 9 1 (.slice (some ⟨b', o', none⟩) ks.length c9) ks.length (ks.map encStr)) (fun i _ => ps.length - (intOf i).toNat)
      case atStart => exact ⟨0, rfl, Nat.zero_le _, by simpa using hJ, hE, hrow⟩
      case round =>
        clear hlk e0 hbw hcb hbmr hJ hE hrow
        obtain ⟨k, rfl, hk, hJ, hE, hrow⟩ := hrel
        by_cases hlk2 : k < ps.length
        · obtain ⟨b2, o2, rfl, hb2, f0, f1⟩ := (hR2.ext hE).pair rfl hlk2
          have HP := Lib.hid (HPJ.out k hlk2)
          have HTK := Lib.hid (List.take_succ_eq_append_getElem hlk2)
          generalize ps[k] = p at f0 f1 HP HTK
          obtain ⟨p1, p2⟩ := p
          simp only at f0 f1
          have hJ2 := HJA.out _ _ (wr.alloc (.cells #[.int .i64 p1, .int .i64 p2] 30)) hJ (ext_grown (by repeat (first | exact Ext.refl' _ | assumption | apply Ext.ex' | apply Ext.al | apply Ext.drN | apply Ext.dr)))
          obtain ⟨fn, tmps, assign, body, hy, hRn⟩ := HY.out _ (⟨t.toArray⟩, (p1, p2)) _ hJ2 (by have h1 := HP.out.length_le; rw [List.length_append, List.length_singleton] at h1; omega)
          have HR := Lib.hid hRn
          try dsimp only at hy
          clear hRn hJ2 hJ
          gi_wp2
          refine RoundIn.mono HR.out ?_
          rintro e W3 (⟨rfl, hJ3, hb3⟩ | ⟨rfl, hJx3⟩)
          · have hE3 : Ext w0 W3 := (hE.tr (by repeat (first | exact Ext.refl' _ | assumption | apply Ext.ex' | apply Ext.al | apply Ext.drN | apply Ext.dr))).trans (hb3.but.below hh0 hB0)
            have hrow3 := ownsRow_kpt hb3 (ownsRow_ext hrow (show Ext wr _ from (by repeat (first | exact Ext.refl' _ | assumption | apply Ext.ex' | apply Ext.al | apply Ext.drN | apply Ext.dr)))) (by decide) (by decide)
            gi_wp2
            go_roundw
            case rel => exact ⟨k + 1, by go_num, by omega, by rw [HTK.out, List.map_append, ← List.append_assoc]; exact hJ3, hE3, hrow3⟩
            case measure => simp [intOf]; omega
          · gi_wp2
            refine bodyPost_ret (results_none rfl _ _ _) rfl ?_
            exact ⟨⟨_, rfl⟩, .inr ⟨_, HP.out, hJx3⟩⟩
        · have hkl2 : k = ps.length := by omega
          subst hkl2
          rw [List.take_length, ← HRT.out] at hJ
          gi_wp2
          go_roundw
          case rel => exact ⟨j + 1, by go_num, by omega, hJ, hE, hrow⟩
          case measure => simp [intOf]; omega
    · have hjl : j = ks.length := by omega
      subst hjl
      rw [List.take_length] at hJ
      gi_wp2
      go_end0
      exact ⟨⟨_, rfl⟩, .inl ⟨_, rfl, hJ⟩⟩

end Go.Proofs.YtpifjhoelnacgaaGreat
