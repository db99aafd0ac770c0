/- The contract of retention.Prune. -/
import Derived.Test.YtimhehnmmjgeaaaGreatDoorRtE
set_option linter.unusedSimpArgs false
set_option linter.unusedVariables false
namespace Go.Proofs.YtimhehnmmjgeaaaGreatDoor
open Go.RowKit


theorem elVer : El Tryz.prog 50 49 (.agg #[.int .i64 0, .int .i64 0, .slice none 0 0, .int .i64 0, .int .i64 0, .int .i64 0, .int .i64 0, .int .i64 0, .int .i64 0]) 9 88 := ⟨Tryz.underlying50, info_parts (by kernel_rfl), rfl, by decide⟩
theorem vsOf_snoc (Z : List VP) (z : VP) : verc (vsOf (Z ++ [z])) = verc (vsOf Z) ++ encV z.1 := by simp [verc]
theorem cmpB_part {h : Int} {l : List Rct} {r : Rct} (hc : cmpB h l r = true) : partF h l r = [r] := by
  unfold cmpB at hc
  rw [Bool.and_eq_true, decide_eq_true_eq] at hc
  exact partF_whole hc.1 hc.2
theorem partsF_whole {h : Int} {l : List Rct} {p : PV} (hc : cmpB h l p.r = true) : partsF h l p = [p] := by unfold partsF; rw [cmpB_part hc]; rfl
theorem pruneL_cons (h : Int) (l : List Rct) (p : PV) (ps : List PV) : pruneL h l (p :: ps) = partsF h l p ++ pruneL h l ps := rfl
theorem rel_same_at {W w' : World} {x : Add} {e sz n sz' n' : Nat} {A : Option Addr} {v : Value} {xs ys : List Value} {R : Prop} (_ : Rd w' sz' A n' ys) (h : Own W x e sz v n xs) (hE : Ext (ext W x) w') (k : ∀ x', w' = ext W x' → Own W x' e sz v n xs → R) : R := rel_same h hE k
theorem own_lt {w : World} {x : Add} {e size n : Nat} {v : Value} {xs : List Value} (h : Own w x e size v n xs) : ∀ g, v.ownBlock = some g → g < w.heap.size + x.n := fun g hg => by have := (h.lt g hg).2; rwa [size_ext] at this

set_option maxRecDepth 100000 in
set_option maxHeartbeats 8000000 in
theorem tprune_any (h : Int) (A H : Option Addr) (c ch : Nat) (Z0 : List VP) (hs : List Rct) (w : World) (hl : Rd w 9 A Z0.length (verc (vsOf Z0))) (hz : ∀ z ∈ Z0, VerIs w z.1 z.2) (hh : Rd w 4 H hs.length (rcl hs)) (nl : Z0.length ≤ 30000) (nh : hs.length ≤ 12) (nr : ∀ z ∈ Z0, z.2.row.length ≤ 1000000) :
    Calls Tryz.prog 19 #[.slice A Z0.length c, .int .i64 h, .slice H hs.length ch] w fun e w' => ∃ B d Z, e = .returned (.slice B Z.length d) ∧ Ext w w' ∧ Rd w' 9 B Z.length (verc (vsOf Z)) ∧ (∀ z ∈ Z, VerIs w' z.1 z.2) ∧ psOf Z = pruneF h hs (psOf Z0) := by
  have hlen0 : (vsOf Z0).length = Z0.length := by simp [vsOf]
  go_enter Tryz.func19, Tryz.ntmps19
  go_wp2
  go_loopw [7, 15] (fun s7 s15 wr => ∃ (k : Nat) (Z : List VP) (x : Add), k ≤ Z0.length ∧ Z.length ≤ k * 783 ∧ s15 = .int .i64 k ∧ Hid (pruneL h hs (psOf Z0) = psOf Z ++ pruneL h hs (psOf (Z0.drop k))) ∧ wr = ext w x ∧ Own w x 49 9 s7 Z.length (verc (vsOf Z)) ∧ Hid (Vers (ext w x) s7.ownBlock Z)) (fun _ s15 _ => Z0.length - (intOf s15).toNat)
  case atStart =>
    obtain ⟨x, hx⟩ := (Ext.refl' w).get
    exact ⟨0, [], x, by omega, by simp, rfl, Lib.hid (by simp), hx, own_nil _ _ _ _, Lib.hid (by intro z hz; cases hz)⟩
  case round =>
    obtain ⟨k, Z, x, hk, hZl, rfl, HF, rfl, hown, HV⟩ := hrel
    by_cases hlt : k < Z0.length
    · have hl' : Rd w 9 A (vsOf Z0).length (verc (vsOf Z0)) := by rw [hlen0]; exact hl
      obtain ⟨g, oo, rfl, hg, c0, c1, c2, c3, c4, c5, c6, c7, c8⟩ := hl'.ver (k := k) (by omega)
      clear hl'
      have HZ := Lib.hid (hz Z0[k] (List.getElem_mem _))
      have hrl := nr Z0[k] (List.getElem_mem _)
      have HD : Hid (pruneL h hs (psOf Z0) = psOf Z ++ (partsF h hs Z0[k].2 ++ pruneL h hs (psOf (Z0.drop (k + 1))))) := Lib.hid (by rw [HF.out, List.drop_eq_getElem_cons hlt]; rfl)
      have hvk : (vsOf Z0)[k]'(by omega) = Z0[k].1 := by simp [vsOf]
      rw [hvk] at c0 c1 c2 c3 c4 c5 c6 c7 c8
      clear hvk HF
      generalize Z0[k].1 = v at c0 c1 c2 c3 c4 c5 c6 c7 c8 HZ
      generalize Z0[k].2 = p at HZ HD hrl
      have hol := own_lt hown
      have HC := Lib.hid (fun w h1 => tcomplete_any h H ch hs v.r w h1 nh)
      rcases hcm : cmpB h hs v.r with _ | _
      · rw [hcm] at HC
        have HP := Lib.hid (fun w h1 => tretainedN_any v h H ch hs w h1 nh)
        have HQ : Hid (partsF h hs p = (tretainedF h hs v.r).map p.cut) := Lib.hid (by unfold partsF; rw [HZ.out.r]; rfl)
        have hpl : (tretainedF h hs v.r).length ≤ 783 := partF_len nh
        generalize tretainedF h hs v.r = R at HP HQ hpl
        clear hcm
        go_wp2_with (first | (go_at_call 30; refine (vrect_any v _).mono ?_; rintro e w1 ⟨rfl, hb1⟩; obtain ⟨x1, rfl⟩ := hb1.get; clear hb1) | (go_at_call 22; refine (HC.out _ (hh.ext (by repeat (first | exact Ext.refl' _ | assumption | apply Ext.ex' | apply Ext.al | apply Ext.drN | apply Ext.dr)))).mono ?_; rintro e w1 ⟨rfl, hb1⟩; obtain ⟨x2, rfl⟩ := hb1.get; clear hb1) | (go_at_call 20; refine (HP.out _ (hh.ext (by repeat (first | exact Ext.refl' _ | assumption | apply Ext.ex' | apply Ext.al | apply Ext.drN | apply Ext.dr)))).mono ?_; rintro e w1 ⟨A5, c5', rfl, hb1, hR5, hN5⟩; obtain ⟨x5, rfl⟩ := hb1.get; clear hb1))
        go_loopw [7, 36] (fun s7 s36 wr => ∃ (j : Nat) (Z1 : List VP) (x1 : Add), j ≤ R.length ∧ Z1.length ≤ Z.length + j ∧ s36 = .int .i64 j ∧ Hid (psOf Z ++ partsF h hs p = psOf Z1 ++ (R.drop j).map p.cut) ∧ wr = ext w x1 ∧ Own w x1 49 9 s7 Z1.length (verc (vsOf Z1)) ∧ Hid (Vers (ext w x1) s7.ownBlock Z1) ∧
          w.heap.size + x.n < w.heap.size + x1.n ∧ Hid (∀ j u, (encV v)[j]? = some u → (extR w x1).cell? ⟨w.heap.size + x.n, j, none⟩ = some u) ∧ Hid (some (w.heap.size + x.n) ≠ s7.ownBlock) ∧ Hid (Rd (extR w x1) 4 A5 R.length (rcl R)) ∧ Hid (∀ a, A5 = some a → 0 < R.length → some a.block ≠ s7.ownBlock)) (fun _ s36 _ => R.length - (intOf s36).toNat)
        case atStart =>
          refine rel_same_at hR5 hown (by repeat (first | exact Ext.refl' _ | assumption | apply Ext.ex' | apply Ext.al | apply Ext.drN | apply Ext.dr)) fun x' hx' ho' => ?_
          refine ⟨0, Z, x', by omega, by omega, rfl, Lib.hid (by rw [HQ.out]; rfl), hx', ho', Lib.hid (by rw [← hx']; exact HV.out.ext (by repeat (first | exact Ext.refl' _ | assumption | apply Ext.ex' | apply Ext.al | apply Ext.drN | apply Ext.dr))), ?_, Lib.hid ?_, Lib.hid ?_, Lib.hid (by show Rd (ext w x') _ _ _ _; rw [← hx']; exact hR5), Lib.hid ?_⟩
          · have := congrArg (fun w => w.heap.size) hx'
            simp [size_ext] at this
            omega
          · intro j u hu
            show (ext w x').cell? _ = _
            rw [← hx']
            refine Ext.cell' (w := (ext w x).alloc (.cells (encV v).toArray 49)) (by repeat (first | exact Ext.refl' _ | assumption | apply Ext.ex' | apply Ext.al | apply Ext.drN | apply Ext.dr)) ?_
            rw [World.cell?_alloc_at _ _ _ _ (by simp)]
            simpa using hu
          · intro he
            have := hol _ he.symm
            omega
          · intro a ha hn he
            have h1 := hN5 a ha hn
            have h2 := hol _ he.symm
            simp only [size_ext, World.size_alloc] at h1
            omega
        case round =>
          obtain ⟨j, Z1, x1, hj, hZ1, rfl, HI, rfl, hown, HV1, hbx, HB, HN, HR, HRN⟩ := hrel
          by_cases hjl : j < R.length
          · have hb0 := HB.out 0 _ rfl
            have hb1 := HB.out 1 _ rfl
            have hb2 := HB.out 2 _ rfl
            have hb3 := HB.out 3 _ rfl
            have hb4 := HB.out 4 _ rfl
            have hb5 := HB.out 5 _ rfl
            have hb6 := HB.out 6 _ rfl
            have hb7 := HB.out 7 _ rfl
            have hb8 := HB.out 8 _ rfl
            have hn5 := hN5
            obtain ⟨g5, o5, hA5, hg5, d0, d1, d2, d3⟩ := HR.out.rect hjl
            have hg5' := hn5 _ hA5 (by omega)
            clear hn5 hR5
            simp only [size_ext, World.size_alloc] at hg5'
            subst hA5
            have hlow : ¬ g5 < w.heap.size := by omega
            have HJ : Hid (psOf Z ++ partsF h hs p = psOf Z1 ++ [p.cut R[j]] ++ (R.drop (j + 1)).map p.cut) := Lib.hid (by rw [HI.out, List.drop_eq_getElem_cons hjl, List.map_cons, List.append_assoc]; rfl)
            generalize R[j] = r at d0 d1 d2 d3 HJ
            clear HI
            have hZ3 : Z1.length ≤ 23490783 := by omega
            have hol1 := own_lt hown
            go_wp2_with (first | (go_at_call 31; refine (tcopied_any v r p.row _ HZ.out.rn (HZ.out.row.ext (by repeat (first | exact Ext.refl' _ | assumption | apply Ext.ex' | apply Ext.al | apply Ext.drN | apply Ext.dr))) (by omega)).mono ?_; rintro e w1 ⟨A9, c9, rfl, hb1, hR9, hN9⟩; obtain ⟨x3, rfl⟩ := hb1.get; clear hb1; have HR9 := Lib.hid hR9; have HN9 := Lib.hid hN9; clear hR9 hN9) | (at_builtin; refine wpList_app2 _ rfl (.tmp 40) (.tmp 44) rfl elVer w (by repeat (first | exact Ext.refl' _ | assumption | apply Ext.ex' | apply Ext.al | apply Ext.drN | apply Ext.dr)) _ _ _ rfl (by repeat (first | exact hown | apply World.ownsRow.alloc | apply own_ext)) _ 1 1 [.int .i64 v.id, .int .i64 v.sch, .slice A9 v.rn c9, .int .i64 r.1.1, .int .i64 r.1.2, .int .i64 r.2.1, .int .i64 r.2.2, .int .i64 v.by_, .int .i64 v.un] rfl (Rd.lit _ _ _ 1 9 rfl (by simp [size_ext])) (oneCell_encV ⟨v.id, v.sch, A9, v.rn, c9, r, v.by_, v.un⟩) (by unfold maxLen; omega) (by omega) ?_; intro v' x' hown' hg' hbk'; have HOWN := Lib.hid hown'; have HG := Lib.hid hg'; have HBK := Lib.hid hbk'; clear hown' hg' hbk'))
            go_roundw
            case rel =>
              refine ⟨j + 1, Z1 ++ [(⟨v.id, v.sch, A9, v.rn, c9, r, v.by_, v.un⟩, p.cut r)], x', by omega, by simp; omega, by go_num, by rw [show psOf (Z1 ++ [((⟨v.id, v.sch, A9, v.rn, c9, r, v.by_, v.un⟩ : Ver), p.cut r)]) = psOf Z1 ++ [p.cut r] by simp [psOf]]; exact HJ, rfl, by rw [vsOf_snoc, List.length_append]; exact HOWN.out, Lib.hid ?_, ?_, Lib.hid ?_, Lib.hid ?_, Lib.hid ?_, Lib.hid ?_⟩
              · have hz9 := HZ.out
                refine Vers.app (Vers.snoc (HV1.out.ext (by repeat (first | exact Ext.refl' _ | assumption | apply Ext.ex' | apply Ext.al | apply Ext.drN | apply Ext.dr))) ?z1 ?z2) HG.out HBK.out
                case z1 => exact ⟨hz9.id, hz9.sch, rfl, hz9.by_, hz9.un, hz9.rn, HR9.out.ext (by repeat (first | exact Ext.refl' _ | assumption | apply Ext.ex' | apply Ext.al | apply Ext.drN | apply Ext.dr))⟩
                case z2 =>
                  intro a ha hn he
                  have h1 := HN9.out a ha hn
                  have h2 := hol1 _ he.symm
                  simp only [size_ext, World.size_alloc] at h1
                  omega
              · have := HG.out.size
                simp only [size_ext, World.size_alloc] at this
                omega
              · intro i u hu
                exact HG.out.cell (Ext.cell' (w := ext w x1) (by repeat (first | exact Ext.refl' _ | assumption | apply Ext.ex' | apply Ext.al | apply Ext.drN | apply Ext.dr)) (HB.out i u hu)) HN.out
              · intro he
                rcases HBK.out _ he.symm with h1 | h1
                · exact HN.out h1.symm
                · simp only [size_ext, World.size_alloc] at h1
                  omega
              · exact Rd.grown HG.out (Rd.ext (w := ext w x1) HR.out (by repeat (first | exact Ext.refl' _ | assumption | apply Ext.ex' | apply Ext.al | apply Ext.drN | apply Ext.dr))) HRN.out
              · intro a ha hn he
                rcases HBK.out _ he.symm with h1 | h1
                · exact HRN.out a ha hn h1.symm
                · cases ha
                  simp only [size_ext, World.size_alloc] at h1
                  have := hg5
                  simp only [extR, size_ext] at this
                  omega
            case measure => simp [intOf]; omega
          · have HJ : Hid (psOf Z ++ partsF h hs p = psOf Z1) := Lib.hid (by rw [HI.out, List.drop_eq_nil_of_le (Nat.le_of_not_lt hjl)]; simp)
            clear HI
            go_wp2
            go_roundw
            case rel => exact ⟨k + 1, Z1, x1, by omega, by omega, by go_num, Lib.hid (by rw [HD.out, ← List.append_assoc, HJ.out]), rfl, hown, HV1⟩
            case measure => simp [intOf]; omega
      · rw [hcm] at HC
        have HE : Hid (pruneL h hs (psOf Z0) = psOf Z ++ [p] ++ pruneL h hs (psOf (Z0.drop (k + 1)))) := Lib.hid (by rw [HD.out, partsF_whole (by rw [← HZ.out.r]; exact hcm)]; simp)
        clear hcm HD
        have hZ3 : Z.length ≤ 30000 * 783 := by omega
        go_wp2_with (first | (go_at_call 30; refine (vrect_any v _).mono ?_; rintro e w1 ⟨rfl, hb1⟩; obtain ⟨x1, rfl⟩ := hb1.get; clear hb1) | (go_at_call 22; refine (HC.out _ (hh.ext (by repeat (first | exact Ext.refl' _ | assumption | apply Ext.ex' | apply Ext.al | apply Ext.drN | apply Ext.dr)))).mono ?_; rintro e w1 ⟨rfl, hb1⟩; obtain ⟨x2, rfl⟩ := hb1.get; clear hb1) | (go_at_call 31; refine (tcopied_any v v.r p.row _ HZ.out.rn (HZ.out.row.ext (by repeat (first | exact Ext.refl' _ | assumption | apply Ext.ex' | apply Ext.al | apply Ext.drN | apply Ext.dr))) (by omega)).mono ?_; rintro e w1 ⟨A9, c9, rfl, hb1, hR9, hN9⟩; obtain ⟨x3, rfl⟩ := hb1.get; clear hb1; have HR9 := Lib.hid hR9; have HN9 := Lib.hid hN9; clear hR9 hN9) | (at_builtin; refine wpList_app2 _ rfl (.tmp 25) (.tmp 29) rfl elVer w (by repeat (first | exact Ext.refl' _ | assumption | apply Ext.ex' | apply Ext.al | apply Ext.drN | apply Ext.dr)) _ _ _ rfl (by repeat (first | exact hown | apply World.ownsRow.alloc | apply own_ext)) _ 1 1 [.int .i64 v.id, .int .i64 v.sch, .slice A9 v.rn c9, .int .i64 v.r.1.1, .int .i64 v.r.1.2, .int .i64 v.r.2.1, .int .i64 v.r.2.2, .int .i64 v.by_, .int .i64 v.un] rfl (Rd.lit _ _ _ 1 9 rfl (by simp [size_ext])) (oneCell_encV ⟨v.id, v.sch, A9, v.rn, c9, v.r, v.by_, v.un⟩) (by unfold maxLen; omega) (by omega) ?_; intro v' x' hown' hg' hbk'; have HOWN := Lib.hid hown'; have HG := Lib.hid hg'; have HBK := Lib.hid hbk'; clear hown' hg' hbk'))
        go_roundw
        case rel =>
          refine ⟨k + 1, Z ++ [(⟨v.id, v.sch, A9, v.rn, c9, v.r, v.by_, v.un⟩, p)], x', by omega, by simp; omega, by go_num, by rw [show psOf (Z ++ [((⟨v.id, v.sch, A9, v.rn, c9, v.r, v.by_, v.un⟩ : Ver), p)]) = psOf Z ++ [p] by simp [psOf]]; exact HE, rfl, by rw [vsOf_snoc, List.length_append]; exact HOWN.out, Lib.hid ?_⟩
          have hz9 := HZ.out
          refine Vers.app (Vers.snoc (HV.out.ext (by repeat (first | exact Ext.refl' _ | assumption | apply Ext.ex' | apply Ext.al | apply Ext.drN | apply Ext.dr))) ?z1 ?z2) HG.out HBK.out
          case z1 => exact ⟨hz9.id, hz9.sch, hz9.r, hz9.by_, hz9.un, hz9.rn, HR9.out.ext (by repeat (first | exact Ext.refl' _ | assumption | apply Ext.ex' | apply Ext.al | apply Ext.drN | apply Ext.dr))⟩
          case z2 =>
            intro a ha hn he
            have h1 := HN9.out a ha hn
            have h2 := hol _ he.symm
            simp only [size_ext, World.size_alloc] at h1
            omega
        case measure => simp [intOf]; omega
    · have H0 : Hid (pruneL h hs (psOf Z0) = psOf Z) := Lib.hid (by rw [HF.out, List.drop_eq_nil_of_le (Nat.le_of_not_lt hlt)]; simp [pruneL])
      obtain ⟨A7, c7, rfl, _, _⟩ := Own.form hown
      have HS := Lib.hid (sortV w x A7 c7 Z HV.out hown (by omega))
      clear hown HV
      go_wp2_with fail
      refine Calls.mono HS.out ?_
      rintro e w1 ⟨rfl, x8, rfl, hv8, ho8⟩
      have HV8 := Lib.hid hv8
      have HO8 := Lib.hid ho8
      clear hv8 ho8 HS
      go_wp2
      go_ret
      have hsl := sortZ_length Z
      refine ⟨A7, c7, sortZ Z, by rw [hsl]; rfl, Ext.ex _ _, by rw [hsl]; exact Rd.of_own HO8.out, fun z hz => (HV8.out z hz).1, ?_⟩
      rw [sortZ_ps, ← H0.out]
      rfl

end Go.Proofs.YtimhehnmmjgeaaaGreatDoor
