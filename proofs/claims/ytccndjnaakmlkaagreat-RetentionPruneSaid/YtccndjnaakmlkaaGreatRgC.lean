/- The contract of the reference combination of regions. -/
import Derived.Test.YtccndjnaakmlkaaGreatRgB
set_option linter.unusedSimpArgs false
set_option linter.unusedVariables false
namespace Go.Proofs.YtccndjnaakmlkaaGreat
open Go.RowKit


theorem cmbF_length (f : Int → Bool) : ∀ (r out : List (Int × Int)), (cmbF f out r).length ≤ out.length + r.length
  | [], out => by simp [cmbF]
  | p :: r, out => by
    rw [cmbF]
    have h := cmbF_length f r (if f p.1 then joinF out p else out)
    have hj := joinF_length out p
    split at h <;> rename_i hf <;> simp [hf] <;> omega
theorem combF_length (k : Bool → Bool → Bool) (a b : List (Int × Int)) : (combF k a b).length ≤ 2 * (a.length + b.length + 1) := by
  have h := cmbF_length (fun t => k (inL a t) (inL b t)) (pairsF (ptsF ((0, 1099511627776) :: (a ++ b)))) []
  have h1 := pairsF_length (ptsF ((0, 1099511627776) :: (a ++ b)))
  have h2 := ptsF_length ((0, 1099511627776) :: (a ++ b))
  unfold combF
  simp only [List.length_cons, List.length_append, List.length_nil] at *
  omega
theorem sK_length (k : Bool → Bool → Bool) (a b : List Rct) (t : Int) : (sK k a b t).length ≤ 2 * (a.length + b.length + 1) := by
  have h := combF_length k (sliR a t) (sliR b t)
  have h1 := sliR_length a t
  have h2 := sliR_length b t
  unfold sK
  omega
def tag (x y : Int) (v : Int × Int) : Rct := (v, (x, y))
theorem emit_one (s : List (Int × Int)) (x y : Int) : (oneG s x y).flatMap emitF = s.map (tag x y) := by
  unfold oneG
  split
  · rename_i h; subst h; rfl
  · simp only [List.flatMap_cons, List.flatMap_nil, List.append_nil]; rfl
theorem regG_at (S : Int → List (Int × Int)) {ps : List Int} {i : Nat} (h : i + 1 < ps.length) : regG S (ps.drop i) = grpG S ps[i] (S ps[i]) (ps.drop (i + 1)) := by
  rw [List.drop_eq_getElem_cons (show i < ps.length by omega), List.drop_eq_getElem_cons h]; rfl
theorem grpG_go (S : Int → List (Int × Int)) {ps : List Int} {k : Nat} {x : Int} {s : List (Int × Int)} (h : k + 1 < ps.length) (he : S ps[k] = s) : grpG S x s (ps.drop k) = grpG S x s (ps.drop (k + 1)) := by
  rw [List.drop_eq_getElem_cons (show k < ps.length by omega), List.drop_eq_getElem_cons h, grpG, if_pos he]
theorem grpG_stop (S : Int → List (Int × Int)) {ps : List Int} {k : Nat} {x : Int} {s : List (Int × Int)} (h : k < ps.length) (he : ¬ k + 1 < ps.length ∨ S ps[k] ≠ s) : grpG S x s (ps.drop k) = oneG s x ps[k] ++ regG S (ps.drop k) := by
  by_cases h1 : k + 1 < ps.length
  · rw [List.drop_eq_getElem_cons h, List.drop_eq_getElem_cons h1, grpG, if_neg (he.resolve_left (by omega))]; rfl
  · rw [List.drop_eq_getElem_cons h, List.drop_eq_nil_of_le (by omega)]; simp [grpG, regG]
theorem regG_end (S : Int → List (Int × Int)) {ps : List Int} {i : Nat} (h : ¬ i + 1 < ps.length) : regG S (ps.drop i) = [] := by
  rcases Nat.lt_or_ge i ps.length with h1 | h1
  · rw [List.drop_eq_getElem_cons h1, List.drop_eq_nil_of_le (by omega)]; rfl
  · rw [List.drop_eq_nil_of_le h1]; rfl
/-- rows of two types lie apart -/
theorem own_apart {w : World} {b b' e e' s s' n n' : Nat} {v v' : Value} {xs xs' : List Value} (h : w.ownsRow b e s v n xs) (h' : w.ownsRow b' e' s' v' n' xs') (hne : e ≠ e') : v.ownBlock = none ∨ v.ownBlock ≠ v'.ownBlock := by
  rcases h.2 with ⟨rfl, _⟩ | ⟨g, cap, cur, rfl, _, hg, _⟩
  · exact .inl rfl
  · right
    rcases h'.2 with ⟨rfl, _⟩ | ⟨g', cap', cur', rfl, _, hg', _⟩
    · simp [Value.ownBlock]
    · intro he
      simp only [Value.ownBlock, Option.some.injEq] at he
      subst he
      rw [hg] at hg'
      simp at hg'
      exact hne hg'.2
theorem Own.pairAt {W : World} {x : Add} {e c : Nat} {A : Option Addr} {l : List (Int × Int)} (h : Own W x e 2 (.slice A l.length c) l.length (pc l)) {k : Nat} (hk : k < l.length) :
    ∃ g, A = some ⟨g, 0, none⟩ ∧ W.heap.size ≤ g ∧ g < W.heap.size + x.n ∧ (extR W x).cell? ⟨g, k * 2, none⟩ = some (.int .i64 l[k].1) ∧ (extR W x).cell? ⟨g, k * 2 + 1, none⟩ = some (.int .i64 l[k].2) := by
  obtain ⟨g, hA, h1, h2, hc, _⟩ := Own.at h (by omega)
  obtain ⟨p1, p2⟩ := pc_get l k hk
  exact ⟨g, hA, h1, h2, hc _ _ p1, hc _ _ p2⟩
theorem Own.shift {w W : World} {x : Add} {e size n : Nat} {v : Value} {xs : List Value} (h : w.ownsRow W.heap.size e size v n xs) {y : Add} (hx : ext w y = ext W x) : Own W x e size v n xs := by
  unfold Own; rw [← hx]; exact own_ext h y


set_option maxRecDepth 100000 in
set_option maxHeartbeats 8000000 in
theorem combinedR_any (kind : Int) (S : Int → List (Int × Int)) (A B : Option Addr) (ca cb : Nat) (a b : List Rct) (R : List Rct) (hR : R = (regG S (ptsF (sysR (a ++ b)))).flatMap emitF) (hM : ∀ t, (S t).length ≤ 200002) (ha : a.length ≤ 50000) (hb : b.length ≤ 50000)
    (hsl : ∀ (t : Int) (w : World), Rd w 4 A a.length (rcl a) → Rd w 4 B b.length (rcl b) → Calls Tryz.prog 61 #[.int .i64 kind, .slice A a.length ca, .slice B b.length cb, .int .i64 t] w (OwR 25 2 (S t).length (pc (S t)) w))
    (w : World) (hA : Rd w 4 A a.length (rcl a)) (hB : Rd w 4 B b.length (rcl b)) :
    Calls Tryz.prog 49 #[.int .i64 kind, .slice A a.length ca, .slice B b.length cb] w (RdN 4 R.length (rcl R) w) := by
  have hpl := ptsF_length (sysR (a ++ b))
  have hpl2 := sysR_length (a ++ b)
  simp only [List.length_append] at hpl2
  have HP := Lib.hid (fun A c w h => times_any A c (a ++ b) w h (by simp; omega))
  have HS : Hid (R = [] ++ (regG S ((ptsF (sysR (a ++ b))).drop 0)).flatMap emitF) := Lib.hid (by rw [hR]; rfl)
  have HM := Lib.hid hM
  have HSL := Lib.hid hsl
  clear hM hsl hR
  generalize ptsF (sysR (a ++ b)) = ps at hpl HP HS
  go_enter Tryz.func49, Tryz.ntmps49
  go_wp2_with (at_builtin; first | (refine wpList_app _ rfl (.tmp 14) (.tmp 15) rfl elRect w (by repeat (first | exact Ext.refl' _ | assumption | apply Ext.ex' | apply Ext.al | apply Ext.drN | apply Ext.dr)) _ _ _ rfl (World.ownsRow_nil _ _ _ _) _ a.length ca (rcl a) rfl (hA.ext (by repeat (first | exact Ext.refl' _ | assumption | apply Ext.ex' | apply Ext.al | apply Ext.drN | apply Ext.dr))) (oneCell_rcl a) (by unfold maxLen; omega) (by omega) ?_; intro v2 x2 ho2 _) | (refine wpList_app _ rfl (.tmp 17) (.tmp 18) rfl elRect w (by repeat (first | exact Ext.refl' _ | assumption | apply Ext.ex' | apply Ext.al | apply Ext.drN | apply Ext.dr)) _ _ _ rfl (by exact ho2) _ b.length cb (rcl b) rfl (hB.ext (by repeat (first | exact Ext.refl' _ | assumption | apply Ext.ex' | apply Ext.al | apply Ext.drN | apply Ext.dr))) (oneCell_rcl b) (by unfold maxLen; omega) (by omega) ?_; intro v3 x3 ho3 _))
  obtain ⟨A3, c3, rfl, hl3, hm3⟩ := Own.form ho3
  have hR3 := Rd.of_own ho3
  rw [show 0 + a.length + b.length = (a ++ b).length from by simp, show [] ++ rcl a ++ rcl b = rcl (a ++ b) from by rw [rcl_append]; simp] at hR3
  rw [show 0 + a.length + b.length = (a ++ b).length from by simp]
  clear ho2 ho3 hl3 hm3
  refine (HP.out _ _ _ hR3).mono ?_
  rintro e W1 ⟨A1, c1, rfl, hb1, hP⟩
  have hw : Ext w W1 := (Ext.ex w x3).tr hb1
  clear HP hb1 hR3
  have hA := hA.ext hw
  have hB := hB.ext hw
  go_wp2
  go_loopw [9, 10] (fun out vi wr => ∃ (i : Nat) (acc : List Rct) (x : Add), i ≤ ps.length ∧ acc.length ≤ 200002 * i ∧ vi = .int .i64 i ∧ Hid (R = acc ++ (regG S (ps.drop i)).flatMap emitF) ∧ wr = ext W1 x ∧ Own W1 x 27 4 out acc.length (rcl acc)) (fun _ vi _ => ps.length - (intOf vi).toNat)
  case atStart =>
    obtain ⟨x, hx⟩ := (Ext.refl' W1).get
    exact ⟨0, [], x, by omega, by simp, rfl, HS, hx, own_nil _ _ _ _⟩
  case round =>
    obtain ⟨i, acc, x, hi, hal, rfl, HC, rfl, hown⟩ := hrel
    by_cases hlt : i + 1 < ps.length
    · obtain ⟨b, o, rfl, hb1, hcy⟩ := hP.int (show i < ps.length by omega)
      have HG := Lib.hid (regG_at S hlt)
      generalize ps[i] = y at hcy HG
      have hsM := HM.out y
      go_wp2_with fail
      refine Calls.mono (HSL.out y _ (hA.ext (by repeat (first | exact Ext.refl' _ | assumption | apply Ext.ex' | apply Ext.al | apply Ext.drN | apply Ext.dr))) (hB.ext (by repeat (first | exact Ext.refl' _ | assumption | apply Ext.ex' | apply Ext.al | apply Ext.drN | apply Ext.dr)))) ?_
      rintro e w2 ⟨vs, rfl, hb2, hs2⟩
      obtain ⟨x2, rfl⟩ := hb2.get
      obtain ⟨x4, hx4⟩ := (show Ext W1 (ext (ext W1 x) x2) from by repeat (first | exact Ext.refl' _ | assumption | apply Ext.ex' | apply Ext.al | apply Ext.drN | apply Ext.dr)).get
      have ho4 := Own.shift hown hx4
      have hs4 : Own W1 x4 25 2 vs (S y).length (pc (S y)) := by unfold Own; rw [← hx4]; exact own_mono hs2 (by simp [size_ext])
      obtain ⟨As, cs, rfl, _, _⟩ := Own.form hs4
      rw [hx4]
      clear hx4 hs2 hb2 hown
      generalize S y = s at HG hsM hs4
      go_wp2
      go_loopw [12] (fun vk wr => ∃ (k : Nat), i + 1 ≤ k ∧ k < ps.length ∧ vk = .int .i64 k ∧ Hid (regG S (ps.drop i) = grpG S y s (ps.drop k)) ∧ Ext (ext W1 x4) wr) (fun vk _ => ps.length - (intOf vk).toNat)
      case atStart => exact ⟨i + 1, by omega, by omega, by go_num, HG, Ext.refl' _⟩
      case round =>
        obtain ⟨k, hk1, hkl, rfl, HK, hext⟩ := hrel
        obtain ⟨x6, rfl⟩ := hext.get
        clear hext
        obtain ⟨b', o', he, hb', hcz⟩ := hP.int hkl
        simp only [Option.some.injEq, Addr.mk.injEq, and_true] at he
        obtain ⟨rfl, rfl⟩ := he
        by_cases hk2 : k + 1 < ps.length
        · have hzM := HM.out ps[k]
          by_cases hz : S ps[k] = s
          · have HK' : Hid (regG S (ps.drop i) = grpG S y s (ps.drop (k + 1))) := Lib.hid (by rw [HK.out, grpG_go S hk2 hz])
            have HZ := Lib.hid hz
            generalize ps[k] = z at hcz hzM HZ
            clear hz HK
            go_wp2_with fail
            refine Calls.mono (HSL.out z _ (hA.ext (by repeat (first | exact Ext.refl' _ | assumption | apply Ext.ex' | apply Ext.al | apply Ext.drN | apply Ext.dr))) (hB.ext (by repeat (first | exact Ext.refl' _ | assumption | apply Ext.ex' | apply Ext.al | apply Ext.drN | apply Ext.dr)))) ?_
            rintro e w2 ⟨vz, rfl, hb2, hz2⟩
            obtain ⟨x7, rfl⟩ := hb2.get
            obtain ⟨Az, cz, rfl, _, _⟩ := Own.form (W := ext (ext W1 x4) x6) hz2
            have hRz := Rd.of_own hz2
            have hRs := (Rd.of_own hs4).ext (show Ext (ext W1 x4) (ext (ext (ext W1 x4) x6) x7) from by repeat (first | exact Ext.refl' _ | assumption | apply Ext.ex' | apply Ext.al | apply Ext.drN | apply Ext.dr))
            generalize S z = sz at HZ hRz hzM
            obtain rfl := HZ.out
            go_wp2_with fail
            refine Calls.mono (same_any Az As cz cs sz sz _ hRz hRs (by omega) (by omega)) ?_
            rintro e w2 ⟨rfl, hb3⟩
            obtain ⟨x8, rfl⟩ := hb3.get
            have hdd : decide (sz = sz) = true := by simp
            clear hb2 hb3 hz2
            go_wp2
            go_roundw
            case rel => exact ⟨k + 1, by omega, by omega, by go_num, HK', by repeat (first | exact Ext.refl' _ | assumption | apply Ext.ex' | apply Ext.al | apply Ext.drN | apply Ext.dr)⟩
            case measure => simp [intOf]; omega
          · have HT : Hid (R = acc ++ (s.drop 0).map (tag y ps[k]) ++ (regG S (ps.drop k)).flatMap emitF) := Lib.hid (by rw [HC.out, HK.out, grpG_stop S hkl (.inr hz), List.flatMap_append, emit_one]; simp)
            have HZ := Lib.hid hz
            generalize ps[k] = z at hcz hzM HZ HT
            clear hz HK HC
            go_wp2_with fail
            refine Calls.mono (HSL.out z _ (hA.ext (by repeat (first | exact Ext.refl' _ | assumption | apply Ext.ex' | apply Ext.al | apply Ext.drN | apply Ext.dr))) (hB.ext (by repeat (first | exact Ext.refl' _ | assumption | apply Ext.ex' | apply Ext.al | apply Ext.drN | apply Ext.dr)))) ?_
            rintro e w2 ⟨vz, rfl, hb2, hz2⟩
            obtain ⟨x7, rfl⟩ := hb2.get
            obtain ⟨Az, cz, rfl, _, _⟩ := Own.form (W := ext (ext W1 x4) x6) hz2
            have hRz := Rd.of_own hz2
            have hRs := (Rd.of_own hs4).ext (show Ext (ext W1 x4) (ext (ext (ext W1 x4) x6) x7) from by repeat (first | exact Ext.refl' _ | assumption | apply Ext.ex' | apply Ext.al | apply Ext.drN | apply Ext.dr))
            generalize S z = sz at HZ hRz hzM
            go_wp2_with fail
            refine Calls.mono (same_any Az As cz cs sz s _ hRz hRs (by omega) (by omega)) ?_
            rintro e w2 ⟨rfl, hb3⟩
            obtain ⟨x8, rfl⟩ := hb3.get
            have hdd : decide (sz = s) = false := by simp [HZ.out]
            obtain ⟨x5, hx5⟩ := (show Ext W1 (ext (ext (ext (ext W1 x4) x6) x7) x8) from by repeat (first | exact Ext.refl' _ | assumption | apply Ext.ex' | apply Ext.al | apply Ext.drN | apply Ext.dr)).get
            have ho5 := Own.of_eq (own_ext (own_ext (own_ext ho4 x6) x7) x8) hx5
            have hs5 := Own.of_eq (own_ext (own_ext (own_ext hs4 x6) x7) x8) hx5
            rw [hx5]
            clear hb2 hb3 hz2 hx5 hRz hRs
            go_wp2
            go_loopw [9, 13] (fun out vn wr => ∃ (n : Nat) (acc2 : List Rct) (x : Add), n ≤ s.length ∧ acc2.length ≤ acc.length + n ∧ vn = .int .i64 n ∧ Hid (R = acc2 ++ (s.drop n).map (tag y z) ++ (regG S (ps.drop k)).flatMap emitF) ∧ wr = ext W1 x ∧ Own W1 x 27 4 out acc2.length (rcl acc2) ∧ Own W1 x 25 2 (.slice As s.length cs) s.length (pc s)) (fun _ vn _ => s.length - (intOf vn).toNat)
            case atStart => exact ⟨0, acc, _, by omega, by omega, rfl, HT, rfl, ho5, hs5⟩
            case round =>
              obtain ⟨n, acc2, x, hn, hal2, rfl, HC2, rfl, hown, hsr⟩ := hrel
              by_cases hns : n < s.length
              · obtain ⟨gs, rfl, hg1, hg2, hq1, hq2⟩ := hsr.pairAt hns
                have HE : Hid (R = acc2 ++ [tag y z s[n]] ++ (s.drop (n + 1)).map (tag y z) ++ (regG S (ps.drop k)).flatMap emitF) := Lib.hid (by rw [HC2.out, List.drop_eq_getElem_cons hns, List.map_cons]; simp only [List.append_assoc, List.cons_append, List.nil_append])
                have HP := Lib.hid (fun (x' : Add) (h : Own W1 x' 25 2 (.slice (some ⟨gs, 0, none⟩) s.length cs) s.length (pc s)) => (by obtain ⟨g', hg', _, h2, h3, h4⟩ := h.pairAt hns; simp only [Option.some.injEq, Addr.mk.injEq, and_true] at hg'; subst hg'; exact ⟨h2, h3, h4⟩ : gs < W1.heap.size + x'.n ∧ (extR W1 x').cell? ⟨gs, n * 2, none⟩ = some (.int .i64 s[n].1) ∧ (extR W1 x').cell? ⟨gs, n * 2 + 1, none⟩ = some (.int .i64 s[n].2)))
                generalize s[n] = v at hq1 hq2 HE HP
                clear HC2
                obtain ⟨Ao, co, rfl, _, _⟩ := Own.form hown
                go_wp2
                have i1 : (0 : Int) ≤ (n : Int) := by omega
                have i2 : (n : Int) < (s.length : Int) := by omega
                have i3 : (0 : Int) ≤ (i : Int) := by omega
                have i4 : (i : Int) < (ps.length : Int) := by omega
                have i5 : (0 : Int) ≤ (k : Int) := by omega
                have i6 : (k : Int) < (ps.length : Int) := by omega
                go_region_held3 (fun w' => w'.cell? ⟨gs, n * 2, none⟩ = some (.int .i64 v.1) ∧ w'.cell? ⟨gs, n * 2 + 1, none⟩ = some (.int .i64 v.2) ∧ w'.cell? ⟨b, o + i, none⟩ = some (.int .i64 y) ∧ w'.cell? ⟨b, o + k, none⟩ = some (.int .i64 z)) (simp [go_sem, ↓IntWalk.iteOmega, *]) ((refine step_app _ (by rfl) (.tmp 62) (.tmp 77) (by rfl) elRect W1 (by repeat (first | exact Ext.refl' _ | assumption | apply Ext.ex' | apply Ext.al | apply Ext.drN | apply Ext.dr)) (.slice Ao acc2.length co) acc2.length (rcl acc2) (by rfl) (World.ownsRow.alloc (by exact hown) _) _ 1 1 [.int .i64 v.1, .int .i64 v.2, .int .i64 y, .int .i64 z] (by rfl) (Rd.lit _ _ _ 1 4 rfl (by simp [size_ext])) (oneCell_rcl [tag y z v]) (by unfold maxLen; omega) (by omega) ?_; intro v' x' hown' hgr; have hsr' : Own W1 x' 25 2 (.slice (some ⟨gs, 0, none⟩) s.length cs) s.length (pc s) := World.ownsRow.kept (by exact World.ownsRow.alloc (by exact hsr) _) hgr (by exact own_apart hsr hown (by decide)); obtain ⟨hg2', hq1', hq2'⟩ := HP.out x' hsr'; clear hgr))
                clear i1 i2 i3 i4 i5 i6
                go_wp2
                go_roundw
                case rel => exact ⟨n + 1, acc2 ++ [tag y z v], x', by omega, by simp; omega, by go_num, HE, rfl, by simpa [rcl, tag] using hown', hsr'⟩
                case measure => simp [intOf]; omega
              · have H1 : Hid (R = acc2 ++ (regG S (ps.drop k)).flatMap emitF) := Lib.hid (by rw [HC2.out, List.drop_eq_nil_of_le (Nat.le_of_not_lt hns)]; simp)
                go_wp2
                go_roundw
                case rel => exact ⟨k, acc2, x, by omega, by omega, rfl, H1, rfl, hown⟩
                case measure => simp [intOf]; omega
        · have HT : Hid (R = acc ++ (s.drop 0).map (tag y ps[k]) ++ (regG S (ps.drop k)).flatMap emitF) := Lib.hid (by rw [HC.out, HK.out, grpG_stop S hkl (.inl hk2), List.flatMap_append, emit_one]; simp)
          generalize ps[k] = z at hcz HT
          clear HK HC
          obtain ⟨x5, hx5⟩ := (show Ext W1 (ext (ext W1 x4) x6) from by repeat (first | exact Ext.refl' _ | assumption | apply Ext.ex' | apply Ext.al | apply Ext.drN | apply Ext.dr)).get
          have ho5 := Own.shift ho4 hx5
          have hs5 := Own.shift hs4 hx5
          rw [hx5]
          clear hx5
          go_wp2
          go_loopw [9, 13] (fun out vn wr => ∃ (n : Nat) (acc2 : List Rct) (x : Add), n ≤ s.length ∧ acc2.length ≤ acc.length + n ∧ vn = .int .i64 n ∧ Hid (R = acc2 ++ (s.drop n).map (tag y z) ++ (regG S (ps.drop k)).flatMap emitF) ∧ wr = ext W1 x ∧ Own W1 x 27 4 out acc2.length (rcl acc2) ∧ Own W1 x 25 2 (.slice As s.length cs) s.length (pc s)) (fun _ vn _ => s.length - (intOf vn).toNat)
          case atStart => exact ⟨0, acc, _, by omega, by omega, rfl, HT, rfl, ho5, hs5⟩
          case round =>
            obtain ⟨n, acc2, x, hn, hal2, rfl, HC2, rfl, hown, hsr⟩ := hrel
            by_cases hns : n < s.length
            · obtain ⟨gs, rfl, hg1, hg2, hq1, hq2⟩ := hsr.pairAt hns
              have HE : Hid (R = acc2 ++ [tag y z s[n]] ++ (s.drop (n + 1)).map (tag y z) ++ (regG S (ps.drop k)).flatMap emitF) := Lib.hid (by rw [HC2.out, List.drop_eq_getElem_cons hns, List.map_cons]; simp only [List.append_assoc, List.cons_append, List.nil_append])
              have HP := Lib.hid (fun (x' : Add) (h : Own W1 x' 25 2 (.slice (some ⟨gs, 0, none⟩) s.length cs) s.length (pc s)) => (by obtain ⟨g', hg', _, h2, h3, h4⟩ := h.pairAt hns; simp only [Option.some.injEq, Addr.mk.injEq, and_true] at hg'; subst hg'; exact ⟨h2, h3, h4⟩ : gs < W1.heap.size + x'.n ∧ (extR W1 x').cell? ⟨gs, n * 2, none⟩ = some (.int .i64 s[n].1) ∧ (extR W1 x').cell? ⟨gs, n * 2 + 1, none⟩ = some (.int .i64 s[n].2)))
              generalize s[n] = v at hq1 hq2 HE HP
              clear HC2
              obtain ⟨Ao, co, rfl, _, _⟩ := Own.form hown
              go_wp2
              have i1 : (0 : Int) ≤ (n : Int) := by omega
              have i2 : (n : Int) < (s.length : Int) := by omega
              have i3 : (0 : Int) ≤ (i : Int) := by omega
              have i4 : (i : Int) < (ps.length : Int) := by omega
              have i5 : (0 : Int) ≤ (k : Int) := by omega
              have i6 : (k : Int) < (ps.length : Int) := by omega
              go_region_held3 (fun w' => w'.cell? ⟨gs, n * 2, none⟩ = some (.int .i64 v.1) ∧ w'.cell? ⟨gs, n * 2 + 1, none⟩ = some (.int .i64 v.2) ∧ w'.cell? ⟨b, o + i, none⟩ = some (.int .i64 y) ∧ w'.cell? ⟨b, o + k, none⟩ = some (.int .i64 z)) (simp [go_sem, ↓IntWalk.iteOmega, *]) ((refine step_app _ (by rfl) (.tmp 62) (.tmp 77) (by rfl) elRect W1 (by repeat (first | exact Ext.refl' _ | assumption | apply Ext.ex' | apply Ext.al | apply Ext.drN | apply Ext.dr)) (.slice Ao acc2.length co) acc2.length (rcl acc2) (by rfl) (World.ownsRow.alloc (by exact hown) _) _ 1 1 [.int .i64 v.1, .int .i64 v.2, .int .i64 y, .int .i64 z] (by rfl) (Rd.lit _ _ _ 1 4 rfl (by simp [size_ext])) (oneCell_rcl [tag y z v]) (by unfold maxLen; omega) (by omega) ?_; intro v' x' hown' hgr; have hsr' : Own W1 x' 25 2 (.slice (some ⟨gs, 0, none⟩) s.length cs) s.length (pc s) := World.ownsRow.kept (by exact World.ownsRow.alloc (by exact hsr) _) hgr (by exact own_apart hsr hown (by decide)); obtain ⟨hg2', hq1', hq2'⟩ := HP.out x' hsr'; clear hgr))
              clear i1 i2 i3 i4 i5 i6
              go_wp2
              go_roundw
              case rel => exact ⟨n + 1, acc2 ++ [tag y z v], x', by omega, by simp; omega, by go_num, HE, rfl, by simpa [rcl, tag] using hown', hsr'⟩
              case measure => simp [intOf]; omega
            · have H1 : Hid (R = acc2 ++ (regG S (ps.drop k)).flatMap emitF) := Lib.hid (by rw [HC2.out, List.drop_eq_nil_of_le (Nat.le_of_not_lt hns)]; simp)
              go_wp2
              go_roundw
              case rel => exact ⟨k, acc2, x, by omega, by omega, rfl, H1, rfl, hown⟩
              case measure => simp [intOf]; omega
    · have H0 : Hid (R = acc) := Lib.hid (by rw [HC.out, regG_end S (by omega)]; simp)
      go_wp2
      go_ret
      obtain ⟨A', c', rfl, _, _⟩ := Own.form hown
      exact ⟨A', c', by rw [H0.out]; rfl, hw.tr (Ext.ex _ _), by rw [H0.out]; exact Rd.of_own hown, fun a ha _ => Nat.le_trans hw.size (hown.lt a.block (by rw [ha]; rfl)).1⟩

end Go.Proofs.YtccndjnaakmlkaaGreat
