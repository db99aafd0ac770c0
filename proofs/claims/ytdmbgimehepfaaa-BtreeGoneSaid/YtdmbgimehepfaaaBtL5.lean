/- BtreeGone: a tree whose pairs are deleted in another order is empty again. -/
import Derived.Test.YtdmbgimehepfaaaBtLa
import Derived.Test.YtdmbgimehepfaaaBtL3
set_option linter.unusedSimpArgs false
set_option linter.unusedVariables false
namespace Go.Proofs.Ytdmbgimehepfaaa
open Go.RowKit


theorem mem_putK {ks : List Kp} {x y : Kp} (h : y ∈ putK ks x) : y ∈ ks ∨ y = x := by
  unfold putK at h
  split at h
  · exact .inl h
  · rcases List.mem_append.1 h with h | h
    · exact .inl (List.mem_filter.1 h).1
    · rcases List.mem_cons.1 h with h | h
      · exact .inr h
      · exact .inl (List.mem_filter.1 h).1
theorem mem_delK {ks : List Kp} {x y : Kp} (h : y ∈ delK ks x) : y ∈ ks ∧ y ≠ x := by
  obtain ⟨h1, h2⟩ := List.mem_filter.1 h
  refine ⟨h1, fun he => ?_⟩
  subst he
  have h3 : hasK [y] y = true := hasK_iff.2 (by simp)
  simp [hasK] at h3
  simp [h3] at h2
theorem Mu.boxc {base : Nat} {w w' : World} {c : Array Value} {ty : TypeId} (h : Mu base (w.alloc (.cells c ty)) w') (hn : ¬ TreeT ty) (j : Nat) (v : Value) (hv : c[j]? = some v) : w'.cell? ⟨w.heap.size, j, none⟩ = some v := by
  have h1 := heap_alloc_new w (.cells c ty)
  have h2 := h.block h1 hn
  simp [World.cell?, h2, hv]
theorem opT_no : ¬ TreeT 24 := by unfold TreeT; decide
/-- every key is an operation's -/
def FrmL (l : List OpV) (ks : List Kp) : Prop := ∀ y ∈ ks, ∃ (j : Nat) (o : OpV), l[j]? = some o ∧ y = (o.k.l, o.id)
/-- .. of one that was not yet deleted -/
def LftL (l : List OpV) (n s k : Nat) (ks : List Kp) : Prop := ∀ y ∈ ks, ∃ (j : Nat) (o : OpV), l[j]? = some o ∧ y = (o.k.l, o.id) ∧ ∀ i, i < k → (i + s) % n ≠ j
theorem FrmL.put {l : List OpV} {ks : List Kp} (h : FrmL l ks) {k : Nat} {o : OpV} (ho : l[k]? = some o) : FrmL l (putK ks (o.k.l, o.id)) := fun y hy => by
  rcases mem_putK hy with hy | hy
  · exact h y hy
  · exact ⟨k, o, ho, hy⟩
theorem FrmL.left {l : List OpV} {ks : List Kp} (h : FrmL l ks) (n s : Nat) : LftL l n s 0 ks := fun y hy => by
  obtain ⟨j, o, h1, h2⟩ := h y hy
  exact ⟨j, o, h1, h2, fun i hi => absurd hi (Nat.not_lt_zero i)⟩
theorem LftL.del {l : List OpV} {n s k : Nat} {ks : List Kp} (h : LftL l n s k ks) {o : OpV} (ho : l[(k + s) % n]? = some o) : LftL l n s (k + 1) (delK ks (o.k.l, o.id)) := fun y hy => by
  obtain ⟨hy1, hy2⟩ := mem_delK hy
  obtain ⟨j, o', h1, h2, h3⟩ := h y hy1
  refine ⟨j, o', h1, h2, fun i hi he => ?_⟩
  rcases Nat.lt_succ_iff_lt_or_eq.1 hi with hi | rfl
  · exact h3 i hi he
  · rw [he, h1] at ho
    cases ho
    exact hy2 h2
theorem LftL.none {l : List OpV} {n s : Nat} {ks : List Kp} (hn : l.length = n) (h : LftL l n s n ks) : ks = [] := by
  rcases ks with _ | ⟨y, ks⟩
  · rfl
  · exfalso
    obtain ⟨j, o, h1, _, h3⟩ := h y (by simp)
    have hj : j < n := by rw [← hn]; exact (List.getElem?_eq_some_iff.1 h1).1
    refine h3 ((j + (n - s % n)) % n) (Nat.mod_lt _ (by omega)) ?_
    have h4 := Nat.mod_lt s (show n > 0 by omega)
    rw [Nat.add_mod, Nat.mod_mod, ← Nat.add_mod]
    have h5 := Nat.div_add_mod s n
    have h6 : j + (n - s % n) + s = j + n * (s / n + 1) := by rw [Nat.mul_add]; omega
    rw [h6, Nat.add_mul_mod_self_left]
    exact Nat.mod_eq_of_lt hj
set_option maxRecDepth 100000 in
set_option maxHeartbeats 8000000 in
theorem lawGone_any (a : Int) (A : Option Addr) (c : Nat) (l : List OpV) (s : Int) (W : World) (wa : (Lit.int .u8 a).wf = true) (hR : Rd W 3 A l.length (opl l)) (hl : l.length ≤ maxLen) (ho : ∀ o ∈ l, OpOk W o) (ws : (Lit.int .u8 s).wf = true) : Calls Try.prog 8 #[.int .u8 a, .slice A l.length c, .int .u8 s] W fun e w' => e = .returned (.bool true) ∧ Ext W w' := by
  obtain ⟨_, hs0, hs1, _, _, _⟩ := order_m ws
  obtain ⟨sn, rfl⟩ := Int.eq_ofNat_of_zero_le hs0
  clear ws
  obtain ⟨n, hn⟩ : ∃ n, l.length = n := ⟨_, rfl⟩
  have HN := Lib.hid hn
  rw [hn] at hR hl ⊢
  unfold maxLen at hl
  have HO := Lib.hid ho
  obtain ⟨m, ha0, ha1, hmq, hm, hm2⟩ := order_m wa
  have HMQ := Lib.hid hmq
  have HM := Lib.hid hm
  have HM2 := Lib.hid hm2
  clear hn ho hmq hm hm2 wa
  go_enter Try.func8, Try.ntmps8
  go_wp2_with fail
  refine Calls.mono (new_u W.heap.size m _ _ HMQ.out HM.out HM2.out (by simp)) ?_
  rintro e w1 ⟨tb, rfl, ht0, hb1⟩
  have hE1 : Ext W w1 := hb1
  have HT1 := Lib.hid ht0
  clear ht0 hb1
  go_wp2_with fail
  refine Calls.mono (small_n A n c l _ HN.out (hR.ext hE1) (by unfold maxLen; exact hl) (fun o ho => (HO.out o ho).ext hE1)) ?_
  rintro e w2 ⟨⟨b, rfl, hb⟩, hb1⟩
  obtain ⟨x1, rfl⟩ := hb1.get
  clear hb1
  have HB := Lib.hid hb
  clear hb
  cases b
  · go_wp2_with fail
    refine Calls.mono (works_any _) ?_
    rintro e w1 ⟨rfl, hb1⟩
    obtain ⟨x1, rfl⟩ := hb1.get
    clear hb1
    go_wp2
    go_ret
    exact ⟨rfl, hE1.tr (by repeat (first | exact Ext.refl' _ | assumption | apply Ext.ex' | apply Ext.al | apply Ext.drN | apply Ext.dr))⟩
  obtain ⟨h150, h12⟩ := HB.out rfl
  rw [HN.out] at h150
  have H12 := Lib.hid h12
  have H150 := Lib.hid h150
  clear HB h12 hl
  go_wp2
  go_loopg [10, 39] n (fun g v10 i wr => ∃ (k nq : Nat) (ks : List Kp), i = .int .i64 k ∧ k ≤ n ∧ n - k ≤ g ∧ Hid (ks.length = nq) ∧ Hid (nq ≤ k) ∧ Hid (FrmL l ks) ∧ Hid (TK W.heap.size wr tb m ks) ∧ Ext W wr)
  case atStart => exact ⟨0, 0, [], rfl, by omega, by omega, Lib.hid rfl, Lib.hid (by omega), Lib.hid (fun y hy => by cases hy), Lib.hid (HT1.out.ext (by repeat (first | exact Ext.refl' _ | assumption | apply Ext.ex' | apply Ext.al | apply Ext.drN | apply Ext.dr))), hE1.tr (by repeat (first | exact Ext.refl' _ | assumption | apply Ext.ex' | apply Ext.al | apply Ext.drN | apply Ext.dr))⟩
  case round =>
    obtain ⟨k, nq, ks, rfl, hk, hg, HQ, HQ2, HFL, HT, hE⟩ := hrel
    have HG := Lib.hid hg
    clear hg
    by_cases hlt : k < n
    · have hkz : (k : Int) < (n : Int) := by omega
      obtain ⟨o, pb, po, hq, rfl, hpb, q0, q1, q2⟩ := op_at (hR.ext hE) HN.out hlt
      have HOo : Hid (OpOk wr o) := Lib.hid ((HO.out o (List.mem_of_getElem? hq)).ext hE)
      have H12o : Hid (o.k.l.length ≤ 12) := Lib.hid (H12.out o (List.mem_of_getElem? hq))
      have HDp : Hid (∀ w, Ext wr w → Calls Try.prog 10 #[pt tb, .slice o.k.A o.k.l.length o.k.c, .int .i64 o.id] w (TQo W.heap.size w tb m (putK ks (o.k.l, o.id)))) := Lib.hid fun w e =>
        put_o W.heap.size m tb ks o w HM.out HM2.out (hE.tr e).size (HT.out.ext e) (HOo.out.ext e) H12o.out (by have := HQ.out; have := HQ2.out; have := H150.out; omega)
      have HFL2 := Lib.hid (HFL.out.put hq)
      clear hq
      go_wp2_with fail
      refine Calls.mono (HDp.out _ (by repeat (first | exact Ext.refl' _ | assumption | apply Ext.ex' | apply Ext.al | apply Ext.drN | apply Ext.dr))) ?_
      rintro e w2 ⟨b2, rfl, HT3, hm3⟩
      have HE3 : Hid (Ext W w2) := Lib.hid (hm3.lo (hE.tr (by repeat (first | exact Ext.refl' _ | assumption | apply Ext.ex' | apply Ext.al | apply Ext.drN | apply Ext.dr))) (Nat.le_refl _))
      clear hm3 HDp
      go_wp2
      go_roundg (gk - 1)
      case rel => exact ⟨k + 1, _, putK ks (o.k.l, o.id), by go_num, by omega, by have := HG.out; omega, Lib.hid rfl, Lib.hid (by have := putK_len ks (o.k.l, o.id); have := HQ.out; have := HQ2.out; omega), HFL2, Lib.hid (HT3.out.ext (by repeat (first | exact Ext.refl' _ | assumption | apply Ext.ex' | apply Ext.al | apply Ext.drN | apply Ext.dr))), HE3.out.tr (by repeat (first | exact Ext.refl' _ | assumption | apply Ext.ex' | apply Ext.al | apply Ext.drN | apply Ext.dr))⟩
      case measure => have := HG.out; omega
    · have hkz : ¬ ((k : Int) < (n : Int)) := by omega
      have HLL0 : Hid (LftL l n sn 0 ks) := Lib.hid (HFL.out.left n sn)
      have HQ0 : Hid (ks.length ≤ 150) := Lib.hid (by have := HQ.out; have := HQ2.out; have := H150.out; omega)
      clear HQ HQ2 HFL
      go_wp2
      go_loopg [11, 12, 52] n (fun g v11 v12 i wr2 => ∃ (k : Nat) (ks : List Kp), i = .int .i64 k ∧ k ≤ n ∧ n - k ≤ g ∧ Hid (ks.length ≤ 150) ∧ Hid (LftL l n sn k ks) ∧ Hid (TK W.heap.size wr2 tb m ks) ∧ Ext W wr2)
      case atStart => exact ⟨0, ks, rfl, by omega, by omega, HQ0, HLL0, Lib.hid (HT.out.ext (by repeat (first | exact Ext.refl' _ | assumption | apply Ext.ex' | apply Ext.al | apply Ext.drN | apply Ext.dr))), hE.tr (by repeat (first | exact Ext.refl' _ | assumption | apply Ext.ex' | apply Ext.al | apply Ext.drN | apply Ext.dr))⟩
      case round =>
        clear HT HLL0 HQ0 HG hE hk hkz hlt
        rename World => wr
        obtain ⟨k, ks, rfl, hk, hg, HQ, HLL, HT, hE⟩ := hrel
        have HG := Lib.hid hg
        clear hg
        by_cases hlt : k < n
        · have hkz : (k : Int) < (n : Int) := by omega
          obtain ⟨j, hjn⟩ : ∃ j, (k + sn) % n = j := ⟨_, rfl⟩
          have hj : j < n := by rw [← hjn]; exact Nat.mod_lt _ (by omega)
          have hjz : ((k : Int) + (sn : Int)) % (n : Int) = (j : Int) := by rw [← hjn]; exact (Int.natCast_emod (k + sn) n).symm
          obtain ⟨o, pb, po, hq, rfl, hpb, q0, q1, q2⟩ := op_at (hR.ext hE) HN.out hj
          have HOo : Hid (OpOk _ o) := Lib.hid ((HO.out o (List.mem_of_getElem? hq)).ext hE)
          have H12o : Hid (o.k.l.length ≤ 12) := Lib.hid (H12.out o (List.mem_of_getElem? hq))
          have HOp : Hid (∀ w, Ext W w → OpOk w o) := Lib.hid fun w e => (HO.out o (List.mem_of_getElem? hq)).ext e
          have HLL2 : Hid (LftL l n sn (k + 1) (delK ks (o.k.l, o.id))) := Lib.hid (HLL.out.del (by rw [hjn]; exact hq))
          have HDd := Lib.hid fun w (e : Ext _ w) => del_o W.heap.size m tb ks o w HM.out HM2.out (hE.tr e).size (HT.out.ext e) (HOo.out.ext e) H12o.out
          clear hq hjn
          go_wp2_with fail
          refine Calls.mono (HDd.out _ (by repeat (first | exact Ext.refl' _ | assumption | apply Ext.ex' | apply Ext.al | apply Ext.drN | apply Ext.dr))) ?_
          rintro e w2 ⟨b2, rfl, HT3, hm3⟩
          have HE3 : Hid (Ext W w2) := Lib.hid (hm3.lo (hE.tr (by repeat (first | exact Ext.refl' _ | assumption | apply Ext.ex' | apply Ext.al | apply Ext.drN | apply Ext.dr))) (Nat.le_refl _))
          obtain ⟨n2, hn2⟩ : ∃ n2, (delK ks (o.k.l, o.id)).length = n2 := ⟨_, rfl⟩
          have HQ3 := Lib.hid hn2
          have HN2 : Hid (n2 ≤ 150) := Lib.hid (by have := delK_len ks (o.k.l, o.id); have := HQ.out; omega)
          have hbx := hm3.boxc opT_no 1 _ rfl
          have hbz : wr.heap.size < w2.heap.size := Nat.lt_of_lt_of_le (by simp) hm3.size
          clear hm3 HDd hn2
          go_wp2_with fail
          refine Calls.mono (chk_k W.heap.size m tb (delK ks (o.k.l, o.id)) _ HM.out HM2.out ?hT) ?_
          case hT => exact HT3.out.ext (by repeat (first | exact Ext.refl' _ | assumption | apply Ext.ex' | apply Ext.al | apply Ext.drN | apply Ext.dr))
          rintro e w1 ⟨rfl, hb1⟩
          obtain ⟨x1, rfl⟩ := hb1.get
          clear hb1
          go_wp2_with fail
          refine Calls.mono (get_k W.heap.size m tb (delK ks (o.k.l, o.id)) o.k.A o.k.c o.k.l _ HM.out HM2.out ?hT ?hR (by have := H12o.out; omega)) ?_
          case hT => exact HT3.out.ext (by repeat (first | exact Ext.refl' _ | assumption | apply Ext.ex' | apply Ext.al | apply Ext.drN | apply Ext.dr))
          case hR => exact (HOp.out _ (HE3.out.tr (by repeat (first | exact Ext.refl' _ | assumption | apply Ext.ex' | apply Ext.al | apply Ext.drN | apply Ext.dr)))).k.rd
          intro e w1 hp
          obtain ⟨n4, A4, c4, rfl, HQ4, HR4, hb1⟩ := hp.n
          obtain ⟨x1, rfl⟩ := hb1.get
          clear hb1 hp HR4
          have hn4 : n4 ≤ n2 := by have := getK_len (delK ks (o.k.l, o.id)) o.k.l; have := HQ4.out; have := HQ3.out; omega
          clear HQ4
          go_wp2_with fail
          refine Calls.mono (len_n W.heap.size m tb n2 (delK ks (o.k.l, o.id)) _ ?hT HQ3.out) ?_
          case hT => exact HT3.out.ext (by repeat (first | exact Ext.refl' _ | assumption | apply Ext.ex' | apply Ext.al | apply Ext.drN | apply Ext.dr))
          rintro e w1 ⟨rfl, hb1⟩
          obtain ⟨x1, rfl⟩ := hb1.get
          clear hb1
          go_wp2
          go_roundg (gk - 1)
          case rel => exact ⟨k + 1, delK ks (o.k.l, o.id), by go_num, by omega, by have := HG.out; omega, Lib.hid (by have := HN2.out; have := HQ3.out; omega), HLL2, Lib.hid (HT3.out.ext (by repeat (first | exact Ext.refl' _ | assumption | apply Ext.ex' | apply Ext.al | apply Ext.drN | apply Ext.dr))), HE3.out.tr (by repeat (first | exact Ext.refl' _ | assumption | apply Ext.ex' | apply Ext.al | apply Ext.drN | apply Ext.dr))⟩
          case measure => have := HG.out; omega
        · have hkz : ¬ ((k : Int) < (n : Int)) := by omega
          have hks : ks = [] := by
            have h := HLL.out
            rw [show k = n by omega] at h
            exact LftL.none HN.out h
          subst hks
          clear HLL HQ
          go_wp2_with fail
          refine Calls.mono (len_n W.heap.size m tb 0 [] _ ?hT2 rfl) ?_
          case hT2 => exact HT.out.ext (by repeat (first | exact Ext.refl' _ | assumption | apply Ext.ex' | apply Ext.al | apply Ext.drN | apply Ext.dr))
          rintro e w1 ⟨rfl, hb1⟩
          obtain ⟨x1, rfl⟩ := hb1.get
          clear hb1
          go_wp2_with fail
          refine Calls.mono (dep_n W.heap.size m tb 0 [] _ HM.out HM2.out ?hT3 rfl (by omega)) ?_
          case hT3 => exact HT.out.ext (by repeat (first | exact Ext.refl' _ | assumption | apply Ext.ex' | apply Ext.al | apply Ext.drN | apply Ext.dr))
          rintro e w1 ⟨⟨D, rfl, hD, hcase⟩, hb1⟩
          obtain ⟨x1, rfl⟩ := hb1.get
          clear hb1
          have hD0 : D = 0 := by
            rcases hcase with ⟨_, h⟩ | ⟨d, _, _, h⟩
            · exact h
            · omega
          subst hD0
          clear hcase hD
          go_wp2_with fail
          refine Calls.mono (works_any _) ?_
          rintro e w1 ⟨rfl, hb1⟩
          obtain ⟨x1, rfl⟩ := hb1.get
          clear hb1
          go_wp2
          go_ret
          exact ⟨rfl, hE.tr (by repeat (first | exact Ext.refl' _ | assumption | apply Ext.ex' | apply Ext.al | apply Ext.drN | apply Ext.dr))⟩

end Go.Proofs.Ytdmbgimehepfaaa
