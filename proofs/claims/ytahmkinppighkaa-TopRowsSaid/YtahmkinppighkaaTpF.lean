/- Rows read from bytes. -/
import Derived.Test.YtahmkinppighkaaTpE
import Derived.OwnWalk
import Derived.Laws.OwnMore
set_option linter.unusedSimpArgs false
set_option linter.unusedVariables false
namespace Go.Proofs.Ytahmkinppighkaa
open Go.RowKit


theorem vcl_set (L : List Va) (a : Va) : ∀ (i : Nat), i < L.length → (((vcl L).set (i * 3) (.int .i64 a.k)).set (i * 3 + 1) (.int .i64 a.i)).set (i * 3 + 2) (.string a.t) = vcl (L.set i a) := by
  induction L with
  | nil => intro i h; simp at h
  | cons b L ih =>
    intro i h
    cases i with
    | zero => simp [vcl, vc]
    | succ i =>
      have := ih i (by simpa using h)
      rw [List.set_cons_succ, show vcl (b :: L.set i a) = vc b ++ vcl (L.set i a) from rfl, ← this, show vcl (b :: L) = vc b ++ vcl L from rfl]
      have e0 : (i + 1) * 3 = i * 3 + 3 := by omega
      rw [e0]
      simp [vc]
/-- a value stored over another one in an owned row -/
theorem setV3 {w : World} {base g n c : Nat} {L : List Va} (h : w.ownsRow base 24 3 (.slice (some ⟨g, 0, none⟩) n c) n (vcl L)) {i : Nat} (hi : i < L.length) (a : Va) :
    ∃ Wa Wb Wc : World, w.setCell ⟨g, i * 3, none⟩ (.int .i64 a.k) = Wa ∧ Wa.setCell ⟨g, i * 3 + 1, none⟩ (.int .i64 a.i) = Wb ∧ Wb.setCell ⟨g, i * 3 + 2, none⟩ (.string a.t) = Wc ∧
      Wc.ownsRow base 24 3 (.slice (some ⟨g, 0, none⟩) n c) n (vcl (L.set i a)) ∧ w.grownBy Wc (some g) ∧
      (w.frozen? ⟨g, i * 3, none⟩ = false ∧ Wa.frozen? ⟨g, i * 3 + 1, none⟩ = false ∧ Wb.frozen? ⟨g, i * 3 + 2, none⟩ = false) ∧
      (∃ u0 u1 u2, w.cell? ⟨g, i * 3, none⟩ = some u0 ∧ Wa.cell? ⟨g, i * 3 + 1, none⟩ = some u1 ∧ Wb.cell? ⟨g, i * 3 + 2, none⟩ = some u2) := by
  obtain ⟨a1, a2⟩ := h.stored (i * 3) (.int .i64 a.k)
  obtain ⟨b1, b2⟩ := a1.stored (i * 3 + 1) (.int .i64 a.i)
  obtain ⟨c1, c2⟩ := b1.stored (i * 3 + 2) (.string a.t)
  refine ⟨_, _, _, rfl, rfl, rfl, by rw [← vcl_set L a i hi]; exact c1, a2.trans (b2.trans c2), ⟨h.frozenAt _, a1.frozenAt _, b1.frozenAt _⟩, ?_⟩
  have hl : (vcl L).length = L.length * 3 := vcl_length L
  have e0 := List.getElem?_eq_getElem (l := vcl L) (i := i * 3) (by omega)
  have e1 := List.getElem?_eq_getElem (l := (vcl L).set (i * 3) (.int .i64 a.k)) (i := i * 3 + 1) (by simp; omega)
  have e2 := List.getElem?_eq_getElem (l := ((vcl L).set (i * 3) (.int .i64 a.k)).set (i * 3 + 1) (.int .i64 a.i)) (i := i * 3 + 2) (by simp; omega)
  have f0 := h.cells (g := g) rfl _ _ e0
  have f1 := a1.cells (g := g) rfl _ _ e1
  have f2 := b1.cells (g := g) rfl _ _ e2
  rw [add_none, Nat.zero_add] at f0 f1 f2
  exact ⟨_, _, _, f0, f1, f2⟩
def zeV : Va := ⟨0, 0, ⟨#[]⟩⟩
theorem made3 : ∀ n : Nat, (madeCells (Value.agg #[.int .i64 0, .int .i64 0, .string ⟨#[]⟩]).cells (n * 3)).toList = vcl (List.replicate n zeV) := by
  intro n
  apply List.ext_getElem?
  intro j
  have hl : (vcl (List.replicate n zeV)).length = n * 3 := by rw [vcl_length, List.length_replicate]
  rcases Nat.lt_or_ge j (n * 3) with h | h
  · have h1 : j / 3 < n := by omega
    have h2 := fmv_get vc 3 (fun _ => rfl) (List.replicate n zeV) (j / 3) (by simpa using h1) (j % 3) (Nat.mod_lt _ (by decide))
    rw [show j / 3 * 3 + j % 3 = j by omega] at h2
    rw [show vcl (List.replicate n zeV) = (List.replicate n zeV).flatMap vc from rfl, h2]
    have h3 : j % 3 = 0 ∨ j % 3 = 1 ∨ j % 3 = 2 := by omega
    simp only [madeCells, Value.cells, Array.getElem?_toList, Array.getElem?_map, Array.getElem?_range, List.getElem_replicate]
    rcases h3 with h3 | h3 | h3
    all_goals simp [h, h3, vc, zeV]
  · rw [List.getElem?_eq_none (by simp [size_madeCells]; omega), List.getElem?_eq_none (by omega)]
theorem rep_set {a : List Va} {k n : Nat} {v : Va} (h : a[k]? = some v) (hk : k < n) (hn : a.length = n) : (a.take k ++ List.replicate (n - k) zeV).set k v = a.take (k + 1) ++ List.replicate (n - (k + 1)) zeV := by
  have hl : (a.take k).length = k := by simp; omega
  rw [List.set_append_right _ _ (by omega), hl, Nat.sub_self, List.take_add_one, h, show n - k = (n - (k + 1)) + 1 by omega, List.replicate_succ, List.set_cons_zero]
  simp
def RowP (n pos : Nat) (a : List Va) (w : World) (e : Ending) (w' : World) : Prop := ∃ A, e = .returned (.tuple #[.slice A n n, .int .i64 (pos : Int), .int .i64 0]) ∧ Rd w' 3 A n (vcl a) ∧ Ext w w'
set_option maxRecDepth 100000 in
set_option maxHeartbeats 8000000 in
theorem row_any (A : Option Addr) (n c : Nat) (bs : List UInt8) (a : List Va) (w : World) (hn : bs.length = n) (hc : n ≤ c) (hcm : c ≤ maxLen) (hnb : n ≤ 1048576) (hR : Rd w 1 A n (bcl bs)) (hV : bs = rby a) (hl : a.length ≤ 12) (hok : ∀ v ∈ a, VaOk v) :
    Calls Try.prog 12 #[.slice A n c, .int .i64 0] w fun e w' => RowP a.length n a w e w' := by
  have HI : Hid (∀ W, Ext w W → Calls Try.prog 32 #[.slice A n c, .int .i64 0] W (InP a.length 0 W)) := Lib.hid fun W e => int_any A n c bs 0 (a.length : Int) W hn hc hcm hnb (hR.ext e) ⟨a.flatMap vby, by rw [hV]; rfl⟩ (by omega) (by omega)
  obtain ⟨m, hm⟩ : ∃ m, a.length = m := ⟨_, rfl⟩
  rw [hm] at HI hl ⊢
  have HM := Lib.hid hm
  obtain ⟨p0, hp0⟩ : ∃ p0, 0 + (encI (m : Int)).length = p0 := ⟨_, rfl⟩
  unfold InP at HI
  rw [hp0] at HI
  have HD0 : Hid (bs.drop p0 = (a.drop 0).flatMap vby) := Lib.hid (by
    rw [hV]
    unfold rby
    rw [hm, ← hp0, Nat.zero_add, List.drop_left]
    rfl)
  have HPL : Hid (p0 + (a.flatMap vby).length = n) := Lib.hid (by
    rw [← hn, hV]
    unfold rby
    rw [hm, List.length_append, ← hp0, Nat.zero_add])
  have HVA : Hid (∀ W, Ext w W → ∀ (pos : Nat) (v : Va), (∃ rest, bs.drop pos = vby v ++ rest) → VaOk v → Calls Try.prog 33 #[.slice A n c, .int .i64 pos] W fun e w' => e = .returned (.tuple #[vag v, .int .i64 ((pos + (vby v).length : Nat) : Int), .int .i64 0]) ∧ Ext W w') := Lib.hid fun W e pos v h1 h2 => value_any A n c bs pos v W hn hc hcm hnb (hR.ext e) h1 h2
  have HOK := Lib.hid hok
  clear hok hn hV hR hm hp0
  have hm0 : ¬ ((m : Int) < 0) := by omega
  have hm1 : ¬ ((12 : Int) < (m : Int)) := by omega
  go_enter Try.func12, Try.ntmps12
  go_wp2_with fail
  refine (HI.out _ (by repeat (first | exact Ext.refl' _ | assumption | apply Ext.ex' | apply Ext.al | apply Ext.drN | apply Ext.dr))).mono ?_
  rintro e w1 ⟨rfl, hw1⟩
  have hw2 := hw1.symm
  subst hw2
  clear HI
  obtain ⟨i0, hi0, hz0, hs0, hb0⟩ := elVal3.hi
  go_wp2_with (first | (refine wpList_make_full _ rfl (.tmp 29) (.tmp 29) _ rfl _ 24 i0 _ 3 Try.underlying22 hi0 hz0 hs0 _ _ (m : Int) (m : Int) m rfl rfl rfl rfl (by rw [hb0]; omega) (by unfold maxLen; omega) (Nat.le_refl _) ?_; intro w2 ho2 hg2))
  have hE2 : Ext w w2 := Below.grown (Ext.refl' w) hg2 (Nat.le_refl _) (fun r hr => by cases hr)
  rw [made3] at ho2
  have HO2 := Lib.hid ho2
  clear ho2 hg2 hi0 hz0 hs0 hb0
  go_loopg [8, 33] m (fun g2 q ix wr => ∃ k pos : Nat, q = .int .i64 pos ∧ ix = .int .i64 k ∧ k ≤ m ∧ m - k ≤ g2 ∧ Hid (bs.drop pos = (a.drop k).flatMap vby) ∧ Hid (pos + ((a.drop k).flatMap vby).length = n) ∧ Hid (wr.ownsRow w.heap.size 24 3 (.slice (some ⟨w.heap.size, 0, none⟩) m m) m (vcl (a.take k ++ List.replicate (m - k) zeV))) ∧ Ext w wr)
  case atStart => exact ⟨0, p0, rfl, rfl, by omega, by omega, HD0, Lib.hid (by simpa using HPL.out), Lib.hid (by simpa using HO2.out), hE2⟩
  case round =>
    obtain ⟨k, pos, rfl, rfl, hk, hg, HD, HP, HO, hE⟩ := hrel
    have HG := Lib.hid hg
    clear hg HD0 HPL HO2
    by_cases hlt : k < m
    · have hkz : (k : Int) < (m : Int) := by omega
      obtain ⟨v, hv⟩ : ∃ v, a[k]? = some v := ⟨_, List.getElem?_eq_getElem (by have := HM.out; omega)⟩
      have hok := HOK.out v (List.mem_of_getElem? hv)
      have hdr : (a.drop k).flatMap vby = vby v ++ (a.drop (k + 1)).flatMap vby := by
        obtain ⟨h1, h2⟩ := List.getElem?_eq_some_iff.1 hv
        rw [List.drop_eq_getElem_cons h1, h2, List.flatMap_cons]
      have HVC := Lib.hid fun W e => HVA.out W e pos v ⟨_, by rw [HD.out, hdr]⟩ hok
      have HD2 : Hid (bs.drop (pos + (vby v).length) = (a.drop (k + 1)).flatMap vby) := Lib.hid (drop_app (by rw [HD.out, hdr]))
      have HP2 : Hid (pos + (vby v).length + ((a.drop (k + 1)).flatMap vby).length = n) := Lib.hid (by
        have h := HP.out
        rw [hdr, List.length_append] at h
        omega)
      have hlen := vby_len hok
      have hpn : pos ≤ n := by have := HP.out; omega
      obtain ⟨q2, hq2⟩ : ∃ q2, pos + (vby v).length = q2 := ⟨_, rfl⟩
      rw [hq2] at HVC HD2 HP2
      have HSV := Lib.hid (rep_set (n := m) hv hlt HM.out)
      clear hv hok hdr hlen hq2
      go_wp2_with fail
      refine (HVC.out _ (by repeat (first | exact Ext.refl' _ | assumption | apply Ext.ex' | apply Ext.al | apply Ext.drN | apply Ext.dr))).mono ?_
      rintro e w3 ⟨rfl, hb3⟩
      have hE3 : Ext w w3 := hE.tr hb3
      obtain ⟨Wa, Wb, Wc, s1, s2, s3, hrow3, hg3, ⟨fz1, fz2, fz3⟩, u0, u1, u2, k0, k1, k2⟩ := setV3 (i := k) (ow8 HO.out hb3) (by simp; have := HM.out; omega) v
      rw [HSV.out] at hrow3
      have HO3 := Lib.hid hrow3
      have hEc : Ext w Wc := Below.grown hE3 hg3 hE3.size (fun r hr => by cases hr; exact Nat.le_refl _)
      clear hrow3 hg3 hE hb3
      go_wp2
      go_roundg (gk - 1)
      case rel => exact ⟨k + 1, q2, rfl, by go_num, by omega, by have := HG.out; omega, HD2, HP2, HO3, hEc⟩
      case measure => have := HG.out; omega
    · have hkz : ¬ ((k : Int) < (m : Int)) := by omega
      have hkm : k = m := by omega
      have hpn : pos = n := by
        have h := HP.out
        rw [List.drop_eq_nil_of_le (by have := HM.out; omega)] at h
        simpa using h
      have HOF : Hid (Rd wr 3 (some ⟨w.heap.size, 0, none⟩) m (vcl a)) := Lib.hid (by
        have h := HO.out
        rw [hkm, Nat.sub_self, List.take_of_length_le (Nat.le_of_eq HM.out), List.replicate_zero, List.append_nil] at h
        exact Rd.of_own h)
      subst hpn
      clear HO HP HD
      go_wp2
      refine bodyPost_ret (v := .tuple #[.slice (some ⟨w.heap.size, 0, none⟩) m m, .int .i64 (pos : Int), .int .i64 0]) ?_ rfl ⟨_, rfl, HOF.out, hE⟩
      simp [results, Try.results12, go_sem, ↓IntWalk.iteOmega]

end Go.Proofs.Ytahmkinppighkaa
