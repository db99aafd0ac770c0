/- The reference of schemas: Kinds, columns, key, foreign, constraints, Check: each returns something. -/
import Derived.Test.YtflhikpihbenaaaGreatFrs
import Derived.Test.YtflhikpihbenaaaGreatGop
set_option linter.unusedSimpArgs false
set_option linter.unusedVariables false
namespace Go.Proofs.YtflhikpihbenaaaGreat
open Go.RowKit


structure Col where
  nm : ByteArray
  k : Int
  nl : Bool
def colc (c : Col) : List Value := [.string c.nm, .int .i64 c.k, .bool c.nl]
structure Fo where
  c : Sl Int
  tb : ByteArray
def foc (f : Fo) : List Value := [.slice f.c.A f.c.l.length f.c.c, .string f.tb]
theorem Rd.col {w : World} {A : Option Addr} {cl : List Col} {n : Nat} (h : Rd w 3 A n (cl.flatMap colc)) (hn : cl.length = n) {k : Nat} (hk : k < n) :
    ∃ c b o, cl[k]? = some c ∧ A = some ⟨b, o, none⟩ ∧ b < w.heap.size ∧ w.cell? ⟨b, o + k * 3, none⟩ = some (.string c.nm) ∧ w.cell? ⟨b, o + k * 3 + 1, none⟩ = some (.int .i64 c.k) ∧ w.cell? ⟨b, o + k * 3 + 2, none⟩ = some (.bool c.nl) := by
  have hk' : k < cl.length := by omega
  obtain ⟨b, o, hA, hb, hc⟩ := h.2 (by omega)
  have f := fun j hj => fm_get (enc := colc) (k := 3) (fun _ => rfl) cl k hk' j hj
  refine ⟨cl[k], b, o, List.getElem?_eq_getElem hk', hA, hb, hc _ _ (f 0 (by omega)), ?_, ?_⟩
  · have := hc _ _ (f 1 (by omega)); rwa [← Nat.add_assoc] at this
  · have := hc _ _ (f 2 (by omega)); rwa [← Nat.add_assoc] at this
theorem Rd.fo {w : World} {A : Option Addr} {cl : List Fo} {n : Nat} (h : Rd w 2 A n (cl.flatMap foc)) (hn : cl.length = n) {k : Nat} (hk : k < n) :
    ∃ c b o, cl[k]? = some c ∧ A = some ⟨b, o, none⟩ ∧ b < w.heap.size ∧ w.cell? ⟨b, o + k * 2, none⟩ = some (.slice c.c.A c.c.l.length c.c.c) ∧ w.cell? ⟨b, o + k * 2 + 1, none⟩ = some (.string c.tb) := by
  have hk' : k < cl.length := by omega
  obtain ⟨b, o, hA, hb, hc⟩ := h.2 (by omega)
  have f := fun j hj => fm_get (enc := foc) (k := 2) (fun _ => rfl) cl k hk' j hj
  refine ⟨cl[k], b, o, List.getElem?_eq_getElem hk', hA, hb, hc _ _ (f 0 (by omega)), ?_⟩
  have := hc _ _ (f 1 (by omega)); rwa [← Nat.add_assoc] at this
theorem Rd.in1 {w : World} {A : Option Addr} {l : List Int} {n : Nat} (h : Rd w 1 A n (ic l)) (hn : l.length = n) {k : Nat} (hk : k < n) : ∃ v b o, l[k]? = some v ∧ A = some ⟨b, o, none⟩ ∧ b < w.heap.size ∧ w.cell? ⟨b, o + k, none⟩ = some (.int .i64 v) := by
  have hk' : k < l.length := by omega
  subst hn
  obtain ⟨b, o, h1, h2, h3⟩ := h.int hk'
  exact ⟨l[k], b, o, List.getElem?_eq_getElem hk', h1, h2, h3⟩
def exB (n : Nat) (i : Int) : Bool := decide (0 ≤ i) && decide (i < n)
set_option maxRecDepth 100000 in
set_option maxHeartbeats 4000000 in
theorem exists_any (s0 : ByteArray) (A1 K A3 A4 : Option Addr) (n1 m1 n2 kc n3 m3 n4 m4 : Nat) (i : Int) (w : World) : Calls Tryz.prog 56 #[.agg #[.string s0, .slice A1 n1 m1, .slice K n2 kc, .slice A3 n3 m3, .slice A4 n4 m4], .int .i64 i] w fun e w' => e = .returned (.bool (exB n1 i)) ∧ Ext w w' := by
  by_cases h1 : 0 ≤ i
  · by_cases h2 : i < (n1 : Int)
    · rw [show exB n1 i = true by simp [exB, h1, h2]]
      go_enter Tryz.func56, Tryz.ntmps56
      go_wp2
      go_ret
      exact ⟨rfl, by repeat (first | exact Ext.refl' _ | assumption | apply Ext.ex' | apply Ext.al | apply Ext.drN | apply Ext.dr)⟩
    · rw [show exB n1 i = false by simp [exB, h2]]
      go_enter Tryz.func56, Tryz.ntmps56
      go_wp2
      go_ret
      exact ⟨rfl, by repeat (first | exact Ext.refl' _ | assumption | apply Ext.ex' | apply Ext.al | apply Ext.drN | apply Ext.dr)⟩
  · rw [show exB n1 i = false by simp [exB, h1]]
    go_enter Tryz.func56, Tryz.ntmps56
    go_wp2
    go_ret
    exact ⟨rfl, by repeat (first | exact Ext.refl' _ | assumption | apply Ext.ex' | apply Ext.al | apply Ext.drN | apply Ext.dr)⟩
set_option maxRecDepth 100000 in
set_option maxHeartbeats 4000000 in
theorem find_any (s0 : ByteArray) (A1 K A3 A4 : Option Addr) (n1 m1 n2 kc n3 m3 n4 m4 : Nat) (cl : List Col) (s : ByteArray) (w : World) (hn : cl.length = n1) (hC : Rd w 3 A1 n1 (cl.flatMap colc)) (hl : n1 ≤ 1048576) : Calls Tryz.prog 55 #[.agg #[.string s0, .slice A1 n1 m1, .slice K n2 kc, .slice A3 n3 m3, .slice A4 n4 m4], .string s] w fun e w' => RI e ∧ Ext w w' := by
  have HN := Lib.hid hn
  clear hn
  go_enter Tryz.func55, Tryz.ntmps55
  go_wp2
  go_loopg [5] n1 (fun g ix wr => ∃ k : Nat, ix = .int .i64 k ∧ k ≤ n1 ∧ n1 - k ≤ g ∧ Ext (w.alloc (.cells #[.string s0, .slice A1 n1 m1, .slice K n2 kc, .slice A3 n3 m3, .slice A4 n4 m4] 27)) wr)
  case atStart => exact ⟨0, rfl, by omega, by omega, by repeat (first | exact Ext.refl' _ | assumption | apply Ext.ex' | apply Ext.al | apply Ext.drN | apply Ext.dr)⟩
  case round =>
    obtain ⟨k, rfl, hk, hg, hE⟩ := hrel
    have HE := Lib.hid hE
    obtain ⟨x, rfl⟩ := hE.get
    clear hE
    have HG := Lib.hid hg
    clear hg
    by_cases hlt : k < n1
    · have hkz : (k : Int) < (n1 : Int) := by omega
      obtain ⟨cv, b, oo, hcv, rfl, hb, c0, c1, c2⟩ := hC.col HN.out hlt
      rcases h1 : (cv.nm.toList == s.toList) with _ | _
      · go_wp2
        go_roundg (gk - 1)
        case rel => exact ⟨k + 1, by go_num, by omega, by have := HG.out; omega, by repeat (first | exact Ext.refl' _ | assumption | apply Ext.ex' | apply Ext.al | apply Ext.drN | apply Ext.dr)⟩
        case measure => have := HG.out; omega
      · go_wp2
        go_ret
        exact ⟨RI.mk _, by repeat (first | exact Ext.refl' _ | assumption | apply Ext.ex' | apply Ext.al | apply Ext.drN | apply Ext.dr)⟩
    · have hkz : ¬ ((k : Int) < (n1 : Int)) := by omega
      go_wp2
      go_ret
      exact ⟨RI.mk _, by repeat (first | exact Ext.refl' _ | assumption | apply Ext.ex' | apply Ext.al | apply Ext.drN | apply Ext.dr)⟩
set_option maxRecDepth 100000 in
set_option maxHeartbeats 4000000 in
theorem columns_any (s0 : ByteArray) (A1 K A3 A4 : Option Addr) (n1 m1 n2 kc n3 m3 n4 m4 : Nat) (cl : List Col) (w : World) (hn : cl.length = n1) (hC : Rd w 3 A1 n1 (cl.flatMap colc)) (hl : n1 ≤ 1048576) (hs : ∀ c ∈ cl, c.nm.size ≤ 9223372036854775807) : Calls Tryz.prog 28 #[.agg #[.string s0, .slice A1 n1 m1, .slice K n2 kc, .slice A3 n3 m3, .slice A4 n4 m4]] w fun e w' => RF e ∧ Ext w w' := by
  have HN := Lib.hid hn
  have HS := Lib.hid hs
  have HF := Lib.hid fun s W (e : Ext w W) => find_any s0 A1 K A3 A4 n1 m1 n2 kc n3 m3 n4 m4 cl s W hn (hC.ext e) hl
  clear hn hs
  by_cases h1 : n1 < 1
  · have h1z : (n1 : Int) < 1 := by omega
    go_enter Tryz.func28, Tryz.ntmps28
    go_wp2
    go_ret
    exact ⟨RF.mk _, by repeat (first | exact Ext.refl' _ | assumption | apply Ext.ex' | apply Ext.al | apply Ext.drN | apply Ext.dr)⟩
  have h1z : ¬ (n1 : Int) < 1 := by omega
  by_cases h2 : 12 < n1
  · have h2z : 12 < (n1 : Int) := by omega
    go_enter Tryz.func28, Tryz.ntmps28
    go_wp2
    go_ret
    exact ⟨RF.mk _, by repeat (first | exact Ext.refl' _ | assumption | apply Ext.ex' | apply Ext.al | apply Ext.drN | apply Ext.dr)⟩
  have h2z : ¬ 12 < (n1 : Int) := by omega
  go_enter Tryz.func28, Tryz.ntmps28
  go_wp2
  go_loopg [3, 4] n1 (fun g ix v4 wr => ∃ k : Nat, ix = .int .i64 k ∧ k ≤ n1 ∧ n1 - k ≤ g ∧ Ext (w.alloc (.cells #[.string s0, .slice A1 n1 m1, .slice K n2 kc, .slice A3 n3 m3, .slice A4 n4 m4] 27)) wr)
  case atStart => exact ⟨0, rfl, by omega, by omega, by repeat (first | exact Ext.refl' _ | assumption | apply Ext.ex' | apply Ext.al | apply Ext.drN | apply Ext.dr)⟩
  case round =>
    obtain ⟨k, rfl, hk, hg, hE⟩ := hrel
    have HE := Lib.hid hE
    obtain ⟨x, rfl⟩ := hE.get
    clear hE
    have HG := Lib.hid hg
    clear hg
    by_cases hlt : k < n1
    · have hkz : (k : Int) < (n1 : Int) := by omega
      obtain ⟨cv, b, oo, hcv, rfl, hb, c0, c1, c2⟩ := hC.col HN.out hlt
      have HNM : Hid (∀ W, Calls Tryz.prog 27 #[.string cv.nm] W fun e w' => RB e ∧ Ext W w') := Lib.hid fun W => name_any cv.nm W (HS.out cv (List.mem_of_getElem? hcv))
      go_wp2_with fail
      refine (HNM.out _).mono ?_
      rintro e w1 ⟨⟨nb, rfl⟩, hb1⟩
      obtain ⟨x1, rfl⟩ := hb1.get
      clear hb1
      cases nb
      · go_wp2
        go_ret
        exact ⟨RF.mk _, by repeat (first | exact Ext.refl' _ | assumption | apply Ext.ex' | apply Ext.al | apply Ext.drN | apply Ext.dr)⟩
      · by_cases hk1 : cv.k < 1
        · go_wp2
          go_ret
          exact ⟨RF.mk _, by repeat (first | exact Ext.refl' _ | assumption | apply Ext.ex' | apply Ext.al | apply Ext.drN | apply Ext.dr)⟩
        · by_cases hk3 : 3 < cv.k
          · go_wp2
            go_ret
            exact ⟨RF.mk _, by repeat (first | exact Ext.refl' _ | assumption | apply Ext.ex' | apply Ext.al | apply Ext.drN | apply Ext.dr)⟩
          · go_wp2_with fail
            refine (HF.out _ _ (by repeat (first | exact Ext.refl' _ | assumption | apply Ext.ex' | apply Ext.al | apply Ext.drN | apply Ext.dr))).mono ?_
            rintro e w1 ⟨⟨dk, rfl⟩, hb1⟩
            obtain ⟨x2, rfl⟩ := hb1.get
            clear hb1
            by_cases hd : dk < (k : Int)
            · go_wp2
              go_ret
              exact ⟨RF.mk _, by repeat (first | exact Ext.refl' _ | assumption | apply Ext.ex' | apply Ext.al | apply Ext.drN | apply Ext.dr)⟩
            · go_wp2
              go_roundg (gk - 1)
              case rel => exact ⟨k + 1, by go_num, by omega, by have := HG.out; omega, by repeat (first | exact Ext.refl' _ | assumption | apply Ext.ex' | apply Ext.al | apply Ext.drN | apply Ext.dr)⟩
              case measure => have := HG.out; omega
    · have hkz : ¬ ((k : Int) < (n1 : Int)) := by omega
      go_wp2
      go_ret
      exact ⟨RF.mk _, by repeat (first | exact Ext.refl' _ | assumption | apply Ext.ex' | apply Ext.al | apply Ext.drN | apply Ext.dr)⟩


set_option maxRecDepth 100000 in
set_option maxHeartbeats 4000000 in
theorem key_any (s0 : ByteArray) (A1 K A3 A4 : Option Addr) (n1 m1 n2 kc n3 m3 n4 m4 : Nat) (cl : List Col) (ks : List Int) (w : World) (hn : cl.length = n1) (hn2 : ks.length = n2) (hC : Rd w 3 A1 n1 (cl.flatMap colc)) (hK : Rd w 1 K n2 (ic ks)) (hl : n1 ≤ 1048576) (hl2 : n2 ≤ 1048576) : Calls Tryz.prog 29 #[.agg #[.string s0, .slice A1 n1 m1, .slice K n2 kc, .slice A3 n3 m3, .slice A4 n4 m4]] w fun e w' => RF e ∧ Ext w w' := by
  have HN := Lib.hid hn
  have HN2 := Lib.hid hn2
  clear hn hn2
  by_cases h1 : n2 = 0
  · subst h1
    go_enter Tryz.func29, Tryz.ntmps29
    go_wp2
    go_ret
    exact ⟨RF.mk _, by repeat (first | exact Ext.refl' _ | assumption | apply Ext.ex' | apply Ext.al | apply Ext.drN | apply Ext.dr)⟩
  have h1z : ((n2 : Int) == 0) = false := beq_eq_false_iff_ne.2 (by omega)
  clear h1
  go_enter Tryz.func29, Tryz.ntmps29
  go_wp2
  go_loopg [3] n2 (fun g ix wr => ∃ k : Nat, ix = .int .i64 k ∧ k ≤ n2 ∧ n2 - k ≤ g ∧ Ext (w.alloc (.cells #[.string s0, .slice A1 n1 m1, .slice K n2 kc, .slice A3 n3 m3, .slice A4 n4 m4] 27)) wr)
  case atStart => exact ⟨0, rfl, by omega, by omega, by repeat (first | exact Ext.refl' _ | assumption | apply Ext.ex' | apply Ext.al | apply Ext.drN | apply Ext.dr)⟩
  case round =>
    obtain ⟨k, rfl, hk, hg, hE⟩ := hrel
    have HE := Lib.hid hE
    obtain ⟨x, rfl⟩ := hE.get
    clear hE
    have HG := Lib.hid hg
    clear hg
    by_cases hlt : k < n2
    · have hkz : (k : Int) < (n2 : Int) := by omega
      obtain ⟨kv, b, oo, hkv, hKe, hb, c0⟩ := hK.in1 HN2.out hlt
      have HEX : Hid (∀ W, Calls Tryz.prog 56 #[.agg #[.string s0, .slice A1 n1 m1, .slice (some ⟨b, oo, none⟩) n2 kc, .slice A3 n3 m3, .slice A4 n4 m4], .int .i64 kv] W fun e w' => e = .returned (.bool (exB n1 kv)) ∧ Ext W w') := Lib.hid fun W => exists_any s0 A1 (some ⟨b, oo, none⟩) A3 A4 n1 m1 n2 kc n3 m3 n4 m4 kv W
      rcases hex : exB n1 kv with _ | _
      · rw [hex] at HEX
        subst hKe
        clear hex
        go_wp2_with fail
        refine wp_region_ext (by kernel_rfl) (by kernel_rfl) ?_
        repeat (first | go_big_quiet_step ((go_at_call 56; exact Calls.ext_of (HEX.out _))) | quiet_step ((go_at_call 56; exact Calls.ext_of (HEX.out _))))
        refine wpQuiet_nil ?_
        intro _ hw'
        obtain ⟨xq, hw''⟩ := hw'
        subst hw''
        go_wp2
        go_ret
        exact ⟨RF.mk _, by repeat (first | exact Ext.refl' _ | assumption | apply Ext.ex' | apply Ext.al | apply Ext.drN | apply Ext.dr)⟩
      · rw [hex] at HEX
        have hkv0 : 0 ≤ kv ∧ kv < n1 := by simpa [exB] using hex
        clear hex
        obtain ⟨kn, rfl⟩ := Int.eq_ofNat_of_zero_le hkv0.1
        have hkn : kn < n1 := by omega
        obtain ⟨cv, b1, oo1, hcv, rfl, hb1, q0, q1, q2⟩ := hC.col HN.out hkn
        have hknz : (kn : Int) < (n1 : Int) := by omega
        clear hkv0
        by_cases hk0 : k = 0
        · have hk0z : ¬ (0 : Int) < (k : Int) := by omega
          have HK0 := Lib.hid hk0
          have q1 : decide (0 < k) = false := decide_eq_false (by omega)
          clear hk0
          subst hKe
          go_wp2_with fail
          refine wp_region_ext (by kernel_rfl) (by kernel_rfl) ?_
          repeat (first | go_big_quiet_step ((go_at_call 56; exact Calls.ext_of (HEX.out _))) | quiet_step ((go_at_call 56; exact Calls.ext_of (HEX.out _))) | simp only [q1])
          refine wpQuiet_nil ?_
          intro _ hw'
          obtain ⟨xq, hw''⟩ := hw'
          subst hw''
          rcases hnl : cv.nl with _ | _
          · go_wp2_with fail
            refine wp_region_ext (by kernel_rfl) (by kernel_rfl) ?_
            repeat (first | go_big_quiet_step (fail) | quiet_step (fail))
            refine wpQuiet_nil ?_
            intro _ hw'
            obtain ⟨xq, hw''⟩ := hw'
            subst hw''
            go_wp2
            go_roundg (gk - 1)
            case rel => exact ⟨k + 1, by go_num, by omega, by have := HG.out; omega, by repeat (first | exact Ext.refl' _ | assumption | apply Ext.ex' | apply Ext.al | apply Ext.drN | apply Ext.dr)⟩
            case measure => have := HG.out; omega
          · go_wp2_with fail
            refine wp_region_ext (by kernel_rfl) (by kernel_rfl) ?_
            repeat (first | go_big_quiet_step (fail) | quiet_step (fail))
            refine wpQuiet_nil ?_
            intro _ hw'
            obtain ⟨xq, hw''⟩ := hw'
            subst hw''
            go_wp2
            go_ret
            exact ⟨RF.mk _, by repeat (first | exact Ext.refl' _ | assumption | apply Ext.ex' | apply Ext.al | apply Ext.drN | apply Ext.dr)⟩
        · obtain ⟨j, hj⟩ : ∃ j : Nat, (k : Int) - 1 = (j : Int) := ⟨k - 1, by omega⟩
          have hjn : (j : Int) < (n2 : Int) := by omega
          obtain ⟨pv, b2, oo2, hpv, hKe2, hb2, p0⟩ := hK.in1 HN2.out (show j < n2 by omega)
          have hE2 := hKe.symm.trans hKe2
          simp only [Option.some.injEq, Addr.mk.injEq, and_true] at hE2
          obtain ⟨rfl, rfl⟩ := hE2
          subst hKe
          have hj1 : IntKind.i64.wrap ((k : Int) - 1) = (j : Int) := by rw [IntWalk.i64_in _ (by omega)]; exact hj
          have hj2 : (0 : Int) < (k : Int) := by omega
          have q1 : decide (0 < k) = true := decide_eq_true (by omega)
          clear hk0
          by_cases hle : (kn : Int) ≤ pv
          · go_wp2_with fail
            refine wp_region_ext (by kernel_rfl) (by kernel_rfl) ?_
            repeat (first | go_big_quiet_step ((go_at_call 56; exact Calls.ext_of (HEX.out _))) | quiet_step ((go_at_call 56; exact Calls.ext_of (HEX.out _))) | simp only [q1])
            refine wpQuiet_nil ?_
            intro _ hw'
            obtain ⟨xq, hw''⟩ := hw'
            subst hw''
            go_wp2
            go_ret
            exact ⟨RF.mk _, by repeat (first | exact Ext.refl' _ | assumption | apply Ext.ex' | apply Ext.al | apply Ext.drN | apply Ext.dr)⟩
          · go_wp2_with fail
            refine wp_region_ext (by kernel_rfl) (by kernel_rfl) ?_
            repeat (first | go_big_quiet_step ((go_at_call 56; exact Calls.ext_of (HEX.out _))) | quiet_step ((go_at_call 56; exact Calls.ext_of (HEX.out _))) | simp only [q1])
            refine wpQuiet_nil ?_
            intro _ hw'
            obtain ⟨xq, hw''⟩ := hw'
            subst hw''
            rcases hnl : cv.nl with _ | _
            · go_wp2_with fail
              refine wp_region_ext (by kernel_rfl) (by kernel_rfl) ?_
              repeat (first | go_big_quiet_step (fail) | quiet_step (fail))
              refine wpQuiet_nil ?_
              intro _ hw'
              obtain ⟨xq, hw''⟩ := hw'
              subst hw''
              go_wp2
              go_roundg (gk - 1)
              case rel => exact ⟨k + 1, by go_num, by omega, by have := HG.out; omega, by repeat (first | exact Ext.refl' _ | assumption | apply Ext.ex' | apply Ext.al | apply Ext.drN | apply Ext.dr)⟩
              case measure => have := HG.out; omega
            · go_wp2_with fail
              refine wp_region_ext (by kernel_rfl) (by kernel_rfl) ?_
              repeat (first | go_big_quiet_step (fail) | quiet_step (fail))
              refine wpQuiet_nil ?_
              intro _ hw'
              obtain ⟨xq, hw''⟩ := hw'
              subst hw''
              go_wp2
              go_ret
              exact ⟨RF.mk _, by repeat (first | exact Ext.refl' _ | assumption | apply Ext.ex' | apply Ext.al | apply Ext.drN | apply Ext.dr)⟩
    · have hkz : ¬ ((k : Int) < (n2 : Int)) := by omega
      go_wp2
      go_ret
      exact ⟨RF.mk _, by repeat (first | exact Ext.refl' _ | assumption | apply Ext.ex' | apply Ext.al | apply Ext.drN | apply Ext.dr)⟩


def KP (e : Ending) (w' : World) : Prop := ∃ (n c : Nat) (A : Option Addr) (l : List Int), e = .returned (.slice A n c) ∧ Hid (l.length = n) ∧ n ≤ 1048576 ∧ Hid (Rd w' 1 A n (ic l))
theorem KP.mk (w' : World) (n c : Nat) (A : Option Addr) (l : List Int) (h1 : l.length = n) (h2 : n ≤ 1048576) (h3 : Rd w' 1 A n (ic l)) : KP (.returned (.slice A n c)) w' := ⟨n, c, A, l, rfl, Lib.hid h1, h2, Lib.hid h3⟩
set_option maxRecDepth 100000 in
set_option maxHeartbeats 4000000 in
theorem kinds_any (s0 : ByteArray) (A1 K A3 A4 : Option Addr) (n1 m1 n2 kc n3 m3 n4 m4 : Nat) (cl : List Col) (w : World) (hn : cl.length = n1) (hC : Rd w 3 A1 n1 (cl.flatMap colc)) (hl : n1 ≤ 1048576) : Calls Tryz.prog 13 #[.agg #[.string s0, .slice A1 n1 m1, .slice K n2 kc, .slice A3 n3 m3, .slice A4 n4 m4]] w fun e w' => KP e w' ∧ Ext w w' := by
  have HN := Lib.hid hn
  clear hn
  go_enter Tryz.func13, Tryz.ntmps13
  go_wp2
  have hE0 : Ext (w.alloc (.cells #[.string s0, .slice A1 n1 m1, .slice K n2 kc, .slice A3 n3 m3, .slice A4 n4 m4] 27)) ((w.alloc (.cells #[.string s0, .slice A1 n1 m1, .slice K n2 kc, .slice A3 n3 m3, .slice A4 n4 m4] 27)).alloc (.cells #[] 3)) := by repeat (first | exact Ext.refl' _ | assumption | apply Ext.ex' | apply Ext.al | apply Ext.drN | apply Ext.dr)
  go_loopg [3, 4] n1 (fun g q ix wr => ∃ (k lc : Nat) (lA : Option Addr) (lk : List Int), q = .slice lA k lc ∧ ix = .int .i64 k ∧ k ≤ n1 ∧ n1 - k ≤ g ∧ Hid (lk.length = k) ∧ Hid (wr.ownsRow ((w.alloc (.cells #[.string s0, .slice A1 n1 m1, .slice K n2 kc, .slice A3 n3 m3, .slice A4 n4 m4] 27))).heap.size 3 1 (.slice lA k lc) k (ic lk)) ∧ Ext (w.alloc (.cells #[.string s0, .slice A1 n1 m1, .slice K n2 kc, .slice A3 n3 m3, .slice A4 n4 m4] 27)) wr)
  case atStart => refine ⟨0, 0, _, [], rfl, rfl, by omega, by omega, Lib.hid rfl, Lib.hid (own_lit0d _ _ _ (Nat.le_refl _) _ _ (by simp [size_ext])), hE0⟩
  case round =>
    obtain ⟨k, lc, lA, lk, rfl, rfl, hk, hg, HLK, HO, hE⟩ := hrel
    obtain ⟨x, rfl⟩ := hE.get
    have HG := Lib.hid hg
    clear hg
    by_cases hlt : k < n1
    · have hkz : (k : Int) < (n1 : Int) := by omega
      obtain ⟨cv, b, oo, hcv, rfl, hb, c0, c1, c2⟩ := hC.col HN.out hlt
      go_wp2_with (at_builtin; (refine wpList_app _ rfl (.tmp 13) (.tmp 20) rfl elInt (w.alloc (.cells #[.string s0, .slice (some ⟨b, oo, none⟩) n1 m1, .slice K n2 kc, .slice A3 n3 m3, .slice A4 n4 m4] 27)) (by repeat (first | exact Ext.refl' _ | assumption | apply Ext.ex' | apply Ext.al | apply Ext.drN | apply Ext.dr)) _ k _ rfl (ownsRow_ext11 HO.out (by repeat (first | exact Ext.refl' _ | assumption | apply Ext.ex' | apply Ext.al | apply Ext.drN | apply Ext.dr))) _ 1 1 [.int .i64 cv.k] rfl (Rd.lit _ #[.int .i64 cv.k] _ 1 1 rfl (by simp [size_ext])) (oneCell_ic [cv.k]) (by unfold maxLen; omega) (by omega) ?_; intro v1 x4 ho1 _))
      obtain ⟨A4', c4, rfl, hd1, hd2⟩ := Own.form ho1
      have HO4 := Lib.hid ho1
      clear ho1
      go_wp2
      go_roundg (gk - 1)
      case rel => exact ⟨k + 1, c4, A4', lk ++ [cv.k], rfl, by go_num, by omega, by have := HG.out; omega, Lib.hid (by rw [List.length_append, HLK.out]; rfl), Lib.hid (by rw [show ic (lk ++ [cv.k]) = ic lk ++ [.int .i64 cv.k] from List.map_append]; exact HO4.out), by repeat (first | exact Ext.refl' _ | assumption | apply Ext.ex' | apply Ext.al | apply Ext.drN | apply Ext.dr)⟩
      case measure => have := HG.out; omega
    · have hkz : ¬ ((k : Int) < (n1 : Int)) := by omega
      go_wp2
      go_ret
      exact ⟨KP.mk _ k lc lA lk HLK.out (by omega) ((Rd.of_own HO.out).ext (by repeat (first | exact Ext.refl' _ | assumption | apply Ext.ex' | apply Ext.al | apply Ext.drN | apply Ext.dr))), by repeat (first | exact Ext.refl' _ | assumption | apply Ext.ex' | apply Ext.al | apply Ext.drN | apply Ext.dr)⟩


set_option maxRecDepth 100000 in
set_option maxHeartbeats 4000000 in
theorem foreign_any (s0 : ByteArray) (A1 K A3 A4 : Option Addr) (n1 m1 n2 kc n3 m3 n4 m4 : Nat) (F : Option Addr) (nf fc : Nat) (fb : ByteArray) (fl : List Int) (w : World) (hnf : fl.length = nf) (hF : Rd w 1 F nf (ic fl)) (hl : nf ≤ 1048576) (hl1 : n1 ≤ 1048576) (hs : fb.size ≤ 9223372036854775807) : Calls Tryz.prog 57 #[.agg #[.string s0, .slice A1 n1 m1, .slice K n2 kc, .slice A3 n3 m3, .slice A4 n4 m4], .agg #[.slice F nf fc, .string fb]] w fun e w' => RF e ∧ Ext w w' := by
  have HNF := Lib.hid hnf
  have HNM := Lib.hid fun W => name_any fb W hs
  clear hnf
  go_enter Tryz.func57, Tryz.ntmps57
  go_wp2_with fail
  refine (HNM.out _).mono ?_
  rintro e w1 ⟨⟨nb, rfl⟩, hb1⟩
  obtain ⟨x1, rfl⟩ := hb1.get
  clear hb1
  cases nb
  · go_wp2
    go_ret
    exact ⟨RF.mk _, by repeat (first | exact Ext.refl' _ | assumption | apply Ext.ex' | apply Ext.al | apply Ext.drN | apply Ext.dr)⟩
  rcases h1z : ((nf : Int) == 0) with _ | _
  case true =>
    go_wp2
    go_ret
    exact ⟨RF.mk _, by repeat (first | exact Ext.refl' _ | assumption | apply Ext.ex' | apply Ext.al | apply Ext.drN | apply Ext.dr)⟩
  go_wp2
  go_loopg [5, 6] nf (fun g ix v6 wr => ∃ k : Nat, ix = .int .i64 k ∧ k ≤ nf ∧ nf - k ≤ g ∧ Ext ((w.alloc (.cells #[.string s0, .slice A1 n1 m1, .slice K n2 kc, .slice A3 n3 m3, .slice A4 n4 m4] 27)).alloc (.cells #[.slice F nf fc, .string fb] 109)) wr)
  case atStart => exact ⟨0, rfl, by omega, by omega, by repeat (first | exact Ext.refl' _ | assumption | apply Ext.ex' | apply Ext.al | apply Ext.drN | apply Ext.dr)⟩
  case round =>
    obtain ⟨k, rfl, hk, hg, hE⟩ := hrel
    have HE := Lib.hid hE
    obtain ⟨x, rfl⟩ := hE.get
    clear hE
    have HG := Lib.hid hg
    clear hg
    by_cases hlt : k < nf
    · have hkz : (k : Int) < (nf : Int) := by omega
      obtain ⟨fv, b, oo, hfv, rfl, hb, c0⟩ := hF.in1 HNF.out hlt
      have HEX := Lib.hid fun W => exists_any s0 A1 K A3 A4 n1 m1 n2 kc n3 m3 n4 m4 fv W
      rcases hex : exB n1 fv with _ | _
      · rw [hex] at HEX
        clear hex
        go_wp2_with fail
        refine wp_region_ext (by kernel_rfl) (by kernel_rfl) ?_
        repeat (first | go_big_quiet_step ((go_at_call 56; exact Calls.ext_of (HEX.out _))) | quiet_step ((go_at_call 56; exact Calls.ext_of (HEX.out _))))
        refine wpQuiet_nil ?_
        intro _ hw'
        obtain ⟨xq, hw''⟩ := hw'
        subst hw''
        go_wp2
        go_ret
        exact ⟨RF.mk _, by repeat (first | exact Ext.refl' _ | assumption | apply Ext.ex' | apply Ext.al | apply Ext.drN | apply Ext.dr)⟩
      · rw [hex] at HEX
        clear hex
        go_wp2_with fail
        refine wp_region_ext (by kernel_rfl) (by kernel_rfl) ?_
        repeat (first | go_big_quiet_step ((go_at_call 56; exact Calls.ext_of (HEX.out _))) | quiet_step ((go_at_call 56; exact Calls.ext_of (HEX.out _))))
        refine wpQuiet_nil ?_
        intro _ hw'
        obtain ⟨xq, hw''⟩ := hw'
        subst hw''
        have HKL := Lib.hid hlt
        obtain ⟨gO, rfl⟩ : ∃ g, g = gk := ⟨gk, rfl⟩
        go_wp2
        go_loopg [6] k (fun g2 iy wr2 => ∃ j : Nat, iy = .int .i64 j ∧ j ≤ k ∧ k - j ≤ g2 ∧ Ext ((w.alloc (.cells #[.string s0, .slice A1 n1 m1, .slice K n2 kc, .slice A3 n3 m3, .slice A4 n4 m4] 27)).alloc (.cells #[.slice (some ⟨b, oo, none⟩) nf fc, .string fb] 109)) wr2)
        case atStart => exact ⟨0, rfl, by omega, by omega, by repeat (first | exact Ext.refl' _ | assumption | apply Ext.ex' | apply Ext.al | apply Ext.drN | apply Ext.dr)⟩
        case round =>
          obtain ⟨j, rfl, hj, hg2, hE2⟩ := hrel
          obtain ⟨x2, rfl⟩ := hE2.get
          have HG2 := Lib.hid hg2
          clear hg2 hE2
          by_cases hjk : j < k
          · have hjkz : (j : Int) < (k : Int) := by omega
            have hjn : (j : Int) < (nf : Int) := by omega
            obtain ⟨gv, b2, oo2, hgv, hFe, hb2, p0⟩ := hF.in1 HNF.out (show j < nf by omega)
            simp only [Option.some.injEq, Addr.mk.injEq, and_true] at hFe
            obtain ⟨rfl, rfl⟩ := hFe
            rcases hqq : (gv == fv) with _ | _
            · go_wp2_with fail
              refine wp_region_ext (by kernel_rfl) (by kernel_rfl) ?_
              repeat (first | go_big_quiet_step (fail) | quiet_step (fail))
              refine wpQuiet_nil ?_
              intro _ hw'
              obtain ⟨xq, hw''⟩ := hw'
              subst hw''
              go_wp2
              go_roundg (gk - 1)
              case rel => exact ⟨j + 1, by go_num, by omega, by have := HG2.out; omega, by repeat (first | exact Ext.refl' _ | assumption | apply Ext.ex' | apply Ext.al | apply Ext.drN | apply Ext.dr)⟩
              case measure => have := HG2.out; omega
            · go_wp2_with fail
              refine wp_region_ext (by kernel_rfl) (by kernel_rfl) ?_
              repeat (first | go_big_quiet_step (fail) | quiet_step (fail))
              refine wpQuiet_nil ?_
              intro _ hw'
              obtain ⟨xq, hw''⟩ := hw'
              subst hw''
              go_wp2
              go_ret
              exact ⟨RF.mk _, by repeat (first | exact Ext.refl' _ | assumption | apply Ext.ex' | apply Ext.al | apply Ext.drN | apply Ext.dr)⟩
          · have hjkz : ¬ ((j : Int) < (k : Int)) := by omega
            go_wp2
            go_roundg (gO - 1)
            case rel => exact ⟨k + 1, by go_num, by omega, by have := HG.out; omega, by repeat (first | exact Ext.refl' _ | assumption | apply Ext.ex' | apply Ext.al | apply Ext.drN | apply Ext.dr)⟩
            case measure => have := HG.out; omega
    · have hkz : ¬ ((k : Int) < (nf : Int)) := by omega
      go_wp2
      go_ret
      exact ⟨RF.mk _, by repeat (first | exact Ext.refl' _ | assumption | apply Ext.ex' | apply Ext.al | apply Ext.drN | apply Ext.dr)⟩

end Go.Proofs.YtflhikpihbenaaaGreat
