/- Lemmas for the rows: OpnM Frt Fru. -/
import Derived.Test.YtdiaecgpjgdkdaaGreatThS30
import Derived.Test.YtdiaecgpjgdkdaaGreatThS17
import Derived.Test.YtdiaecgpjgdkdaaGreatThS15
import Derived.Test.YtdiaecgpjgdkdaaGreatThS05
set_option linter.unusedSimpArgs false
set_option linter.unusedVariables false
namespace Go.Proofs.YtdiaecgpjgdkdaaGreat
open Go.ChangeShapes Go.WideShapes Go.ChangeAt Go.RowKit Go.Joins Go.Deep

theorem opnInt : Opn Tryz.prog 3 1 (fun a : Int => [.int .i64 a]) (fun _ _ => True) :=
 (Opn.int Tryz.underlying3).as (fun a => a) (fun _ => rfl) (fun _ => rfl) (fun _ _ _ => trivial)
theorem opnVa : Opn Tryz.prog 66 3 vc (fun _ v => v.t.size ≤ maxLen) :=
 (Opn.struct Tryz.underlying66 (Flds.cons opnInt rfl (by kernel_rfl) (Flds.cons opnInt rfl (by kernel_rfl) (Flds.one (Opn.str Tryz.underlying9) rfl (by kernel_rfl)))) (by kernel_rfl)).as
  (fun a => (⟨a.1, a.2.1, a.2.2⟩ : Va)) (fun _ => rfl) (fun _ => rfl) (fun _ _ h => h.2.2)
theorem opnPer : Opn Tryz.prog 35 2 (fun p : Int × Int => [.int .i64 p.1, .int .i64 p.2]) (fun _ _ => True) :=
 (Opn.struct Tryz.underlying35 (Flds.cons opnInt rfl (by kernel_rfl) (Flds.one opnInt rfl (by kernel_rfl))) (by kernel_rfl)).as (fun a => a) (fun _ => rfl) (fun _ => rfl) (fun _ _ _ => trivial)
theorem opnRc : Opn Tryz.prog 37 4 (fun r : (Int × Int) × (Int × Int) => [.int .i64 r.1.1, .int .i64 r.1.2, .int .i64 r.2.1, .int .i64 r.2.2]) (fun _ _ => True) :=
 (Opn.struct Tryz.underlying37 (Flds.cons opnPer rfl (by kernel_rfl) (Flds.one opnPer rfl (by kernel_rfl))) (by kernel_rfl)).as (fun a => a) (fun _ => rfl) (fun _ => rfl) (fun _ _ _ => trivial)
structure PaA where
 k : Int
 key : Sl Va
 r : (Int × Int) × (Int × Int)
def encPa (p : PaA) : List Value := [.int .i64 p.k, .slice p.key.A p.key.l.length p.key.c, .int .i64 p.r.1.1, .int .i64 p.r.1.2, .int .i64 p.r.2.1, .int .i64 p.r.2.2]
structure VeA where
 id : Int
 sch : Int
 row : Sl Va
 v : Int × Int
 s : Int × Int
 by_ : Int
 un : Int
def encVe (p : VeA) : List Value := [.int .i64 p.id, .int .i64 p.sch, .slice p.row.A p.row.l.length p.row.c, .int .i64 p.v.1, .int .i64 p.v.2, .int .i64 p.s.1, .int .i64 p.s.2, .int .i64 p.by_, .int .i64 p.un]
section
variable {P : Program}
end
theorem five {cs : Array Value} (h : cs.size = 5) : ∃ a b c d e, cs = #[a, b, c, d, e] := by
 obtain ⟨l⟩ := cs
 match l, h with
 | [a, b, c, d, e], _ => exact ⟨a, b, c, d, e, rfl⟩
theorem cells_table : Tryz.prog.cellsOf 27 = 5 := by kernel_rfl

theorem bulk_one {H : Type} (d : DataW H) : 1 ≤ Rows.uptoBulk d := by
 cases d with
 | lit l => cases l <;> simp [Rows.uptoBulk]
 | nil => simp [Rows.uptoBulk]
 | ptr d => simp [Rows.uptoBulk]
 | slice elems spare => simp [Rows.uptoBulk]
 | agg parts => simp [Rows.uptoBulk]
 | iface t d => simp [Rows.uptoBulk]
 | map entries => simp [Rows.uptoBulk]
 | held h => simp [Rows.uptoBulk]
end Go.Proofs.YtdiaecgpjgdkdaaGreat

namespace Go.Proofs.YtdiaecgpjgdkdaaGreat
open Go.RowKit
def RFb (c : Prop) (e : Ending) : Prop := ∃ k : Int, e = .returned (.int .i64 k) ∧ (k = 0 → c)
theorem RFb.mk {c : Prop} (k : Int) (h : k = 0 → c) : RFb c (.returned (.int .i64 k)) := ⟨k, rfl, h⟩

structure Col where
 nm : ByteArray
 k : Int
 nl : Bool
def colc (c : Col) : List Value := [.string c.nm, .int .i64 c.k, .bool c.nl]
structure Fo where
 c : Sl Int
 tb : ByteArray
def foc (f : Fo) : List Value := [.slice f.c.A f.c.l.length f.c.c, .string f.tb]
theorem Rd.col {w : World} {A : Option Addr} {cl : List Col} {n : Nat} (h : Rd w 3 A n (cl.flatMap colc)) (hn : cl.length = n) {k : Nat} (hk : k < n) :
  ∃ c b o, cl[k]? = some c ∧ A = some ⟨b, o, none⟩ ∧ b < w.heap.size ∧ w.cell? ⟨b, o + k * 3, none⟩ = some (.string c.nm) ∧ w.cell? ⟨b, o + k * 3 + 1, none⟩ = some (.int .i64 c.k) ∧ w.cell? ⟨b, o + k * 3 + 2, none⟩ = some (.bool c.nl) := by
 have hk' : k < cl.length := by omega
 obtain ⟨b, o, hA, hb, hc⟩ := h.2 (by omega)
 have f := fun j hj => fm_get (enc := colc) (k := 3) (fun _ => rfl) cl k hk' j hj
 refine ⟨cl[k], b, o, List.getElem?_eq_getElem hk', hA, hb, hc _ _ (f 0 (by omega)), ?_, ?_⟩
 ·
  have := hc _ _ (f 1 (by omega)); rwa [← Nat.add_assoc] at this
 ·
  have := hc _ _ (f 2 (by omega)); rwa [← Nat.add_assoc] at this
theorem Rd.fo {w : World} {A : Option Addr} {cl : List Fo} {n : Nat} (h : Rd w 2 A n (cl.flatMap foc)) (hn : cl.length = n) {k : Nat} (hk : k < n) :
  ∃ c b o, cl[k]? = some c ∧ A = some ⟨b, o, none⟩ ∧ b < w.heap.size ∧ w.cell? ⟨b, o + k * 2, none⟩ = some (.slice c.c.A c.c.l.length c.c.c) ∧ w.cell? ⟨b, o + k * 2 + 1, none⟩ = some (.string c.tb) := by
 have hk' : k < cl.length := by omega
 obtain ⟨b, o, hA, hb, hc⟩ := h.2 (by omega)
 have f := fun j hj => fm_get (enc := foc) (k := 2) (fun _ => rfl) cl k hk' j hj
 refine ⟨cl[k], b, o, List.getElem?_eq_getElem hk', hA, hb, hc _ _ (f 0 (by omega)), ?_⟩
 have := hc _ _ (f 1 (by omega)); rwa [← Nat.add_assoc] at this
theorem Rd.in1 {w : World} {A : Option Addr} {l : List Int} {n : Nat} (h : Rd w 1 A n (ic l)) (hn : l.length = n) {k : Nat} (hk : k < n) : ∃ v b o, l[k]? = some v ∧ A = some ⟨b, o, none⟩ ∧ b < w.heap.size ∧ w.cell? ⟨b, o + k, none⟩ = some (.int .i64 v) := by
 have hk' : k < l.length := by omega
 subst hn
 obtain ⟨b, o, h1, h2, h3⟩ := h.int hk'
 exact ⟨l[k], b, o, List.getElem?_eq_getElem hk', h1, h2, h3⟩
def exB (n : Nat) (i : Int) : Bool := decide (0 ≤ i) && decide (i < n)
set_option maxRecDepth 100000 in
set_option maxHeartbeats 4000000 in
theorem exists_any (s0 : ByteArray) (A1 K A3 A4 : Option Addr) (n1 m1 n2 kc n3 m3 n4 m4 : Nat) (i : Int) (w : World) : Calls Tryz.prog 109 #[.agg #[.string s0, .slice A1 n1 m1, .slice K n2 kc, .slice A3 n3 m3, .slice A4 n4 m4], .int .i64 i] w fun e w' => e = .returned (.bool (exB n1 i)) ∧ Ext w w' := by
 by_cases h1 : 0 ≤ i
 ·
  by_cases h2 : i < (n1 : Int)
  ·
   rw [show exB n1 i = true by simp [exB, h1, h2]]
   go_enter Tryz.func109, Tryz.ntmps109
   go_wp2
   go_ret
   exact ⟨rfl, ex_⟩
  ·
   rw [show exB n1 i = false by simp [exB, h2]]
   go_enter Tryz.func109, Tryz.ntmps109
   go_wp2
   go_ret
   exact ⟨rfl, ex_⟩
 ·
  rw [show exB n1 i = false by simp [exB, h1]]
  go_enter Tryz.func109, Tryz.ntmps109
  go_wp2
  go_ret
  exact ⟨rfl, ex_⟩
set_option maxRecDepth 100000 in
set_option maxHeartbeats 4000000 in
theorem find_any (s0 : ByteArray) (A1 K A3 A4 : Option Addr) (n1 m1 n2 kc n3 m3 n4 m4 : Nat) (cl : List Col) (s : ByteArray) (w : World) (hn : cl.length = n1) (hC : Rd w 3 A1 n1 (cl.flatMap colc)) (hl : n1 ≤ 9223372036854775807) : Calls Tryz.prog 108 #[.agg #[.string s0, .slice A1 n1 m1, .slice K n2 kc, .slice A3 n3 m3, .slice A4 n4 m4], .string s] w fun e w' => RI e ∧ Ext w w' := by
 have HN := Lib.hid hn
 clear hn
 go_enter Tryz.func108, Tryz.ntmps108
 go_wp2
 go_loopg [5] n1 (fun g ix wr => ∃ k : Nat, ix = .int .i64 k ∧ k ≤ n1 ∧ n1 - k ≤ g ∧ Ext (w.alloc (.cells #[.string s0, .slice A1 n1 m1, .slice K n2 kc, .slice A3 n3 m3, .slice A4 n4 m4] 27)) wr)
 case atStart => exact ⟨0, rfl, by omega, by omega, ex_⟩
 case round =>
  obtain ⟨k, rfl, hk, hg, hE⟩ := hrel
  have HE := Lib.hid hE
  obtain ⟨x, rfl⟩ := hE.get
  clear hE
  have HG := Lib.hid hg
  clear hg
  by_cases hlt : k < n1
  ·
   have hkz : (k : Int) < (n1 : Int) := by omega
   obtain ⟨cv, b, oo, hcv, rfl, hb, c0, c1, c2⟩ := hC.col HN.out hlt
   rcases h1 : (cv.nm.toList == s.toList) with _ | _
   ·
    go_wp2
    go_roundg (gk - 1)
    case rel => exact ⟨k + 1, by go_num, by omega, by have := HG.out; omega, ex_⟩
    case measure => have := HG.out; omega
   ·
    go_wp2
    go_ret
    exact ⟨RI.mk _, ex_⟩
  ·
   have hkz : ¬ ((k : Int) < (n1 : Int)) := by omega
   go_wp2
   go_ret
   exact ⟨RI.mk _, ex_⟩
set_option maxRecDepth 100000 in
set_option maxHeartbeats 4000000 in
theorem columns_any (s0 : ByteArray) (A1 K A3 A4 : Option Addr) (n1 m1 n2 kc n3 m3 n4 m4 : Nat) (cl : List Col) (w : World) (hn : cl.length = n1) (hC : Rd w 3 A1 n1 (cl.flatMap colc)) (hl : n1 ≤ 9223372036854775807) (hs : ∀ c ∈ cl, c.nm.size ≤ 9223372036854775807) : Calls Tryz.prog 76 #[.agg #[.string s0, .slice A1 n1 m1, .slice K n2 kc, .slice A3 n3 m3, .slice A4 n4 m4]] w fun e w' => RFb (n1 ≤ 12) e ∧ Ext w w' := by
 have HN := Lib.hid hn
 have HS := Lib.hid hs
 have HF := Lib.hid fun s W (e : Ext w W) => find_any s0 A1 K A3 A4 n1 m1 n2 kc n3 m3 n4 m4 cl s W hn (hC.ext e) hl
 clear hn hs
 by_cases h1 : n1 < 1
 ·
  have h1z : (n1 : Int) < 1 := by omega
  go_enter Tryz.func76, Tryz.ntmps76
  go_wp2
  go_ret
  exact ⟨RFb.mk _ (fun h => absurd h (by decide)), ex_⟩
 have h1z : ¬ (n1 : Int) < 1 := by omega
 by_cases h2 : 12 < n1
 ·
  have h2z : 12 < (n1 : Int) := by omega
  go_enter Tryz.func76, Tryz.ntmps76
  go_wp2
  go_ret
  exact ⟨RFb.mk _ (fun h => absurd h (by decide)), ex_⟩
 have h2z : ¬ 12 < (n1 : Int) := by omega
 go_enter Tryz.func76, Tryz.ntmps76
 go_wp2
 go_loopg [3, 4] n1 (fun g ix v4 wr => ∃ k : Nat, ix = .int .i64 k ∧ k ≤ n1 ∧ n1 - k ≤ g ∧ Ext (w.alloc (.cells #[.string s0, .slice A1 n1 m1, .slice K n2 kc, .slice A3 n3 m3, .slice A4 n4 m4] 27)) wr)
 case atStart => exact ⟨0, rfl, by omega, by omega, ex_⟩
 case round =>
  obtain ⟨k, rfl, hk, hg, hE⟩ := hrel
  have HE := Lib.hid hE
  obtain ⟨x, rfl⟩ := hE.get
  clear hE
  have HG := Lib.hid hg
  clear hg
  by_cases hlt : k < n1
  ·
   have hkz : (k : Int) < (n1 : Int) := by omega
   obtain ⟨cv, b, oo, hcv, rfl, hb, c0, c1, c2⟩ := hC.col HN.out hlt
   have HNM : Hid (∀ W, Calls Tryz.prog 75 #[.string cv.nm] W fun e w' => RB e ∧ Ext W w') := Lib.hid fun W => name_any cv.nm W (HS.out cv (List.mem_of_getElem? hcv))
   go_wp2_with fail
   refine (HNM.out _).mono ?_
   rintro e w1 ⟨⟨nb, rfl⟩, hb1⟩
   obtain ⟨x1, rfl⟩ := hb1.get
   clear hb1
   cases nb
   ·
    go_wp2
    go_ret
    exact ⟨RFb.mk _ (fun h => absurd h (by decide)), ex_⟩
   ·
    by_cases hk1 : cv.k < 1
    ·
     go_wp2
     go_ret
     exact ⟨RFb.mk _ (fun h => absurd h (by decide)), ex_⟩
    ·
     by_cases hk3 : 3 < cv.k
     ·
      go_wp2
      go_ret
      exact ⟨RFb.mk _ (fun h => absurd h (by decide)), ex_⟩
     ·
      go_wp2_with fail
      refine (HF.out _ _ (ex_)).mono ?_
      rintro e w1 ⟨⟨dk, rfl⟩, hb1⟩
      obtain ⟨x2, rfl⟩ := hb1.get
      clear hb1
      by_cases hd : dk < (k : Int)
      ·
       go_wp2
       go_ret
       exact ⟨RFb.mk _ (fun h => absurd h (by decide)), ex_⟩
      ·
       go_wp2
       go_roundg (gk - 1)
       case rel => exact ⟨k + 1, by go_num, by omega, by have := HG.out; omega, ex_⟩
       case measure => have := HG.out; omega
  ·
   have hkz : ¬ ((k : Int) < (n1 : Int)) := by omega
   go_wp2
   go_ret
   exact ⟨RFb.mk _ (fun _ => by omega), ex_⟩

set_option maxRecDepth 100000 in
set_option maxHeartbeats 4000000 in
theorem key_any (s0 : ByteArray) (A1 K A3 A4 : Option Addr) (n1 m1 n2 kc n3 m3 n4 m4 : Nat) (cl : List Col) (ks : List Int) (w : World) (hn : cl.length = n1) (hn2 : ks.length = n2) (hC : Rd w 3 A1 n1 (cl.flatMap colc)) (hK : Rd w 1 K n2 (ic ks)) (hl : n1 ≤ 9223372036854775807) (hl2 : n2 ≤ 9223372036854775807) : Calls Tryz.prog 77 #[.agg #[.string s0, .slice A1 n1 m1, .slice K n2 kc, .slice A3 n3 m3, .slice A4 n4 m4]] w fun e w' => RFb (n2 ≤ n1) e ∧ Ext w w' := by
 have HN := Lib.hid hn
 have HN2 := Lib.hid hn2
 clear hn hn2
 by_cases h1 : n2 = 0
 ·
  subst h1
  go_enter Tryz.func77, Tryz.ntmps77
  go_wp2
  go_ret
  exact ⟨RFb.mk _ (fun h => absurd h (by decide)), ex_⟩
 have h1z : ((n2 : Int) == 0) = false := beq_eq_false_iff_ne.2 (by omega)
 clear h1
 go_enter Tryz.func77, Tryz.ntmps77
 go_wp2
 go_loopg [3] n2 (fun g ix wr => ∃ k : Nat, ix = .int .i64 k ∧ k ≤ n2 ∧ n2 - k ≤ g ∧ Hid (k ≤ n1 ∧ ∀ v : Int, 0 < k → ks[k - 1]? = some v → (k : Int) ≤ v + 1) ∧ Ext (w.alloc (.cells #[.string s0, .slice A1 n1 m1, .slice K n2 kc, .slice A3 n3 m3, .slice A4 n4 m4] 27)) wr)
 case atStart => exact ⟨0, rfl, by omega, by omega, Lib.hid ⟨Nat.zero_le _, fun _ h => absurd h (by omega)⟩, ex_⟩
 case round =>
  obtain ⟨k, rfl, hk, hg, HI, hE⟩ := hrel
  have HE := Lib.hid hE
  obtain ⟨x, rfl⟩ := hE.get
  clear hE
  have HG := Lib.hid hg
  clear hg
  by_cases hlt : k < n2
  ·
   have hkz : (k : Int) < (n2 : Int) := by omega
   obtain ⟨kv, b, oo, hkv, hKe, hb, c0⟩ := hK.in1 HN2.out hlt
   have HEX : Hid (∀ W, Calls Tryz.prog 109 #[.agg #[.string s0, .slice A1 n1 m1, .slice (some ⟨b, oo, none⟩) n2 kc, .slice A3 n3 m3, .slice A4 n4 m4], .int .i64 kv] W fun e w' => e = .returned (.bool (exB n1 kv)) ∧ Ext W w') := Lib.hid fun W => exists_any s0 A1 (some ⟨b, oo, none⟩) A3 A4 n1 m1 n2 kc n3 m3 n4 m4 kv W
   rcases hex : exB n1 kv with _ | _
   ·
    rw [hex] at HEX
    subst hKe
    clear hex
    go_wp2_with fail
    refine wp_region_ext (by kernel_rfl) (by kernel_rfl) ?_
    repeat (first | go_big_quiet_step ((go_at_call 109; exact Calls.ext_of (HEX.out _))) | quiet_step ((go_at_call 109; exact Calls.ext_of (HEX.out _))))
    refine wpQuiet_nil ?_
    intro _ hw'
    obtain ⟨xq, hw''⟩ := hw'
    subst hw''
    go_wp2
    go_ret
    exact ⟨RFb.mk _ (fun h => absurd h (by decide)), ex_⟩
   ·
    rw [hex] at HEX
    have hkv0 : 0 ≤ kv ∧ kv < n1 := by simpa [exB] using hex
    clear hex
    obtain ⟨kn, rfl⟩ := Int.eq_ofNat_of_zero_le hkv0.1
    have hkn : kn < n1 := by omega
    obtain ⟨cv, b1, oo1, hcv, rfl, hb1, q0, q1, q2⟩ := hC.col HN.out hkn
    have hknz : (kn : Int) < (n1 : Int) := by omega
    clear hkv0
    by_cases hk0 : k = 0
    ·
     have HIN : Hid (k + 1 ≤ n1 ∧ ∀ v : Int, 0 < k + 1 → ks[k + 1 - 1]? = some v → ((k + 1 : Nat) : Int) ≤ v + 1) := Lib.hid ⟨by omega, fun v _ h => by rw [Nat.add_sub_cancel, hkv] at h; cases h; omega⟩
     have hk0z : ¬ (0 : Int) < (k : Int) := by omega
     have HK0 := Lib.hid hk0
     have q1 : decide (0 < k) = false := decide_eq_false (by omega)
     clear hk0
     subst hKe
     go_wp2_with fail
     refine wp_region_ext (by kernel_rfl) (by kernel_rfl) ?_
     repeat (first | go_big_quiet_step ((go_at_call 109; exact Calls.ext_of (HEX.out _))) | quiet_step ((go_at_call 109; exact Calls.ext_of (HEX.out _))) | simp only [q1])
     refine wpQuiet_nil ?_
     intro _ hw'
     obtain ⟨xq, hw''⟩ := hw'
     subst hw''
     rcases hnl : cv.nl with _ | _
     ·
      go_wp2_with fail
      refine wp_region_ext (by kernel_rfl) (by kernel_rfl) ?_
      repeat (first | go_big_quiet_step (fail) | quiet_step (fail))
      refine wpQuiet_nil ?_
      intro _ hw'
      obtain ⟨xq, hw''⟩ := hw'
      subst hw''
      go_wp2
      go_roundg (gk - 1)
      case rel => exact ⟨k + 1, by go_num, by omega, by have := HG.out; omega, HIN, ex_⟩
      case measure => have := HG.out; omega
     ·
      go_wp2_with fail
      refine wp_region_ext (by kernel_rfl) (by kernel_rfl) ?_
      repeat (first | go_big_quiet_step (fail) | quiet_step (fail))
      refine wpQuiet_nil ?_
      intro _ hw'
      obtain ⟨xq, hw''⟩ := hw'
      subst hw''
      go_wp2
      go_ret
      exact ⟨RFb.mk _ (fun h => absurd h (by decide)), ex_⟩
    ·
     obtain ⟨j, hj⟩ : ∃ j : Nat, (k : Int) - 1 = (j : Int) := ⟨k - 1, by omega⟩
     have hjn : (j : Int) < (n2 : Int) := by omega
     obtain ⟨pv, b2, oo2, hpv, hKe2, hb2, p0⟩ := hK.in1 HN2.out (show j < n2 by omega)
     have hE2 := hKe.symm.trans hKe2
     simp only [Option.some.injEq, Addr.mk.injEq, and_true] at hE2
     obtain ⟨rfl, rfl⟩ := hE2
     subst hKe
     have hj1 : IntKind.i64.wrap ((k : Int) - 1) = (j : Int) := by rw [IntWalk.i64_in _ (by omega)]; exact hj
     have hj2 : (0 : Int) < (k : Int) := by omega
     have q1 : decide (0 < k) = true := decide_eq_true (by omega)
     clear hk0
     by_cases hle : (kn : Int) ≤ pv
     ·
      go_wp2_with fail
      refine wp_region_ext (by kernel_rfl) (by kernel_rfl) ?_
      repeat (first | go_big_quiet_step ((go_at_call 109; exact Calls.ext_of (HEX.out _))) | quiet_step ((go_at_call 109; exact Calls.ext_of (HEX.out _))) | simp only [q1])
      refine wpQuiet_nil ?_
      intro _ hw'
      obtain ⟨xq, hw''⟩ := hw'
      subst hw''
      go_wp2
      go_ret
      exact ⟨RFb.mk _ (fun h => absurd h (by decide)), ex_⟩
     ·
      have HIN : Hid (k + 1 ≤ n1 ∧ ∀ v : Int, 0 < k + 1 → ks[k + 1 - 1]? = some v → ((k + 1 : Nat) : Int) ≤ v + 1) := Lib.hid (by
       have h1 := HI.out.2 pv (by omega) (by rw [show k - 1 = j from by omega]; exact hpv)
       exact ⟨by omega, fun v _ h => by rw [Nat.add_sub_cancel, hkv] at h; cases h; omega⟩)
      go_wp2_with fail
      refine wp_region_ext (by kernel_rfl) (by kernel_rfl) ?_
      repeat (first | go_big_quiet_step ((go_at_call 109; exact Calls.ext_of (HEX.out _))) | quiet_step ((go_at_call 109; exact Calls.ext_of (HEX.out _))) | simp only [q1])
      refine wpQuiet_nil ?_
      intro _ hw'
      obtain ⟨xq, hw''⟩ := hw'
      subst hw''
      rcases hnl : cv.nl with _ | _
      ·
       go_wp2_with fail
       refine wp_region_ext (by kernel_rfl) (by kernel_rfl) ?_
       repeat (first | go_big_quiet_step (fail) | quiet_step (fail))
       refine wpQuiet_nil ?_
       intro _ hw'
       obtain ⟨xq, hw''⟩ := hw'
       subst hw''
       go_wp2
       go_roundg (gk - 1)
       case rel => exact ⟨k + 1, by go_num, by omega, by have := HG.out; omega, HIN, ex_⟩
       case measure => have := HG.out; omega
      ·
       go_wp2_with fail
       refine wp_region_ext (by kernel_rfl) (by kernel_rfl) ?_
       repeat (first | go_big_quiet_step (fail) | quiet_step (fail))
       refine wpQuiet_nil ?_
       intro _ hw'
       obtain ⟨xq, hw''⟩ := hw'
       subst hw''
       go_wp2
       go_ret
       exact ⟨RFb.mk _ (fun h => absurd h (by decide)), ex_⟩
  ·
   have hkz : ¬ ((k : Int) < (n2 : Int)) := by omega
   go_wp2
   go_ret
   exact ⟨RFb.mk _ (fun _ => by have := HI.out.1; omega), ex_⟩

def KP (e : Ending) (w' : World) : Prop := ∃ (n c : Nat) (A : Option Addr) (l : List Int), e = .returned (.slice A n c) ∧ Hid (l.length = n) ∧ n ≤ 1048576 ∧ Hid (Rd w' 1 A n (ic l))
theorem KP.mk (w' : World) (n c : Nat) (A : Option Addr) (l : List Int) (h1 : l.length = n) (h2 : n ≤ 1048576) (h3 : Rd w' 1 A n (ic l)) : KP (.returned (.slice A n c)) w' := ⟨n, c, A, l, rfl, Lib.hid h1, h2, Lib.hid h3⟩
set_option maxRecDepth 100000 in
set_option maxHeartbeats 4000000 in
theorem kinds_any (s0 : ByteArray) (A1 K A3 A4 : Option Addr) (n1 m1 n2 kc n3 m3 n4 m4 : Nat) (cl : List Col) (w : World) (hn : cl.length = n1) (hC : Rd w 3 A1 n1 (cl.flatMap colc)) (hl : n1 ≤ 1048576) : Calls Tryz.prog 38 #[.agg #[.string s0, .slice A1 n1 m1, .slice K n2 kc, .slice A3 n3 m3, .slice A4 n4 m4]] w fun e w' => KP e w' ∧ Ext w w' := by
 have HN := Lib.hid hn
 clear hn
 go_enter Tryz.func38, Tryz.ntmps38
 go_wp2
 have hE0 : Ext (w.alloc (.cells #[.string s0, .slice A1 n1 m1, .slice K n2 kc, .slice A3 n3 m3, .slice A4 n4 m4] 27)) ((w.alloc (.cells #[.string s0, .slice A1 n1 m1, .slice K n2 kc, .slice A3 n3 m3, .slice A4 n4 m4] 27)).alloc (.cells #[] 3)) := ex_
 go_loopg [3, 4] n1 (fun g q ix wr => ∃ (k lc : Nat) (lA : Option Addr) (lk : List Int), q = .slice lA k lc ∧ ix = .int .i64 k ∧ k ≤ n1 ∧ n1 - k ≤ g ∧ Hid (lk.length = k) ∧ Hid (wr.ownsRow ((w.alloc (.cells #[.string s0, .slice A1 n1 m1, .slice K n2 kc, .slice A3 n3 m3, .slice A4 n4 m4] 27))).heap.size 3 1 (.slice lA k lc) k (ic lk)) ∧ Ext (w.alloc (.cells #[.string s0, .slice A1 n1 m1, .slice K n2 kc, .slice A3 n3 m3, .slice A4 n4 m4] 27)) wr)
 case atStart => refine ⟨0, 0, _, [], rfl, rfl, by omega, by omega, Lib.hid rfl, Lib.hid (own_lit0d _ _ _ (Nat.le_refl _) _ _ (by simp [size_ext])), hE0⟩
 case round =>
  obtain ⟨k, lc, lA, lk, rfl, rfl, hk, hg, HLK, HO, hE⟩ := hrel
  obtain ⟨x, rfl⟩ := hE.get
  have HG := Lib.hid hg
  clear hg
  by_cases hlt : k < n1
  ·
   have hkz : (k : Int) < (n1 : Int) := by omega
   obtain ⟨cv, b, oo, hcv, rfl, hb, c0, c1, c2⟩ := hC.col HN.out hlt
   go_wp2_with (at_builtin; (refine wpList_app _ rfl (.tmp 13) (.tmp 20) rfl elInt (w.alloc (.cells #[.string s0, .slice (some ⟨b, oo, none⟩) n1 m1, .slice K n2 kc, .slice A3 n3 m3, .slice A4 n4 m4] 27)) (ex_) _ k _ rfl (ownsRow_ext11 HO.out (ex_)) _ 1 1 [.int .i64 cv.k] rfl (Rd.lit _ #[.int .i64 cv.k] _ 1 1 rfl (by simp [size_ext])) (oneCell_ic [cv.k]) (by unfold maxLen; omega) (by omega) ?_; intro v1 x4 ho1 _))
   obtain ⟨A4', c4, rfl, hd1, hd2⟩ := Own.form ho1
   have HO4 := Lib.hid ho1
   clear ho1
   go_wp2
   go_roundg (gk - 1)
   case rel => exact ⟨k + 1, c4, A4', lk ++ [cv.k], rfl, by go_num, by omega, by have := HG.out; omega, Lib.hid (by rw [List.length_append, HLK.out]; rfl), Lib.hid (by rw [show ic (lk ++ [cv.k]) = ic lk ++ [.int .i64 cv.k] from List.map_append]; exact HO4.out), ex_⟩
   case measure => have := HG.out; omega
  ·
   have hkz : ¬ ((k : Int) < (n1 : Int)) := by omega
   go_wp2
   go_ret
   exact ⟨KP.mk _ k lc lA lk HLK.out (by omega) ((Rd.of_own HO.out).ext (ex_)), ex_⟩

set_option maxRecDepth 100000 in
set_option maxHeartbeats 4000000 in
theorem foreign_any (s0 : ByteArray) (A1 K A3 A4 : Option Addr) (n1 m1 n2 kc n3 m3 n4 m4 : Nat) (F : Option Addr) (nf fc : Nat) (fb : ByteArray) (fl : List Int) (w : World) (hnf : fl.length = nf) (hF : Rd w 1 F nf (ic fl)) (hl : nf ≤ 9223372036854775807) (hl1 : n1 ≤ 9223372036854775807) (hs : fb.size ≤ 9223372036854775807) : Calls Tryz.prog 110 #[.agg #[.string s0, .slice A1 n1 m1, .slice K n2 kc, .slice A3 n3 m3, .slice A4 n4 m4], .agg #[.slice F nf fc, .string fb]] w fun e w' => RF e ∧ Ext w w' := by
 have HNF := Lib.hid hnf
 have HNM := Lib.hid fun W => name_any fb W hs
 clear hnf
 go_enter Tryz.func110, Tryz.ntmps110
 go_wp2_with fail
 refine (HNM.out _).mono ?_
 rintro e w1 ⟨⟨nb, rfl⟩, hb1⟩
 obtain ⟨x1, rfl⟩ := hb1.get
 clear hb1
 cases nb
 ·
  go_wp2
  go_ret
  exact ⟨RF.mk _, ex_⟩
 rcases h1z : ((nf : Int) == 0) with _ | _
 case true =>
  go_wp2
  go_ret
  exact ⟨RF.mk _, ex_⟩
 go_wp2
 go_loopg [5, 6] nf (fun g ix v6 wr => ∃ k : Nat, ix = .int .i64 k ∧ k ≤ nf ∧ nf - k ≤ g ∧ Ext ((w.alloc (.cells #[.string s0, .slice A1 n1 m1, .slice K n2 kc, .slice A3 n3 m3, .slice A4 n4 m4] 27)).alloc (.cells #[.slice F nf fc, .string fb] 206)) wr)
 case atStart => exact ⟨0, rfl, by omega, by omega, ex_⟩
 case round =>
  obtain ⟨k, rfl, hk, hg, hE⟩ := hrel
  have HE := Lib.hid hE
  obtain ⟨x, rfl⟩ := hE.get
  clear hE
  have HG := Lib.hid hg
  clear hg
  by_cases hlt : k < nf
  ·
   have hkz : (k : Int) < (nf : Int) := by omega
   obtain ⟨fv, b, oo, hfv, rfl, hb, c0⟩ := hF.in1 HNF.out hlt
   have HEX := Lib.hid fun W => exists_any s0 A1 K A3 A4 n1 m1 n2 kc n3 m3 n4 m4 fv W
   rcases hex : exB n1 fv with _ | _
   ·
    rw [hex] at HEX
    clear hex
    go_wp2_with fail
    refine wp_region_ext (by kernel_rfl) (by kernel_rfl) ?_
    repeat (first | go_big_quiet_step ((go_at_call 109; exact Calls.ext_of (HEX.out _))) | quiet_step ((go_at_call 109; exact Calls.ext_of (HEX.out _))))
    refine wpQuiet_nil ?_
    intro _ hw'
    obtain ⟨xq, hw''⟩ := hw'
    subst hw''
    go_wp2
    go_ret
    exact ⟨RF.mk _, ex_⟩
   ·
    rw [hex] at HEX
    clear hex
    go_wp2_with fail
    refine wp_region_ext (by kernel_rfl) (by kernel_rfl) ?_
    repeat (first | go_big_quiet_step ((go_at_call 109; exact Calls.ext_of (HEX.out _))) | quiet_step ((go_at_call 109; exact Calls.ext_of (HEX.out _))))
    refine wpQuiet_nil ?_
    intro _ hw'
    obtain ⟨xq, hw''⟩ := hw'
    subst hw''
    have HKL := Lib.hid hlt
    obtain ⟨gO, rfl⟩ : ∃ g, g = gk := ⟨gk, rfl⟩
    go_wp2
    go_loopg [6] k (fun g2 iy wr2 => ∃ j : Nat, iy = .int .i64 j ∧ j ≤ k ∧ k - j ≤ g2 ∧ Ext ((w.alloc (.cells #[.string s0, .slice A1 n1 m1, .slice K n2 kc, .slice A3 n3 m3, .slice A4 n4 m4] 27)).alloc (.cells #[.slice (some ⟨b, oo, none⟩) nf fc, .string fb] 206)) wr2)
    case atStart => exact ⟨0, rfl, by omega, by omega, ex_⟩
    case round =>
     obtain ⟨j, rfl, hj, hg2, hE2⟩ := hrel
     obtain ⟨x2, rfl⟩ := hE2.get
     have HG2 := Lib.hid hg2
     clear hg2 hE2
     by_cases hjk : j < k
     ·
      have hjkz : (j : Int) < (k : Int) := by omega
      have hjn : (j : Int) < (nf : Int) := by omega
      obtain ⟨gv, b2, oo2, hgv, hFe, hb2, p0⟩ := hF.in1 HNF.out (show j < nf by omega)
      simp only [Option.some.injEq, Addr.mk.injEq, and_true] at hFe
      obtain ⟨rfl, rfl⟩ := hFe
      rcases hqq : (gv == fv) with _ | _
      ·
       go_wp2_with fail
       refine wp_region_ext (by kernel_rfl) (by kernel_rfl) ?_
       repeat (first | go_big_quiet_step (fail) | quiet_step (fail))
       refine wpQuiet_nil ?_
       intro _ hw'
       obtain ⟨xq, hw''⟩ := hw'
       subst hw''
       go_wp2
       go_roundg (gk - 1)
       case rel => exact ⟨j + 1, by go_num, by omega, by have := HG2.out; omega, ex_⟩
       case measure => have := HG2.out; omega
      ·
       go_wp2_with fail
       refine wp_region_ext (by kernel_rfl) (by kernel_rfl) ?_
       repeat (first | go_big_quiet_step (fail) | quiet_step (fail))
       refine wpQuiet_nil ?_
       intro _ hw'
       obtain ⟨xq, hw''⟩ := hw'
       subst hw''
       go_wp2
       go_ret
       exact ⟨RF.mk _, ex_⟩
     ·
      have hjkz : ¬ ((j : Int) < (k : Int)) := by omega
      go_wp2
      go_roundg (gO - 1)
      case rel => exact ⟨k + 1, by go_num, by omega, by have := HG.out; omega, ex_⟩
      case measure => have := HG.out; omega
  ·
   have hkz : ¬ ((k : Int) < (nf : Int)) := by omega
   go_wp2
   go_ret
   exact ⟨RF.mk _, ex_⟩

end Go.Proofs.YtdiaecgpjgdkdaaGreat

namespace Go.Proofs.YtdiaecgpjgdkdaaGreat
open Go.RowKit

structure TabOk (w : World) (A1 K A3 A4 : Option Addr) (n1 n2 n3 n4 : Nat) (cl : List Col) (ks : List Int) (fl : List Fo) (es : List Ex) (css : List (List Value)) : Prop where
 cn : cl.length = n1
 kn : ks.length = n2
 fn : fl.length = n3
 en : es.length = n4
 c : Rd w 3 A1 n1 (cl.flatMap colc)
 k : Rd w 1 K n2 (ic ks)
 f : Rd w 2 A3 n3 (fl.flatMap foc)
 e : Rd w 7 A4 n4 css.flatten
 re : REs w es css
 cs : ∀ c ∈ cl, c.nm.size ≤ 9223372036854775807
 fs : ∀ f ∈ fl, f.tb.size ≤ 9223372036854775807 ∧ f.c.l.length ≤ 9223372036854775807 ∧ Rd w 1 f.c.A f.c.l.length (ic f.c.l)
 cb : n1 ≤ 9223372036854775807
 kb : n2 ≤ 9223372036854775807
 fb : n3 ≤ 9223372036854775807
 eb : n4 ≤ 9223372036854775807
theorem TabOk.ext {w w' : World} {A1 K A3 A4 : Option Addr} {n1 n2 n3 n4 : Nat} {cl : List Col} {ks : List Int} {fl : List Fo} {es : List Ex} {css : List (List Value)} (h : TabOk w A1 K A3 A4 n1 n2 n3 n4 cl ks fl es css) (e : Ext w w') : TabOk w' A1 K A3 A4 n1 n2 n3 n4 cl ks fl es css :=
 ⟨h.cn, h.kn, h.fn, h.en, h.c.ext e, h.k.ext e, h.f.ext e, h.e.ext e, REs.ext e h.re, h.cs, fun f hf => ⟨(h.fs f hf).1, (h.fs f hf).2.1, (h.fs f hf).2.2.ext e⟩, h.cb, h.kb, h.fb, h.eb⟩
theorem checkE_n (K : Option Addr) (kc n : Nat) (ks : List Int) (hn : ks.length = n) (nk : n ≤ 9223372036854775807) (o i : Int) (v : Va) (nm : ByteArray) (A : Option Addr) (args : List Ex) (c : Nat) (css : List (List Value)) (w : World) (hsz : args.length ≤ 9223372036854775807) (hvt : v.t.size ≤ 9223372036854775807) (hR : Rd w 7 A args.length css.flatten) (hs : REs w args css) (hK : Rd w 1 K n (ic ks)) :
  Calls Tryz.prog 111 #[exag o i v nm A args.length c, .slice K n kc] w fun e w' => RKI e ∧ Ext w w' := by
 subst hn
 exact checkE_any K kc ks nk o i v nm A args c css w hsz hvt hR hs hK
set_option maxRecDepth 100000 in
set_option maxHeartbeats 4000000 in
theorem constraints_any (s0 : ByteArray) (A1 K A3 A4 : Option Addr) (n1 m1 n2 kc n3 m3 n4 m4 : Nat) (cl : List Col) (ks : List Int) (fl : List Fo) (es : List Ex) (css : List (List Value)) (w : World) (hT : TabOk w A1 K A3 A4 n1 n2 n3 n4 cl ks fl es css) (h12 : n1 ≤ 1048576) : Calls Tryz.prog 78 #[.agg #[.string s0, .slice A1 n1 m1, .slice K n2 kc, .slice A3 n3 m3, .slice A4 n4 m4]] w fun e w' => RF e ∧ Ext w w' := by
 have HT := Lib.hid hT
 have H12 := Lib.hid h12
 clear hT h12
 by_cases h1 : 4 < n3
 ·
  have h1z : 4 < (n3 : Int) := by omega
  go_enter Tryz.func78, Tryz.ntmps78
  go_wp2
  go_ret
  exact ⟨RF.mk _, ex_⟩
 have h1z : ¬ 4 < (n3 : Int) := by omega
 go_enter Tryz.func78, Tryz.ntmps78
 go_wp2
 go_loopg [3, 4] n3 (fun g ix v4 wr => ∃ k : Nat, ix = .int .i64 k ∧ k ≤ n3 ∧ n3 - k ≤ g ∧ Ext (w.alloc (.cells #[.string s0, .slice A1 n1 m1, .slice K n2 kc, .slice A3 n3 m3, .slice A4 n4 m4] 27)) wr)
 case atStart => exact ⟨0, rfl, by omega, by omega, ex_⟩
 case round =>
  obtain ⟨k, rfl, hk, hg, hE⟩ := hrel
  have HE := Lib.hid hE
  obtain ⟨x, rfl⟩ := hE.get
  clear hE
  have HG := Lib.hid hg
  clear hg
  by_cases hlt : k < n3
  ·
   have hkz : (k : Int) < (n3 : Int) := by omega
   obtain ⟨fv, b, oo, hfv, hA3, hb, q0, q1⟩ := HT.out.f.fo HT.out.fn hlt
   have HFO : Hid (∀ W, Ext w W → Calls Tryz.prog 110 #[.agg #[.string s0, .slice A1 n1 m1, .slice K n2 kc, .slice A3 n3 m3, .slice A4 n4 m4], .agg #[.slice fv.c.A fv.c.l.length fv.c.c, .string fv.tb]] W fun e w' => RF e ∧ Ext W w') := Lib.hid fun W e => by
    have h := HT.out.fs fv (List.mem_of_getElem? hfv)
    exact foreign_any s0 A1 K A3 A4 n1 m1 n2 kc n3 m3 n4 m4 fv.c.A fv.c.l.length fv.c.c fv.tb fv.c.l W rfl (h.2.2.ext e) h.2.1  HT.out.cb h.1
   clear hfv
   subst hA3
   go_wp2_with fail
   refine wp_region_held_drew (S := (fun w' => w'.cell? ⟨w.heap.size, 0, none⟩ = some (.string s0) ∧ w'.cell? ⟨w.heap.size, 1, none⟩ = some (.slice A1 n1 m1) ∧ w'.cell? ⟨w.heap.size, 2, none⟩ = some (.slice K n2 kc) ∧ w'.cell? ⟨w.heap.size, 3, none⟩ = some (.slice (some ⟨b, oo, none⟩) n3 m3) ∧ w'.cell? ⟨w.heap.size, 4, none⟩ = some (.slice A4 n4 m4) ∧ w'.cell? ⟨b, oo + k * 2, none⟩ = some (.slice fv.c.A fv.c.l.length fv.c.c) ∧ w'.cell? ⟨b, oo + k * 2 + 1, none⟩ = some (.string fv.tb))) (by kernel_rfl) (by simp [go_sem, ↓IntWalk.iteOmega, *]) (fun hHeld => ?_)
   refine tkH 0 ?oi1 (?v1) ?hi1 ?hy1 ?_
   case hi1 => (simp only [gA, gS, gZ]; try rfl)
   case hy1 => (refine Or.inl ⟨by rfl, ?_⟩; intro wq hSw; (try dsimp only at hSw); go_simp; (try with_reducible rfl))
   (try simp only [Act.put, pA, pZ, pS])
   refine tkH 1 ?oi2 (?v2) ?hi2 ?hy2 ?_
   case hi2 => (simp only [gA, gS, gZ]; try rfl)
   case hy2 => (refine Or.inl ⟨by rfl, ?_⟩; intro wq hSw; (try dsimp only at hSw); go_simp; (try with_reducible rfl))
   (try simp only [Act.put, pA, pZ, pS])
   refine tkH 2 ?oi3 (?v3) ?hi3 ?hy3 ?_
   case hi3 => (simp only [gA, gS, gZ]; try rfl)
   case hy3 => (refine Or.inl ⟨by rfl, ?_⟩; intro wq hSw; (try dsimp only at hSw); go_simp; (try with_reducible rfl))
   (try simp only [Act.put, pA, pZ, pS])
   refine tkH 3 ?oi4 (?v4) ?hi4 ?hy4 ?_
   case hi4 => (simp only [gA, gS, gZ]; try rfl)
   case hy4 => (refine Or.inl ⟨by rfl, ?_⟩; intro wq hSw; (try dsimp only at hSw); go_simp; (try with_reducible rfl))
   (try simp only [Act.put, pA, pZ, pS])
   refine tkH 4 ?oi5 (?v5) ?hi5 ?hy5 ?_
   case hi5 => (simp only [gA, gS, gZ]; try rfl)
   case hy5 => (refine Or.inl ⟨by rfl, ?_⟩; intro wq hSw; (try dsimp only at hSw); go_simp; (try with_reducible rfl))
   (try simp only [Act.put, pA, pZ, pS])
   refine tkH 5 ?oi6 (?v6) ?hi6 ?hy6 ?_
   case hi6 => (simp only [gA, gS, gZ]; try rfl)
   case hy6 => (refine Or.inl ⟨by rfl, ?_⟩; intro wq hSw; (try dsimp only at hSw); go_simp; (try with_reducible rfl))
   (try simp only [Act.put, pA, pZ, pS])
   refine wpAnyH_ready (rs := [6]) (by kernel_rfl) (by simp) ?_
   refine AllReadyH.cons (o := ?oi7) ?hi7 ?ti7 AllReadyH.nil
   case hi7 => (simp only [gA, gS, gZ]; try rfl)
   case ti7 =>
    intro KQ hKQ
    go_simp
    go_at_call 110
    refine Calls.mono (HFO.out _ (ex_)) ?_
    rintro e w1 ⟨⟨f, rfl⟩, hb1⟩
    obtain ⟨x1, rfl⟩ := hb1.get
    clear hb1
    refine hKQ.out _ _ (by simp [go_sem, ↓IntWalk.iteOmega, *]) (fun hHeld2 => ?_)
    clear hHeld hKQ KQ; have hHeld := hHeld2; clear hHeld2
    (try simp only [Act.put, pA, pZ, pS])
    refine tkH 7 ?oi8 (?v8) ?hi8 ?hy8 ?_
    case hi8 => (simp only [gA, gS, gZ]; try rfl)
    case hy8 => (refine Or.inl ⟨by rfl, ?_⟩; intro wq hSw; (try dsimp only at hSw); go_simp; (try with_reducible rfl))
    (try simp only [Act.put, pA, pZ, pS])
    refine wpAnyH_done (by kernel_rfl) ?_ _
    by_cases hf : f = 0
    ·
     subst hf
     go_wp2
     go_roundg (gk - 1)
     case rel => exact ⟨k + 1, by go_num, by omega, by have := HG.out; omega, ex_⟩
     case measure => have := HG.out; omega
    ·
     go_wp2
     go_ret
     exact ⟨RF.mk _, ex_⟩
  ·
   have hkz : ¬ ((k : Int) < (n3 : Int)) := by omega
   by_cases h2 : 4 < n4
   ·
    have h2z : 4 < (n4 : Int) := by omega
    go_wp2
    go_ret
    exact ⟨RF.mk _, ex_⟩
   have h2z : ¬ 4 < (n4 : Int) := by omega
   clear HG HE
   go_wp2
   go_loopg [5, 6, 7] n4 (fun g ix v6 v7 wr => ∃ k : Nat, ix = .int .i64 k ∧ k ≤ n4 ∧ n4 - k ≤ g ∧ Ext (w.alloc (.cells #[.string s0, .slice A1 n1 m1, .slice K n2 kc, .slice A3 n3 m3, .slice A4 n4 m4] 27)) wr)
   case atStart => exact ⟨0, rfl, by omega, by omega, ex_⟩
   case round =>
    obtain ⟨k, rfl, hk, hg, hE⟩ := hrel
    have HE := Lib.hid hE
    obtain ⟨x, rfl⟩ := hE.get
    clear hE
    have HG := Lib.hid hg
    clear hg
    by_cases hlt : k < n4
    ·
     have hkz : (k : Int) < (n4 : Int) := by omega
     obtain ⟨b, oo, hA4, hb, Ae, ce, cse, p0, p1, p2, p3, p4, p5, p6, p7, p8, p9, p10, p11, p12⟩ := RE.arg (by have h := HT.out.e; rw [← HT.out.en] at h; exact h) HT.out.re (show k < es.length by have := HT.out.en; omega)
     have hsz := szs_get es k (by have := HT.out.en; omega)
     obtain ⟨ev, hev⟩ : ∃ ev, es[k]'(by have := HT.out.en; omega) = ev := ⟨_, rfl⟩
     rw [hev] at p0 p1 p2 p3 p4 p5 p6 p7 p8 p9 p10 p11 p12 hsz
     have HCH : Hid (∀ W, Ext w W → ∀ (Ak : Option Addr) (ck nk : Nat) (lk : List Int), lk.length = nk → nk ≤ 1048576 → Rd W 1 Ak nk (ic lk) → Calls Tryz.prog 111 #[exag ev.op ev.i ev.v ev.nm Ae ev.args.length ce, .slice Ak nk ck] W fun e w' => RKI e ∧ Ext W w') := Lib.hid fun W e Ak ck nk lk h1 h2 h3 =>
      checkE_n Ak ck nk lk h1 (by omega) ev.op ev.i ev.v ev.nm Ae ev.args ce cse W p9 p7 (p11.ext e) (REs.ext e p12) h3
     have HKI : Hid (∀ W, Ext w W → Calls Tryz.prog 38 #[.agg #[.string s0, .slice A1 n1 m1, .slice K n2 kc, .slice A3 n3 m3, .slice A4 n4 m4]] W fun e w' => KP e w' ∧ Ext W w') := Lib.hid fun W e => kinds_any s0 A1 K A3 A4 n1 m1 n2 kc n3 m3 n4 m4 cl W HT.out.cn (HT.out.c.ext e)  H12.out
     clear hev hsz p7 p8 p9 p10 p11 p12
     subst hA4
     go_wp2_with fail
     refine wp_region_held_drew (S := (fun w' => w'.cell? ⟨w.heap.size, 0, none⟩ = some (.string s0) ∧ w'.cell? ⟨w.heap.size, 1, none⟩ = some (.slice A1 n1 m1) ∧ w'.cell? ⟨w.heap.size, 2, none⟩ = some (.slice K n2 kc) ∧ w'.cell? ⟨w.heap.size, 3, none⟩ = some (.slice A3 n3 m3) ∧ w'.cell? ⟨w.heap.size, 4, none⟩ = some (.slice (some ⟨b, oo, none⟩) n4 m4) ∧ w'.cell? ⟨b, oo + k * 7, none⟩ = some (.int .i64 ev.op) ∧ w'.cell? ⟨b, oo + k * 7 + 1, none⟩ = some (.int .i64 ev.i) ∧ w'.cell? ⟨b, oo + k * 7 + 2, none⟩ = some (.int .i64 ev.v.k) ∧ w'.cell? ⟨b, oo + k * 7 + 3, none⟩ = some (.int .i64 ev.v.i) ∧ w'.cell? ⟨b, oo + k * 7 + 4, none⟩ = some (.string ev.v.t) ∧ w'.cell? ⟨b, oo + k * 7 + 5, none⟩ = some (.string ev.nm) ∧ w'.cell? ⟨b, oo + k * 7 + 6, none⟩ = some (.slice Ae ev.args.length ce))) (by kernel_rfl) (by simp [go_sem, ↓IntWalk.iteOmega, *]) (fun hHeld => ?_)
     refine tkH 0 ?oi301 (?v301) ?hi301 ?hy301 ?_
     case hi301 => (simp only [gA, gS, gZ]; try rfl)
     case hy301 => (refine Or.inl ⟨by rfl, ?_⟩; intro wq hSw; (try dsimp only at hSw); go_simp; (try with_reducible rfl))
     (try simp only [Act.put, pA, pZ, pS])
     refine tkH 1 ?oi302 (?v302) ?hi302 ?hy302 ?_
     case hi302 => (simp only [gA, gS, gZ]; try rfl)
     case hy302 => (refine Or.inl ⟨by rfl, ?_⟩; intro wq hSw; (try dsimp only at hSw); go_simp; (try with_reducible rfl))
     (try simp only [Act.put, pA, pZ, pS])
     refine tkH 2 ?oi303 (?v303) ?hi303 ?hy303 ?_
     case hi303 => (simp only [gA, gS, gZ]; try rfl)
     case hy303 => (refine Or.inl ⟨by rfl, ?_⟩; intro wq hSw; (try dsimp only at hSw); go_simp; (try with_reducible rfl))
     (try simp only [Act.put, pA, pZ, pS])
     refine tkH 3 ?oi304 (?v304) ?hi304 ?hy304 ?_
     case hi304 => (simp only [gA, gS, gZ]; try rfl)
     case hy304 => (refine Or.inl ⟨by rfl, ?_⟩; intro wq hSw; (try dsimp only at hSw); go_simp; (try with_reducible rfl))
     (try simp only [Act.put, pA, pZ, pS])
     refine tkH 4 ?oi305 (?v305) ?hi305 ?hy305 ?_
     case hi305 => (simp only [gA, gS, gZ]; try rfl)
     case hy305 => (refine Or.inl ⟨by rfl, ?_⟩; intro wq hSw; (try dsimp only at hSw); go_simp; (try with_reducible rfl))
     (try simp only [Act.put, pA, pZ, pS])
     refine tkH 5 ?oi306 (?v306) ?hi306 ?hy306 ?_
     case hi306 => (simp only [gA, gS, gZ]; try rfl)
     case hy306 => (refine Or.inl ⟨by rfl, ?_⟩; intro wq hSw; (try dsimp only at hSw); go_simp; (try with_reducible rfl))
     (try simp only [Act.put, pA, pZ, pS])
     refine wpAnyH_ready (rs := [6]) (by kernel_rfl) (by simp) ?_
     refine AllReadyH.cons (o := ?oi307) ?hi307 ?ti307 AllReadyH.nil
     case hi307 => (simp only [gA, gS, gZ]; try rfl)
     case ti307 =>
      intro KQ hKQ
      go_simp
      go_at_call 38
      refine Calls.mono (HKI.out _ (ex_)) ?_
      rintro e w1 ⟨⟨nk, ck, Ak, lk, rfl, HLK, hnk, HRK⟩, hb1⟩
      obtain ⟨x1, rfl⟩ := hb1.get
      clear hb1
      refine hKQ.out _ _ (by simp [go_sem, ↓IntWalk.iteOmega, *]) (fun hHeld2 => ?_)
      clear hHeld hKQ KQ; have hHeld := hHeld2; clear hHeld2
      (try simp only [Act.put, pA, pZ, pS])
      refine wpAnyH_ready (rs := [7]) (by kernel_rfl) (by simp) ?_
      refine AllReadyH.cons (o := ?oi308) ?hi308 ?ti308 AllReadyH.nil
      case hi308 => (simp only [gA, gS, gZ]; try rfl)
      case ti308 =>
       intro KQ hKQ
       go_simp
       go_at_call 111
       refine Calls.mono (HCH.out _ (ex_) Ak ck nk lk HLK.out hnk (HRK.out.ext (ex_))) ?_
       rintro e w1 ⟨⟨ek1, ef, rfl⟩, hb1⟩
       obtain ⟨x2, rfl⟩ := hb1.get
       clear hb1
       refine hKQ.out _ _ (by simp [go_sem, ↓IntWalk.iteOmega, *]) (fun hHeld2 => ?_)
       clear hHeld hKQ KQ; have hHeld := hHeld2; clear hHeld2
       (try simp only [Act.put, pA, pZ, pS])
       refine tkH 8 ?oi309 (?v309) ?hi309 ?hy309 ?_
       case hi309 => (simp only [gA, gS, gZ]; try rfl)
       case hy309 => (refine Or.inl ⟨by rfl, ?_⟩; intro wq hSw; (try dsimp only at hSw); go_simp; (try with_reducible rfl))
       (try simp only [Act.put, pA, pZ, pS])
       refine tkH 9 ?oi310 (?v310) ?hi310 ?hy310 ?_
       case hi310 => (simp only [gA, gS, gZ]; try rfl)
       case hy310 => (refine Or.inl ⟨by rfl, ?_⟩; intro wq hSw; (try dsimp only at hSw); go_simp; (try with_reducible rfl))
       (try simp only [Act.put, pA, pZ, pS])
       refine tkH 10 ?oi311 (?v311) ?hi311 ?hy311 ?_
       case hi311 => (simp only [gA, gS, gZ]; try rfl)
       case hy311 => (refine Or.inl ⟨by rfl, ?_⟩; intro wq hSw; (try dsimp only at hSw); go_simp; (try with_reducible rfl))
       (try simp only [Act.put, pA, pZ, pS])
       refine tkH 11 ?oi312 (?v312) ?hi312 ?hy312 ?_
       case hi312 => (simp only [gA, gS, gZ]; try rfl)
       case hy312 => (refine Or.inl ⟨by rfl, ?_⟩; intro wq hSw; (try dsimp only at hSw); go_simp; (try with_reducible rfl))
       (try simp only [Act.put, pA, pZ, pS])
       refine tkH 12 ?oi313 (?v313) ?hi313 ?hy313 ?_
       case hi313 => (simp only [gA, gS, gZ]; try rfl)
       case hy313 => (refine Or.inl ⟨by rfl, ?_⟩; intro wq hSw; (try dsimp only at hSw); go_simp; (try with_reducible rfl))
       (try simp only [Act.put, pA, pZ, pS])
       refine wpAnyH_done (by kernel_rfl) ?_ _
       by_cases hf : ef = 0
       ·
        subst hf
        by_cases hk3 : ek1 = 3
        ·
         subst hk3
         go_wp2
         go_roundg (gk - 1)
         case rel => exact ⟨k + 1, by go_num, by omega, by have := HG.out; omega, ex_⟩
         case measure => have := HG.out; omega
        ·
         by_cases hk0 : ek1 = 0
         ·
          subst hk0
          go_wp2
          go_roundg (gk - 1)
          case rel => exact ⟨k + 1, by go_num, by omega, by have := HG.out; omega, ex_⟩
          case measure => have := HG.out; omega
         ·
          have g3 : (ek1 != 3) = true := bne_iff_ne.2 hk3
          have g0 : (ek1 != 0) = true := bne_iff_ne.2 hk0
          go_wp2
          go_ret
          exact ⟨RF.mk _, ex_⟩
       ·
        go_wp2
        go_ret
        exact ⟨RF.mk _, ex_⟩
    ·
     have hkz : ¬ ((k : Int) < (n4 : Int)) := by omega
     go_wp2
     go_ret
     exact ⟨RF.mk _, ex_⟩

set_option maxRecDepth 100000 in
set_option maxHeartbeats 4000000 in
theorem tcheck_any (s0 : ByteArray) (A1 K A3 A4 : Option Addr) (n1 m1 n2 kc n3 m3 n4 m4 : Nat) (cl : List Col) (ks : List Int) (fl : List Fo) (es : List Ex) (css : List (List Value)) (w : World) (hs0 : s0.size ≤ 9223372036854775807) (hT : TabOk w A1 K A3 A4 n1 n2 n3 n4 cl ks fl es css) : Calls Tryz.prog 36 #[.agg #[.string s0, .slice A1 n1 m1, .slice K n2 kc, .slice A3 n3 m3, .slice A4 n4 m4]] w fun e w' => RFb (n1 ≤ 12 ∧ n2 ≤ n1) e ∧ Ext w w' := by
 have HNM := Lib.hid fun W => name_any s0 W hs0
 have HCO := Lib.hid fun W (e : Ext w W) => columns_any s0 A1 K A3 A4 n1 m1 n2 kc n3 m3 n4 m4 cl W hT.cn (hT.c.ext e) hT.cb hT.cs
 have HKY := Lib.hid fun W (e : Ext w W) => key_any s0 A1 K A3 A4 n1 m1 n2 kc n3 m3 n4 m4 cl ks W hT.cn hT.kn (hT.c.ext e) (hT.k.ext e) hT.cb hT.kb
 have HCN := Lib.hid fun (h12 : n1 ≤ 1048576) W (e : Ext w W) => constraints_any s0 A1 K A3 A4 n1 m1 n2 kc n3 m3 n4 m4 cl ks fl es css W (hT.ext e) h12
 clear hT hs0
 go_enter Tryz.func36, Tryz.ntmps36
 go_wp2_with fail
 refine (HNM.out _).mono ?_
 rintro e w1 ⟨⟨nb, rfl⟩, hb1⟩
 obtain ⟨x1, rfl⟩ := hb1.get
 clear hb1
 cases nb
 ·
  go_wp2
  go_ret
  exact ⟨RFb.mk _ (fun h => absurd h (by decide)), ex_⟩
 go_wp2_with fail
 refine (HCO.out _ (ex_)).mono ?_
 rintro e w1 ⟨⟨f1, rfl, hf1⟩, hb1⟩
 obtain ⟨x2, rfl⟩ := hb1.get
 clear hb1
 have HF1 := Lib.hid hf1
 clear hf1
 by_cases h1 : f1 = 0
 ·
  subst h1
  have HG1 := Lib.hid (HF1.out rfl)
  clear HF1
  go_wp2_with fail
  refine (HKY.out _ (ex_)).mono ?_
  rintro e w1 ⟨⟨f2, rfl, hf2⟩, hb1⟩
  obtain ⟨x3, rfl⟩ := hb1.get
  clear hb1
  have HF2 := Lib.hid hf2
  clear hf2
  by_cases h2 : f2 = 0
  ·
   subst h2
   have HG2 := Lib.hid (HF2.out rfl)
   clear HF2
   go_wp2_with fail
   refine (HCN.out (by have := HG1.out; omega) _ (ex_)).mono ?_
   rintro e w1 ⟨⟨f3, rfl⟩, hb1⟩
   obtain ⟨x4, rfl⟩ := hb1.get
   clear hb1
   go_wp2
   go_ret
   exact ⟨RFb.mk _ (fun _ => ⟨HG1.out, HG2.out⟩), ex_⟩
  ·
   go_wp2
   go_ret
   exact ⟨RFb.mk _ (fun h => absurd h h2), ex_⟩
 ·
  go_wp2
  go_ret
  exact ⟨RFb.mk _ (fun h => absurd h h1), ex_⟩
end Go.Proofs.YtdiaecgpjgdkdaaGreat
