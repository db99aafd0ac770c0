/- Rows of bytes; keys as bytes. -/
import Derived.Test.YtahmkinppighkaaTpP
import Derived.Test.YtahmkinppighkaaOw2
import Derived.Lib.AppendStr
import Derived.Deep.LoopGhost
set_option linter.unusedSimpArgs false
set_option linter.unusedVariables false
namespace Go.Proofs.Ytahmkinppighkaa
open Go.RowKit


/-- the cells of bytes -/
def bcl (l : List UInt8) : List Value := l.map fun b => .int .u8 b.toNat
theorem bcl_length (l : List UInt8) : (bcl l).length = l.length := by simp [bcl]
theorem bcl_append (a b : List UInt8) : bcl (a ++ b) = bcl a ++ bcl b := by simp [bcl]
theorem oneCell_bcl (l : List UInt8) : ∀ u ∈ bcl l, u.oneCell' = true := by intro u hu; simp [bcl] at hu; obtain ⟨b, _, rfl⟩ := hu; rfl
theorem elU8 : El Try.prog 26 5 (.int .u8 0) 1 1 := ⟨Try.underlying26, info_parts (by kernel_rfl), rfl, by decide⟩
theorem strU : Try.prog.underlying 9 = some .string := Try.underlying9
theorem Rd.by8 {w : World} {A : Option Addr} {l : List UInt8} {n : Nat} (h : Rd w 1 A n (bcl l)) (hn : l.length = n) {k : Nat} (hk : k < n) :
    ∃ v b o, l[k]? = some v ∧ A = some ⟨b, o, none⟩ ∧ b < w.heap.size ∧ w.cell? ⟨b, o + k, none⟩ = some (.int .u8 v.toNat) := by
  have hk' : k < l.length := by omega
  obtain ⟨b, o, hA, hb, hc⟩ := h.2 (by omega)
  exact ⟨l[k], b, o, List.getElem?_eq_getElem hk', hA, hb, hc k _ (by simp [bcl, hk'])⟩
theorem Rd.val3 {w : World} {A : Option Addr} {l : List Va} {n : Nat} (h : Rd w 3 A n (vcl l)) (hn : l.length = n) {k : Nat} (hk : k < n) :
    ∃ v b o, l[k]? = some v ∧ A = some ⟨b, o, none⟩ ∧ b < w.heap.size ∧ w.cell? ⟨b, o + k * 3, none⟩ = some (.int .i64 v.k) ∧ w.cell? ⟨b, o + k * 3 + 1, none⟩ = some (.int .i64 v.i) ∧ w.cell? ⟨b, o + k * 3 + 2, none⟩ = some (.string v.t) := by
  subst hn
  obtain ⟨b, o, h1, h2, h3⟩ := h.val hk
  exact ⟨l[k], b, o, List.getElem?_eq_getElem hk, h1, h2, h3⟩
/-- append of a text to an owned row of bytes -/
theorem wpList_apps {P : Program} (w : World) {ops : Array Oper} {rest : List Oper} {o : Oper} {a : Act} {Q : Exit → Act → World → Prop} (hgd : o.guard = none) (s x : Operand) {t e u : TypeId}
    (ho : o.op = .call { callee := .builtin .append, args := #[s, x], argTypes := #[t, u] }) (E : El P t e (.int .u8 0) 1 1) (hu : P.underlying u = some .string) (W : World) (hW : Ext W w) (v : Value) (n : Nat) (xs : List Value) (hs : a.eval s = v) (hown : w.ownsRow W.heap.size e 1 v n xs)
    (tx : ByteArray) (hx : a.eval x = .string tx) (h63 : n + tx.size ≤ maxLen) (hbytes : n + tx.size ≤ 140737488355328)
    (h : ∀ v' x', Own W x' e 1 v' (n + tx.size) (xs ++ bcl tx.data.toList) → w.grownBy (ext W x') v.ownBlock → wpList P ops Q rest (a.put o.dst v') (ext W x')) : wpList P ops Q (o :: rest) a w := by
  obtain ⟨i, hi, hz, hsz, hb⟩ := E.hi
  refine Lib.wpList_append_own_string (w := w) hgd s x t u ho W.heap.size e i E.ht hu hi hz hsz hb v n xs hs hown tx hx h63 hbytes hW.size fun v' w' h2 h3 _ => ?_
  obtain ⟨x', rfl⟩ := ext_of_grown hW hown h3
  exact h v' x' h2 h3
theorem rkey_snoc {a : List Va} {k : Nat} {v : Va} (h : a[k]? = some v) : rkey (a.take (k + 1)) = rkey (a.take k) ++ vkey v := by
  rw [List.take_add_one, h]
  simp [rkey]
theorem be_at : ∀ (n u j : Nat), j < n → (be n u)[j]? = some (UInt8.ofNat (u / 256 ^ (n - 1 - j)))
  | 0, _, _, h => by omega
  | n + 1, u, 0, _ => by simp [be]
  | n + 1, u, j + 1, h => by
    rw [be, List.getElem?_cons_succ, be_at n u j (by omega)]
    congr 4
    omega
theorem be_snoc {n u j : Nat} (h : j < n) : (be n u).take (j + 1) = (be n u).take j ++ [UInt8.ofNat (u / 256 ^ (n - 1 - j))] := by
  rw [List.take_add_one, be_at n u j h]
  rfl
theorem u8c (u : Nat) : (Value.int IntKind.u8 ((UInt8.ofNat u).toNat : Int)) = .int .u8 ((u % 256 : Nat) : Int) := by simp


theorem ow8 {w w' : World} {base e size n : Nat} {v : Value} {xs : List Value} (h : w.ownsRow base e size v n xs) (hE : Ext w w') : w'.ownsRow base e size v n xs := by
  obtain ⟨x, rfl⟩ := hE.get
  exact own_ext h x
set_option maxRecDepth 100000 in
set_option maxHeartbeats 8000000 in
theorem key_any (A : Option Addr) (n c : Nat) (a : List Va) (w : World) (hn : a.length = n) (hA : Rd w 3 A n (vcl a)) (hl : n ≤ 12) (hv : ∀ v ∈ a, VaOk v) :
    Calls Try.prog 6 #[.slice A n c] w fun e w' => ∃ v', e = .returned v' ∧ Ext w w' ∧ w'.ownsRow w.heap.size 5 1 v' (rkey a).length (bcl (rkey a)) := by
  have HN := Lib.hid hn
  have HV := Lib.hid hv
  clear hn hv
  go_enter Try.func6, Try.ntmps6
  go_wp2
  go_loopg [3, 10] n (fun g q ix wr => ∃ (k m lc : Nat) (lA : Option Addr), q = .slice lA m lc ∧ ix = .int .i64 k ∧ k ≤ n ∧ n - k ≤ g ∧ m ≤ k * 202 ∧ Hid (m = (rkey (a.take k)).length) ∧ Hid (wr.ownsRow w.heap.size 5 1 (.slice lA m lc) m (bcl (rkey (a.take k)))) ∧ Ext w wr)
  case atStart => exact ⟨0, 0, 0, none, rfl, rfl, by omega, by omega, by omega, Lib.hid (by simp [rkey]), Lib.hid (by simp [rkey, bcl]; exact World.ownsRow_nil _ _ _ _), by repeat (first | exact Ext.refl' _ | assumption | apply Ext.ex' | apply Ext.al | apply Ext.drN | apply Ext.dr)⟩
  case round =>
    obtain ⟨k, m, lc, lA, rfl, rfl, hk, hg, hm, HM, HO, hE⟩ := hrel
    obtain ⟨x, rfl⟩ := hE.get
    have HG := Lib.hid hg
    clear hg hE
    by_cases hlt : k < n
    · have hkz : (k : Int) < (n : Int) := by omega
      obtain ⟨v, b, oo, hvk, rfl, hb, c0, c1, c2⟩ := hA.val3 HN.out hlt
      have HVK := Lib.hid hvk
      have HOK := Lib.hid (HV.out v (List.mem_of_getElem? hvk))
      clear hvk
      obtain ⟨vk, vi, vt⟩ := v
      rcases HOK.out with ⟨h1, h2, h3⟩ | ⟨h1, h2, h3, h4⟩ | ⟨h1, h2, h3, h4⟩ | ⟨h1, h2, h3⟩
      · have h1 : vk = 0 := h1
        subst h1
        clear h2 h3
        go_wp2_with (at_builtin; (refine wpList_app _ rfl (.tmp 16) (.tmp 17) rfl elU8 w (by repeat (first | exact Ext.refl' _ | assumption | apply Ext.ex' | apply Ext.al | apply Ext.drN | apply Ext.dr)) _ m _ rfl (ow8 HO.out (by repeat (first | exact Ext.refl' _ | assumption | apply Ext.ex' | apply Ext.al | apply Ext.drN | apply Ext.dr))) _ 1 1 _ rfl (Rd.lit _ #[.int .u8 1] _ 1 1 rfl (by simp [size_ext])) (by intro u hu; simp at hu; first | (rcases hu with rfl | rfl <;> rfl) | (subst hu; rfl)) (by unfold maxLen; omega) (by omega) ?_; intro v1 x1 hox1 _))
        obtain ⟨Ax1, cx1, rfl, hdx1, hex1⟩ := Own.form hox1
        have HOx1 := Lib.hid hox1
        clear hox1
        go_wp2
        go_roundg (gk - 1)
        case rel => exact ⟨k + 1, _, cx1, Ax1, rfl, by go_num, by omega, by have := HG.out; omega, by omega, Lib.hid (by rw [rkey_snoc HVK.out, List.length_append, ← HM.out]; rfl), Lib.hid (by rw [rkey_snoc HVK.out, bcl_append]; exact HOx1.out), by repeat (first | exact Ext.refl' _ | assumption | apply Ext.ex' | apply Ext.al | apply Ext.drN | apply Ext.dr)⟩
        case measure => have := HG.out; omega
      · have h1 : vk = 1 := h1
        subst h1
        have hi1 : -1125899906842624 ≤ vi := h3
        have hi2 : vi ≤ 1125899906842624 := h4
        obtain ⟨U, hU⟩ : ∃ U : Nat, (U : Int) = vi + 9223372036854775808 := ⟨(vi + 9223372036854775808).toNat, by omega⟩
        have hw : IntKind.u64.wrap (IntKind.u64.wrap vi + 9223372036854775808) = (U : Int) := by rw [IntKind.wrap_u64, IntKind.wrap_u64]; omega
        have HU := Lib.hid hU
        have hU64 : U < 18446744073709551616 := by omega
        clear h2 h3 h4 hU
        go_wp2_with (at_builtin; (refine wpList_app _ rfl (.tmp 25) (.tmp 26) rfl elU8 w (by repeat (first | exact Ext.refl' _ | assumption | apply Ext.ex' | apply Ext.al | apply Ext.drN | apply Ext.dr)) _ m _ rfl (ow8 HO.out (by repeat (first | exact Ext.refl' _ | assumption | apply Ext.ex' | apply Ext.al | apply Ext.drN | apply Ext.dr))) _ 1 1 _ rfl (Rd.lit _ #[.int .u8 2] _ 1 1 rfl (by simp [size_ext])) (by intro u hu; simp at hu; first | (rcases hu with rfl | rfl <;> rfl) | (subst hu; rfl)) (by unfold maxLen; omega) (by omega) ?_; intro v1 x1 hox1 _))
        obtain ⟨Ax1, cx1, rfl, hdx1, hex1⟩ := Own.form hox1
        have HOx1 := Lib.hid hox1
        clear hox1
        clear hw
        obtain ⟨gO, rfl⟩ : ∃ g, g = gk := ⟨gk, rfl⟩
        have HKL := Lib.hid hlt
        go_wp2
        go_loopg [3, 7] 8 (fun g2 q2 iy wr2 => ∃ (j m2 lc2 : Nat) (lA2 : Option Addr), q2 = .slice lA2 m2 lc2 ∧ iy = .int .i64 (56 - 8 * (j : Int)) ∧ j ≤ 8 ∧ 8 - j ≤ g2 ∧ m2 = m + 1 + j ∧ Hid (wr2.ownsRow w.heap.size 5 1 (.slice lA2 m2 lc2) m2 (bcl (rkey (a.take k)) ++ bcl (2 :: (be 8 U).take j))) ∧ Ext w wr2)
        case atStart => exact ⟨0, m + 1, _, _, rfl, rfl, by omega, by omega, by omega, HOx1, by repeat (first | exact Ext.refl' _ | assumption | apply Ext.ex' | apply Ext.al | apply Ext.drN | apply Ext.dr)⟩
        case round =>
          obtain ⟨j, m2, lc2, lA2, rfl, rfl, hj, hg2, hm2, HO2, hE2⟩ := hrel
          obtain ⟨x2, rfl⟩ := hE2.get
          have HG2 := Lib.hid hg2
          clear hg2 hE2
          rcases Nat.lt_or_ge j 8 with hj8 | hj8
          · have HBS := Lib.hid (be_snoc (n := 8) (u := U) hj8)
            have hj' : j = 0 ∨ j = 1 ∨ j = 2 ∨ j = 3 ∨ j = 4 ∨ j = 5 ∨ j = 6 ∨ j = 7 := by omega
            rcases hj' with rfl | rfl | rfl | rfl | rfl | rfl | rfl | rfl
            · obtain ⟨z, hz⟩ : ∃ z : UInt8, z = UInt8.ofNat (U / 256 ^ (8 - 1 - 0)) := ⟨_, rfl⟩
              have hw : IntKind.u8.wrap ((U : Int) / 72057594037927936) = (z.toNat : Int) := by
                rw [hz, IntKind.wrap_u8]
                first | (simp; done) | (simp; omega)
              have HZ := Lib.hid hz
              clear hz
              go_wp2_with (at_builtin; (refine wpList_app _ rfl (.tmp 32) (.tmp 37) rfl elU8 w (by repeat (first | exact Ext.refl' _ | assumption | apply Ext.ex' | apply Ext.al | apply Ext.drN | apply Ext.dr)) _ m2 _ rfl (ow8 HO2.out (by repeat (first | exact Ext.refl' _ | assumption | apply Ext.ex' | apply Ext.al | apply Ext.drN | apply Ext.dr))) _ 1 1 _ rfl (Rd.lit _ #[.int .u8 z.toNat] _ 1 1 rfl (by simp [size_ext])) (by intro u hu; simp at hu; first | (rcases hu with rfl | rfl <;> rfl) | (subst hu; rfl)) (by unfold maxLen; omega) (by omega) ?_; intro v3 x3 hox3 _))
              obtain ⟨Ax3, cx3, rfl, hdx3, hex3⟩ := Own.form hox3
              have HOx3 := Lib.hid hox3
              clear hox3
              go_wp2
              go_roundg (gk - 1)
              case rel => exact ⟨1, _, cx3, Ax3, rfl, by go_num, by omega, by have := HG2.out; omega, by omega, Lib.hid (by
                have h := HOx3.out
                rw [HBS.out, ← HZ.out, ← List.cons_append, bcl_append, ← List.append_assoc]
                exact h), by repeat (first | exact Ext.refl' _ | assumption | apply Ext.ex' | apply Ext.al | apply Ext.drN | apply Ext.dr)⟩
              case measure => have := HG2.out; omega
            · obtain ⟨z, hz⟩ : ∃ z : UInt8, z = UInt8.ofNat (U / 256 ^ (8 - 1 - 1)) := ⟨_, rfl⟩
              have hw : IntKind.u8.wrap ((U : Int) / 281474976710656) = (z.toNat : Int) := by
                rw [hz, IntKind.wrap_u8]
                first | (simp; done) | (simp; omega)
              have HZ := Lib.hid hz
              clear hz
              go_wp2_with (at_builtin; (refine wpList_app _ rfl (.tmp 32) (.tmp 37) rfl elU8 w (by repeat (first | exact Ext.refl' _ | assumption | apply Ext.ex' | apply Ext.al | apply Ext.drN | apply Ext.dr)) _ m2 _ rfl (ow8 HO2.out (by repeat (first | exact Ext.refl' _ | assumption | apply Ext.ex' | apply Ext.al | apply Ext.drN | apply Ext.dr))) _ 1 1 _ rfl (Rd.lit _ #[.int .u8 z.toNat] _ 1 1 rfl (by simp [size_ext])) (by intro u hu; simp at hu; first | (rcases hu with rfl | rfl <;> rfl) | (subst hu; rfl)) (by unfold maxLen; omega) (by omega) ?_; intro v3 x3 hox3 _))
              obtain ⟨Ax3, cx3, rfl, hdx3, hex3⟩ := Own.form hox3
              have HOx3 := Lib.hid hox3
              clear hox3
              go_wp2
              go_roundg (gk - 1)
              case rel => exact ⟨2, _, cx3, Ax3, rfl, by go_num, by omega, by have := HG2.out; omega, by omega, Lib.hid (by
                have h := HOx3.out
                rw [HBS.out, ← HZ.out, ← List.cons_append, bcl_append, ← List.append_assoc]
                exact h), by repeat (first | exact Ext.refl' _ | assumption | apply Ext.ex' | apply Ext.al | apply Ext.drN | apply Ext.dr)⟩
              case measure => have := HG2.out; omega
            · obtain ⟨z, hz⟩ : ∃ z : UInt8, z = UInt8.ofNat (U / 256 ^ (8 - 1 - 2)) := ⟨_, rfl⟩
              have hw : IntKind.u8.wrap ((U : Int) / 1099511627776) = (z.toNat : Int) := by
                rw [hz, IntKind.wrap_u8]
                first | (simp; done) | (simp; omega)
              have HZ := Lib.hid hz
              clear hz
              go_wp2_with (at_builtin; (refine wpList_app _ rfl (.tmp 32) (.tmp 37) rfl elU8 w (by repeat (first | exact Ext.refl' _ | assumption | apply Ext.ex' | apply Ext.al | apply Ext.drN | apply Ext.dr)) _ m2 _ rfl (ow8 HO2.out (by repeat (first | exact Ext.refl' _ | assumption | apply Ext.ex' | apply Ext.al | apply Ext.drN | apply Ext.dr))) _ 1 1 _ rfl (Rd.lit _ #[.int .u8 z.toNat] _ 1 1 rfl (by simp [size_ext])) (by intro u hu; simp at hu; first | (rcases hu with rfl | rfl <;> rfl) | (subst hu; rfl)) (by unfold maxLen; omega) (by omega) ?_; intro v3 x3 hox3 _))
              obtain ⟨Ax3, cx3, rfl, hdx3, hex3⟩ := Own.form hox3
              have HOx3 := Lib.hid hox3
              clear hox3
              go_wp2
              go_roundg (gk - 1)
              case rel => exact ⟨3, _, cx3, Ax3, rfl, by go_num, by omega, by have := HG2.out; omega, by omega, Lib.hid (by
                have h := HOx3.out
                rw [HBS.out, ← HZ.out, ← List.cons_append, bcl_append, ← List.append_assoc]
                exact h), by repeat (first | exact Ext.refl' _ | assumption | apply Ext.ex' | apply Ext.al | apply Ext.drN | apply Ext.dr)⟩
              case measure => have := HG2.out; omega
            · obtain ⟨z, hz⟩ : ∃ z : UInt8, z = UInt8.ofNat (U / 256 ^ (8 - 1 - 3)) := ⟨_, rfl⟩
              have hw : IntKind.u8.wrap ((U : Int) / 4294967296) = (z.toNat : Int) := by
                rw [hz, IntKind.wrap_u8]
                first | (simp; done) | (simp; omega)
              have HZ := Lib.hid hz
              clear hz
              go_wp2_with (at_builtin; (refine wpList_app _ rfl (.tmp 32) (.tmp 37) rfl elU8 w (by repeat (first | exact Ext.refl' _ | assumption | apply Ext.ex' | apply Ext.al | apply Ext.drN | apply Ext.dr)) _ m2 _ rfl (ow8 HO2.out (by repeat (first | exact Ext.refl' _ | assumption | apply Ext.ex' | apply Ext.al | apply Ext.drN | apply Ext.dr))) _ 1 1 _ rfl (Rd.lit _ #[.int .u8 z.toNat] _ 1 1 rfl (by simp [size_ext])) (by intro u hu; simp at hu; first | (rcases hu with rfl | rfl <;> rfl) | (subst hu; rfl)) (by unfold maxLen; omega) (by omega) ?_; intro v3 x3 hox3 _))
              obtain ⟨Ax3, cx3, rfl, hdx3, hex3⟩ := Own.form hox3
              have HOx3 := Lib.hid hox3
              clear hox3
              go_wp2
              go_roundg (gk - 1)
              case rel => exact ⟨4, _, cx3, Ax3, rfl, by go_num, by omega, by have := HG2.out; omega, by omega, Lib.hid (by
                have h := HOx3.out
                rw [HBS.out, ← HZ.out, ← List.cons_append, bcl_append, ← List.append_assoc]
                exact h), by repeat (first | exact Ext.refl' _ | assumption | apply Ext.ex' | apply Ext.al | apply Ext.drN | apply Ext.dr)⟩
              case measure => have := HG2.out; omega
            · obtain ⟨z, hz⟩ : ∃ z : UInt8, z = UInt8.ofNat (U / 256 ^ (8 - 1 - 4)) := ⟨_, rfl⟩
              have hw : IntKind.u8.wrap ((U : Int) / 16777216) = (z.toNat : Int) := by
                rw [hz, IntKind.wrap_u8]
                first | (simp; done) | (simp; omega)
              have HZ := Lib.hid hz
              clear hz
              go_wp2_with (at_builtin; (refine wpList_app _ rfl (.tmp 32) (.tmp 37) rfl elU8 w (by repeat (first | exact Ext.refl' _ | assumption | apply Ext.ex' | apply Ext.al | apply Ext.drN | apply Ext.dr)) _ m2 _ rfl (ow8 HO2.out (by repeat (first | exact Ext.refl' _ | assumption | apply Ext.ex' | apply Ext.al | apply Ext.drN | apply Ext.dr))) _ 1 1 _ rfl (Rd.lit _ #[.int .u8 z.toNat] _ 1 1 rfl (by simp [size_ext])) (by intro u hu; simp at hu; first | (rcases hu with rfl | rfl <;> rfl) | (subst hu; rfl)) (by unfold maxLen; omega) (by omega) ?_; intro v3 x3 hox3 _))
              obtain ⟨Ax3, cx3, rfl, hdx3, hex3⟩ := Own.form hox3
              have HOx3 := Lib.hid hox3
              clear hox3
              go_wp2
              go_roundg (gk - 1)
              case rel => exact ⟨5, _, cx3, Ax3, rfl, by go_num, by omega, by have := HG2.out; omega, by omega, Lib.hid (by
                have h := HOx3.out
                rw [HBS.out, ← HZ.out, ← List.cons_append, bcl_append, ← List.append_assoc]
                exact h), by repeat (first | exact Ext.refl' _ | assumption | apply Ext.ex' | apply Ext.al | apply Ext.drN | apply Ext.dr)⟩
              case measure => have := HG2.out; omega
            · obtain ⟨z, hz⟩ : ∃ z : UInt8, z = UInt8.ofNat (U / 256 ^ (8 - 1 - 5)) := ⟨_, rfl⟩
              have hw : IntKind.u8.wrap ((U : Int) / 65536) = (z.toNat : Int) := by
                rw [hz, IntKind.wrap_u8]
                first | (simp; done) | (simp; omega)
              have HZ := Lib.hid hz
              clear hz
              go_wp2_with (at_builtin; (refine wpList_app _ rfl (.tmp 32) (.tmp 37) rfl elU8 w (by repeat (first | exact Ext.refl' _ | assumption | apply Ext.ex' | apply Ext.al | apply Ext.drN | apply Ext.dr)) _ m2 _ rfl (ow8 HO2.out (by repeat (first | exact Ext.refl' _ | assumption | apply Ext.ex' | apply Ext.al | apply Ext.drN | apply Ext.dr))) _ 1 1 _ rfl (Rd.lit _ #[.int .u8 z.toNat] _ 1 1 rfl (by simp [size_ext])) (by intro u hu; simp at hu; first | (rcases hu with rfl | rfl <;> rfl) | (subst hu; rfl)) (by unfold maxLen; omega) (by omega) ?_; intro v3 x3 hox3 _))
              obtain ⟨Ax3, cx3, rfl, hdx3, hex3⟩ := Own.form hox3
              have HOx3 := Lib.hid hox3
              clear hox3
              go_wp2
              go_roundg (gk - 1)
              case rel => exact ⟨6, _, cx3, Ax3, rfl, by go_num, by omega, by have := HG2.out; omega, by omega, Lib.hid (by
                have h := HOx3.out
                rw [HBS.out, ← HZ.out, ← List.cons_append, bcl_append, ← List.append_assoc]
                exact h), by repeat (first | exact Ext.refl' _ | assumption | apply Ext.ex' | apply Ext.al | apply Ext.drN | apply Ext.dr)⟩
              case measure => have := HG2.out; omega
            · obtain ⟨z, hz⟩ : ∃ z : UInt8, z = UInt8.ofNat (U / 256 ^ (8 - 1 - 6)) := ⟨_, rfl⟩
              have hw : IntKind.u8.wrap ((U : Int) / 256) = (z.toNat : Int) := by
                rw [hz, IntKind.wrap_u8]
                first | (simp; done) | (simp; omega)
              have HZ := Lib.hid hz
              clear hz
              go_wp2_with (at_builtin; (refine wpList_app _ rfl (.tmp 32) (.tmp 37) rfl elU8 w (by repeat (first | exact Ext.refl' _ | assumption | apply Ext.ex' | apply Ext.al | apply Ext.drN | apply Ext.dr)) _ m2 _ rfl (ow8 HO2.out (by repeat (first | exact Ext.refl' _ | assumption | apply Ext.ex' | apply Ext.al | apply Ext.drN | apply Ext.dr))) _ 1 1 _ rfl (Rd.lit _ #[.int .u8 z.toNat] _ 1 1 rfl (by simp [size_ext])) (by intro u hu; simp at hu; first | (rcases hu with rfl | rfl <;> rfl) | (subst hu; rfl)) (by unfold maxLen; omega) (by omega) ?_; intro v3 x3 hox3 _))
              obtain ⟨Ax3, cx3, rfl, hdx3, hex3⟩ := Own.form hox3
              have HOx3 := Lib.hid hox3
              clear hox3
              go_wp2
              go_roundg (gk - 1)
              case rel => exact ⟨7, _, cx3, Ax3, rfl, by go_num, by omega, by have := HG2.out; omega, by omega, Lib.hid (by
                have h := HOx3.out
                rw [HBS.out, ← HZ.out, ← List.cons_append, bcl_append, ← List.append_assoc]
                exact h), by repeat (first | exact Ext.refl' _ | assumption | apply Ext.ex' | apply Ext.al | apply Ext.drN | apply Ext.dr)⟩
              case measure => have := HG2.out; omega
            · obtain ⟨z, hz⟩ : ∃ z : UInt8, z = UInt8.ofNat (U / 256 ^ (8 - 1 - 7)) := ⟨_, rfl⟩
              have hw : IntKind.u8.wrap (U : Int) = (z.toNat : Int) := by
                rw [hz, IntKind.wrap_u8]
                first | (simp; done) | (simp; omega)
              have HZ := Lib.hid hz
              clear hz
              go_wp2_with (at_builtin; (refine wpList_app _ rfl (.tmp 32) (.tmp 37) rfl elU8 w (by repeat (first | exact Ext.refl' _ | assumption | apply Ext.ex' | apply Ext.al | apply Ext.drN | apply Ext.dr)) _ m2 _ rfl (ow8 HO2.out (by repeat (first | exact Ext.refl' _ | assumption | apply Ext.ex' | apply Ext.al | apply Ext.drN | apply Ext.dr))) _ 1 1 _ rfl (Rd.lit _ #[.int .u8 z.toNat] _ 1 1 rfl (by simp [size_ext])) (by intro u hu; simp at hu; first | (rcases hu with rfl | rfl <;> rfl) | (subst hu; rfl)) (by unfold maxLen; omega) (by omega) ?_; intro v3 x3 hox3 _))
              obtain ⟨Ax3, cx3, rfl, hdx3, hex3⟩ := Own.form hox3
              have HOx3 := Lib.hid hox3
              clear hox3
              go_wp2
              go_roundg (gk - 1)
              case rel => exact ⟨8, _, cx3, Ax3, rfl, by go_num, by omega, by have := HG2.out; omega, by omega, Lib.hid (by
                have h := HOx3.out
                rw [HBS.out, ← HZ.out, ← List.cons_append, bcl_append, ← List.append_assoc]
                exact h), by repeat (first | exact Ext.refl' _ | assumption | apply Ext.ex' | apply Ext.al | apply Ext.drN | apply Ext.dr)⟩
              case measure => have := HG2.out; omega
          · obtain rfl : j = 8 := by omega
            have HO3 : Hid ((ext w x2).ownsRow w.heap.size 5 1 (.slice lA2 m2 lc2) m2 (bcl (rkey (a.take k)) ++ bcl (2 :: be 8 U))) := Lib.hid (by
              have h := HO2.out
              rwa [List.take_of_length_le (l := be 8 U) (Nat.le_of_eq (be_length 8 U))] at h)
            have HKY : Hid (vkey ⟨1, vi, vt⟩ = 2 :: be 8 U) := Lib.hid (by
              show (2 :: be 8 (vi + 9223372036854775808).toNat) = _
              rw [show (vi + 9223372036854775808).toNat = U from by have := HU.out; omega])
            clear HO2
            go_wp2
            go_roundg (gO - 1)
            case rel => exact ⟨k + 1, m2, lc2, lA2, rfl, by go_num, by omega, by have := HG.out; omega, by omega, Lib.hid (by rw [rkey_snoc HVK.out, List.length_append, ← HM.out, HKY.out, List.length_cons, be_length]; omega), Lib.hid (by rw [rkey_snoc HVK.out, bcl_append, HKY.out]; exact HO3.out), by repeat (first | exact Ext.refl' _ | assumption | apply Ext.ex' | apply Ext.al | apply Ext.drN | apply Ext.dr)⟩
            case measure => have := HG.out; omega
      · have h1 : vk = 2 := h1
        subst h1
        have hts : vt.size ≤ 200 := h3
        clear h2 h3 h4
        go_wp2_with (at_builtin; first
          | (refine wpList_app _ rfl (.tmp 41) (.tmp 42) rfl elU8 w (by repeat (first | exact Ext.refl' _ | assumption | apply Ext.ex' | apply Ext.al | apply Ext.drN | apply Ext.dr)) _ m _ rfl (ow8 HO.out (by repeat (first | exact Ext.refl' _ | assumption | apply Ext.ex' | apply Ext.al | apply Ext.drN | apply Ext.dr))) _ 1 1 _ rfl (Rd.lit _ #[.int .u8 3] _ 1 1 rfl (by simp [size_ext])) (by intro u hu; simp at hu; first | (rcases hu with rfl | rfl <;> rfl) | (subst hu; rfl)) (by unfold maxLen; omega) (by omega) ?_
             intro v1 x1 ho1 hg1
             have hc2 : (((ext w x).alloc (.cells #[.int .i64 2, .int .i64 vi, .string vt] 24)).alloc (.cells #[.int .u8 3] 5)).cell? ⟨w.heap.size + x.n, 2, none⟩ = some (.string vt) := cell_al (by rw [World.cell?_alloc_at _ _ _ _ (by simp [size_ext])]; rfl)
             have hc3 : (extR w x1).cell? ⟨w.heap.size + x.n, 2, none⟩ = some (.string vt) := grown_cell hg1 hc2 (own_ne HO.out (Nat.le_refl _))
             have hs3 : w.heap.size + x.n < w.heap.size + x1.n := (by
               have h := hg1.size
               simp only [size_ext, World.alloc, Array.size_push] at h
               omega)
             have HOx1 := Lib.hid ho1
             clear hg1 hc2 ho1)
          | (refine wpList_apps _ rfl (.tmp 44) (.tmp 46) rfl elU8 strU w (by repeat (first | exact Ext.refl' _ | assumption | apply Ext.ex' | apply Ext.al | apply Ext.drN | apply Ext.dr)) _ (m + 1) _ rfl (ow8 HOx1.out (by repeat (first | exact Ext.refl' _ | assumption | apply Ext.ex' | apply Ext.al | apply Ext.drN | apply Ext.dr))) vt rfl (by unfold maxLen; omega) (by omega) ?_
             intro v2 x2 ho2 _
             have HOx2 := Lib.hid ho2
             clear ho2)
          | (refine wpList_app _ rfl (.tmp 48) (.tmp 49) rfl elU8 w (by repeat (first | exact Ext.refl' _ | assumption | apply Ext.ex' | apply Ext.al | apply Ext.drN | apply Ext.dr)) _ (m + 1 + vt.size) _ rfl (ow8 HOx2.out (by repeat (first | exact Ext.refl' _ | assumption | apply Ext.ex' | apply Ext.al | apply Ext.drN | apply Ext.dr))) _ 1 1 _ rfl (Rd.lit _ #[.int .u8 0] _ 1 1 rfl (by simp [size_ext])) (by intro u hu; simp at hu; first | (rcases hu with rfl | rfl <;> rfl) | (subst hu; rfl)) (by unfold maxLen; omega) (by omega) ?_
             intro v3 x3 ho3 _
             obtain ⟨Ax3, cx3, rfl, hdx3, hex3⟩ := Own.form ho3
             have HOx3 := Lib.hid ho3
             clear ho3))
        have HKY : Hid (vkey ⟨2, vi, vt⟩ = [3] ++ vt.data.toList ++ [0]) := Lib.hid (by simp [vkey])
        have HKL : Hid (([3] ++ vt.data.toList ++ [0] : List UInt8).length = 1 + vt.size + 1) := Lib.hid (by simp; omega)
        have HOF : Hid ((ext w x3).ownsRow w.heap.size 5 1 (.slice Ax3 (m + 1 + vt.size + 1) cx3) (m + 1 + vt.size + 1) (bcl (rkey (a.take k)) ++ bcl ([3] ++ vt.data.toList ++ [0]))) := Lib.hid (by
          have h := HOx3.out
          rw [bcl_append, bcl_append, ← List.append_assoc, ← List.append_assoc]
          exact h)
        go_wp2
        go_roundg (gk - 1)
        case rel => exact ⟨k + 1, _, cx3, Ax3, rfl, by go_num, by omega, by have := HG.out; omega, by omega, Lib.hid (by rw [rkey_snoc HVK.out, List.length_append, ← HM.out, HKY.out, HKL.out]; omega), Lib.hid (by rw [rkey_snoc HVK.out, bcl_append, HKY.out]; exact HOF.out), by repeat (first | exact Ext.refl' _ | assumption | apply Ext.ex' | apply Ext.al | apply Ext.drN | apply Ext.dr)⟩
        case measure => have := HG.out; omega
      · have h1 : vk = 3 := h1
        subst h1
        have hi1 : vi = 0 ∨ vi = 1 := h3
        clear h2 h3
        rcases hi1 with rfl | rfl
        · go_wp2_with (at_builtin; (refine wpList_app _ rfl (.tmp 53) (.tmp 57) rfl elU8 w (by repeat (first | exact Ext.refl' _ | assumption | apply Ext.ex' | apply Ext.al | apply Ext.drN | apply Ext.dr)) _ m _ rfl (ow8 HO.out (by repeat (first | exact Ext.refl' _ | assumption | apply Ext.ex' | apply Ext.al | apply Ext.drN | apply Ext.dr))) _ 2 2 _ rfl (Rd.lit _ #[.int .u8 4, .int .u8 0] _ 2 1 rfl (by simp [size_ext])) (by intro u hu; simp at hu; first | (rcases hu with rfl | rfl <;> rfl) | (subst hu; rfl)) (by unfold maxLen; omega) (by omega) ?_; intro v1 x1 hox1 _))
          obtain ⟨Ax1, cx1, rfl, hdx1, hex1⟩ := Own.form hox1
          have HOx1 := Lib.hid hox1
          clear hox1
          go_wp2
          go_roundg (gk - 1)
          case rel => exact ⟨k + 1, _, cx1, Ax1, rfl, by go_num, by omega, by have := HG.out; omega, by omega, Lib.hid (by rw [rkey_snoc HVK.out, List.length_append, ← HM.out]; rfl), Lib.hid (by rw [rkey_snoc HVK.out, bcl_append]; exact HOx1.out), by repeat (first | exact Ext.refl' _ | assumption | apply Ext.ex' | apply Ext.al | apply Ext.drN | apply Ext.dr)⟩
          case measure => have := HG.out; omega
        · go_wp2_with (at_builtin; (refine wpList_app _ rfl (.tmp 53) (.tmp 57) rfl elU8 w (by repeat (first | exact Ext.refl' _ | assumption | apply Ext.ex' | apply Ext.al | apply Ext.drN | apply Ext.dr)) _ m _ rfl (ow8 HO.out (by repeat (first | exact Ext.refl' _ | assumption | apply Ext.ex' | apply Ext.al | apply Ext.drN | apply Ext.dr))) _ 2 2 _ rfl (Rd.lit _ #[.int .u8 4, .int .u8 1] _ 2 1 rfl (by simp [size_ext])) (by intro u hu; simp at hu; first | (rcases hu with rfl | rfl <;> rfl) | (subst hu; rfl)) (by unfold maxLen; omega) (by omega) ?_; intro v1 x1 hox1 _))
          obtain ⟨Ax1, cx1, rfl, hdx1, hex1⟩ := Own.form hox1
          have HOx1 := Lib.hid hox1
          clear hox1
          go_wp2
          go_roundg (gk - 1)
          case rel => exact ⟨k + 1, _, cx1, Ax1, rfl, by go_num, by omega, by have := HG.out; omega, by omega, Lib.hid (by rw [rkey_snoc HVK.out, List.length_append, ← HM.out]; rfl), Lib.hid (by rw [rkey_snoc HVK.out, bcl_append]; exact HOx1.out), by repeat (first | exact Ext.refl' _ | assumption | apply Ext.ex' | apply Ext.al | apply Ext.drN | apply Ext.dr)⟩
          case measure => have := HG.out; omega
    · have hkz : ¬ ((k : Int) < (n : Int)) := by omega
      have hkn : k = n := by omega
      have HOF : Hid ((ext w x).ownsRow w.heap.size 5 1 (.slice lA m lc) (rkey a).length (bcl (rkey a))) := Lib.hid (by
        have h := HO.out
        have hm := HM.out
        rw [List.take_of_length_le (by have := HN.out; omega)] at h hm
        rw [← hm]
        exact h)
      clear HO HM
      go_wp2
      go_ret
      exact ⟨_, rfl, by repeat (first | exact Ext.refl' _ | assumption | apply Ext.ex' | apply Ext.al | apply Ext.drN | apply Ext.dr), HOF.out⟩

end Go.Proofs.Ytahmkinppighkaa
