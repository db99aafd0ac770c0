/- The reference of retention: before, row, Sort. -/
import Derived.Test.YtccndjnaakmlkaaRtF
set_option linter.unusedSimpArgs false
set_option linter.unusedVariables false
namespace Go.Proofs.Ytccndjnaakmlkaa
open Go.RowKit


theorem ba_loop (s : ByteArray) : ∀ (n i : Nat) (r : List UInt8), s.size - i = n → ByteArray.toList.loop s i r = r.reverse ++ s.data.toList.drop i := by
  intro n
  induction n with
  | zero =>
    intro i r h
    unfold ByteArray.toList.loop
    rw [if_neg (by omega), List.drop_eq_nil_of_le (by simp; show s.size ≤ i; omega), List.append_nil]
  | succ n ih =>
    intro i r h
    unfold ByteArray.toList.loop
    have hi : i < s.size := by omega
    rw [if_pos hi, ih (i + 1) _ (by omega), List.reverse_cons, List.append_assoc]
    congr 1
    have : i < s.data.toList.length := by simpa using hi
    rw [List.drop_eq_getElem_cons this]
    simp [ByteArray.get!]
    rw [getElem!_pos s.data i hi]
theorem ba_data (s : ByteArray) : s.toList = s.data.toList := by unfold ByteArray.toList; rw [ba_loop s _ 0 [] rfl]; simp
theorem ba_inj {a b : ByteArray} (h : a.toList = b.toList) : a = b := by
  rw [ba_data, ba_data] at h
  obtain ⟨a⟩ := a
  obtain ⟨b⟩ := b
  congr
  exact Array.toList_inj.1 h
theorem held_val3 : Try.prog.stoodInHeld 76 = false := by kernel_rfl
@[go_sem] theorem guard_val3 : Try.prog.eqGuardType Try.prog.depth 76 = false := by kernel_rfl
@[go_sem high] theorem neq_val3 (a b : Va) (w : World) : (binOp .neq 76 (.agg #[.int .i64 a.k, .int .i64 a.i, .string a.t]) (.agg #[.int .i64 b.k, .int .i64 b.i, .string b.t])).run Try.prog w = .ok (.bool (!decide (a = b))) w := by
  obtain ⟨a1, a2, a3⟩ := a
  obtain ⟨b1, b2, b3⟩ := b
  simp [go_sem, held_val3, Try.underlying76]
  by_cases h1 : a1 = b1 <;> by_cases h2 : a2 = b2 <;> by_cases h3 : a3 = b3 <;> simp [h1, h2, h3]
  exact fun h => h3 (ba_inj h)
theorem vcl_get (l : List Va) (k : Nat) (h : k < l.length) : (vcl l)[k * 3]? = some (.int .i64 l[k].k) ∧ (vcl l)[k * 3 + 1]? = some (.int .i64 l[k].i) ∧ (vcl l)[k * 3 + 2]? = some (.string l[k].t) := by
  have f := fun j hj => flatMap_get vc 3 (fun _ => rfl) l k j h hj
  exact ⟨f 0 (by omega), f 1 (by omega), f 2 (by omega)⟩
theorem Rd.val {w : World} {A : Option Addr} {l : List Va} (h : Rd w 3 A l.length (vcl l)) {k : Nat} (hk : k < l.length) :
    ∃ b o, A = some ⟨b, o, none⟩ ∧ b < w.heap.size ∧ w.cell? ⟨b, o + k * 3, none⟩ = some (.int .i64 l[k].k) ∧ w.cell? ⟨b, o + k * 3 + 1, none⟩ = some (.int .i64 l[k].i) ∧ w.cell? ⟨b, o + k * 3 + 2, none⟩ = some (.string l[k].t) := by
  obtain ⟨b, o, hA, hb, hc⟩ := h.2 (by omega)
  obtain ⟨h1, h2, h3⟩ := vcl_get l k hk
  exact ⟨b, o, hA, hb, hc _ _ h1, hc _ _ h2, hc _ _ h3⟩


set_option maxHeartbeats 800000 in
theorem rrow_any (A B : Option Addr) (c d : Nat) (l m : List Va) (w : World) (hA : Rd w 3 A l.length (vcl l)) (hB : Rd w 3 B m.length (vcl m)) (hl : l.length ≤ 9223372036854775807) (hm : m.length ≤ 9223372036854775807) :
    Calls Try.prog 42 #[.slice A l.length c, .slice B m.length d] w fun e w' => e = .returned (.bool (decide (l = m))) ∧ Ext w w' := by
  go_enter Try.func42, Try.ntmps42
  by_cases hn : l.length = m.length
  · have hb : ((l.length : Int) != (m.length : Int)) = false := by simp [hn]
    have HN := Lib.hid hn
    clear hn
    go_wp2
    go_loopw [5] (fun i wr => ∃ k : Nat, k ≤ l.length ∧ i = .int .i64 k ∧ Hid (l.take k = m.take k) ∧ Ext w wr) (fun i _ => l.length - (intOf i).toNat)
    case atStart => exact ⟨0, Nat.zero_le _, rfl, Lib.hid (by simp), Ext.refl' _⟩
    case round =>
      obtain ⟨k, hk, rfl, HT, hext⟩ := hrel
      obtain ⟨x, rfl⟩ := hext.get
      clear hext
      by_cases hlt : k < l.length
      · obtain ⟨b, o, rfl, hb, hc1, hc2, hc3⟩ := hA.val hlt
        have hlt' : k < m.length := by have := HN.out; omega
        obtain ⟨b', o', rfl, hb', hd1, hd2, hd3⟩ := hB.val hlt'
        by_cases heq : l[k] = m[k]
        · have HE := Lib.hid (take_succ_eq hlt hlt' HT.out heq)
          have hdq : decide (l[k] = m[k]) = true := by simp [heq]
          clear heq
          generalize l[k] = p at hc1 hc2 hc3 hdq
          generalize m[k] = q at hd1 hd2 hd3 hdq
          go_wp2
          go_quiet (fail)
          go_wp2
          go_roundw
          case rel => exact ⟨k + 1, by omega, by go_num, HE, by repeat (first | exact Ext.refl' _ | assumption | apply Ext.ex' | apply Ext.al | apply Ext.drN | apply Ext.dr)⟩
          case measure => simp [intOf]; omega
        · have HE := Lib.hid (take_ne hlt hlt' heq)
          have hdq : decide (l[k] = m[k]) = false := by simp [heq]
          clear heq
          generalize l[k] = p at hc1 hc2 hc3 hdq
          generalize m[k] = q at hd1 hd2 hd3 hdq
          go_wp2
          go_quiet (fail)
          go_wp2
          go_ret
          exact ⟨by simp [HE.out], by repeat (first | exact Ext.refl' _ | assumption | apply Ext.ex' | apply Ext.al | apply Ext.drN | apply Ext.dr)⟩
      · go_wp2
        go_ret
        exact ⟨by rw [eq_of_takes HN.out hlt HT.out]; simp, Ext.ex _ _⟩
  · have hb : ((l.length : Int) != (m.length : Int)) = true := by simp; omega
    have hlm : decide (l = m) = false := by simp; rintro rfl; exact hn rfl
    rw [hlm]
    clear hn hlm
    go_wp2
    go_ret
    exact ⟨rfl, Ext.refl' _⟩


/-- the order, from what lies in memory -/
def ltW (x y : Ver) : Bool := decide (x.id < y.id ∨ x.id = y.id ∧ (x.r.2.1 < y.r.2.1 ∨ x.r.2.1 = y.r.2.1 ∧ x.r.1.1 < y.r.1.1))
theorem ltW_is {w : World} {x y : VP} (h1 : VerIs w x.1 x.2) (h2 : VerIs w y.1 y.2) : ltW x.1 y.1 = ltZ x y := by
  unfold ltW ltZ ltV
  rw [h1.id, h1.r, h2.id, h2.r]
/-- what the insertion gives, from index j on -/
def insT (Zo : List VP) (x : VP) (k j : Nat) : List VP := if j ≤ k then (Zo.drop j).take (k - j) ++ x :: Zo.drop k else Zo.drop j
theorem insT_zero (Zo : List VP) (x : VP) (k : Nat) : insT Zo x k 0 = Zo.take k ++ x :: Zo.drop k := by simp [insT]
theorem insT_at {Zo : List VP} {x : VP} {k : Nat} (hk : k < Zo.length) : insT Zo x k k = [x] ++ [Zo[k]] ++ insT Zo x k (k + 1) := by
  unfold insT
  rw [if_pos (Nat.le_refl _), if_neg (by omega), List.drop_eq_getElem_cons hk]
  simp
theorem insT_ne {Zo : List VP} {x : VP} {k j : Nat} (hj : j < Zo.length) (hne : j ≠ k) : insT Zo x k j = [Zo[j]] ++ insT Zo x k (j + 1) := by
  unfold insT
  by_cases h : j ≤ k
  · obtain ⟨m, hm⟩ : ∃ m, k - j = m + 1 := ⟨k - j - 1, by omega⟩
    rw [if_pos h, if_pos (by omega), List.drop_eq_getElem_cons hj, hm, List.take_succ_cons, show k - (j + 1) = m by omega]
    rfl
  · rw [if_neg h, if_neg (by omega), List.drop_eq_getElem_cons hj]; rfl
theorem insT_end (Zo : List VP) (x : VP) (k : Nat) (hk : k ≤ Zo.length) : insT Zo x k Zo.length = if k = Zo.length then [x] else [] := by
  unfold insT
  by_cases h : k = Zo.length
  · subst h; simp
  · rw [if_neg (by omega), if_neg h]; simp
theorem Rd.verAt {w : World} {A : Option Addr} {Z : List VP} {n : Nat} (h : Rd w 9 A n (verc (vsOf Z))) (hn : Z.length = n) {k : Nat} (hk : k < Z.length) :
    ∃ v : Ver, Hid (v = Z[k].1) ∧ ∃ b o, A = some ⟨b, o, none⟩ ∧ b < w.heap.size ∧ w.cell? ⟨b, o + k * 9, none⟩ = some (.int .i64 v.id) ∧ w.cell? ⟨b, o + k * 9 + 1, none⟩ = some (.int .i64 v.sch) ∧ w.cell? ⟨b, o + k * 9 + 2, none⟩ = some (.slice v.rA v.rn v.rc) ∧ w.cell? ⟨b, o + k * 9 + 3, none⟩ = some (.int .i64 v.r.1.1) ∧ w.cell? ⟨b, o + k * 9 + 4, none⟩ = some (.int .i64 v.r.1.2) ∧ w.cell? ⟨b, o + k * 9 + 5, none⟩ = some (.int .i64 v.r.2.1) ∧ w.cell? ⟨b, o + k * 9 + 6, none⟩ = some (.int .i64 v.r.2.2) ∧ w.cell? ⟨b, o + k * 9 + 7, none⟩ = some (.int .i64 v.by_) ∧ w.cell? ⟨b, o + k * 9 + 8, none⟩ = some (.int .i64 v.un) := by
  subst hn
  have hl : (vsOf Z).length = Z.length := by simp
  have h' : Rd w 9 A (vsOf Z).length (verc (vsOf Z)) := by rw [hl]; exact h
  have := h'.ver (k := k) (by omega)
  have e : (vsOf Z)[k]'(by omega) = Z[k].1 := by simp [vsOf]
  rw [e] at this
  exact ⟨_, Lib.hid rfl, this⟩

theorem vsOf_len (Z : List VP) : (vsOf Z).length = Z.length := by simp
theorem swo_ltZ : Swo ltZ := ⟨fun x y => swo_ltV.asym x.2 y.2, fun x y z => swo_ltV.neg x.2 y.2 z.2⟩
theorem ins_eq {Zo : List VP} {x : VP} {k : Nat} (hs : Srt ltZ Zo) (hk : k ≤ Zo.length) (h1 : ∀ j, k ≤ j → (h : j < Zo.length) → ltZ x Zo[j] = true) (h2 : k = 0 ∨ ∃ h : k - 1 < Zo.length, ltZ x Zo[k - 1] = false) : mrg ltZ Zo [x] = Zo.take k ++ x :: Zo.drop k := by
  have e := (List.take_append_drop k Zo).symm
  rw [e, mrg_ins, List.take_append_drop]
  · intro y hy
    obtain ⟨j, hj, rfl⟩ := List.getElem_of_mem hy
    have hjk : j < k := by simp at hj; omega
    rcases h2 with h2 | ⟨hk1, h2⟩
    · omega
    · rw [List.getElem_take]
      have := hs.at swo_ltZ (i := j) (j := k - 1) (by omega) hk1
      exact swo_ltZ.le_trans this h2
  · intro y hy
    obtain ⟨j, hj, rfl⟩ := List.getElem_of_mem hy
    rw [List.getElem_drop]
    exact h1 _ (by omega) _

end Go.Proofs.Ytccndjnaakmlkaa
