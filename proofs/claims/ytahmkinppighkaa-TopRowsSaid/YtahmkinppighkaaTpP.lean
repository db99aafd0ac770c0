/- Bytes of keys, of numbers, values and rows: in plain words. -/
import Derived.Test.YtahmkinppighkaaVrw
set_option linter.unusedSimpArgs false
set_option linter.unusedVariables false
namespace Go.Proofs.Ytahmkinppighkaa
open Go.RowKit

/-- n bytes, the greatest first -/
def be : Nat → Nat → List UInt8
  | 0, _ => []
  | n + 1, u => UInt8.ofNat (u / 256 ^ n) :: be n u
theorem tb_cb_ne {a b : UInt8} (h : a.toNat < b.toNat) (x y : List UInt8) : Lib.compareBytes (a :: x) (b :: y) = -1 := by
  rw [Lib.compareBytes, if_pos (UInt8.lt_iff_toNat_lt.2 h)]
theorem tb_cb_gt {a b : UInt8} (h : b.toNat < a.toNat) (x y : List UInt8) : Lib.compareBytes (a :: x) (b :: y) = 1 := by
  rw [Lib.compareBytes, if_neg (fun h1 => by have := UInt8.lt_iff_toNat_lt.1 h1; omega), if_pos (UInt8.lt_iff_toNat_lt.2 h)]
theorem tb_cb_eq (a : UInt8) (x y : List UInt8) : Lib.compareBytes (a :: x) (a :: y) = Lib.compareBytes x y := by
  rw [Lib.compareBytes, if_neg (by simp), if_neg (by simp)]
theorem tb_cb_app (p x y : List UInt8) : Lib.compareBytes (p ++ x) (p ++ y) = Lib.compareBytes x y := by
  induction p with
  | nil => rfl
  | cons a p ih => rw [List.cons_append, List.cons_append, tb_cb_eq, ih]
theorem tb_cb_be : ∀ (n u v : Nat) (x y : List UInt8), Lib.compareBytes (be n u ++ x) (be n v ++ y) = if u % 256 ^ n < v % 256 ^ n then -1 else if v % 256 ^ n < u % 256 ^ n then 1 else Lib.compareBytes x y
  | 0, u, v, x, y => by simp [be, Nat.mod_one]
  | n + 1, u, v, x, y => by
    have eu : u % 256 ^ (n + 1) = (u / 256 ^ n % 256) * 256 ^ n + u % 256 ^ n := by
      rw [Nat.pow_succ, Nat.mod_mul, Nat.mul_comm (u / 256 ^ n % 256)]; omega
    have ev : v % 256 ^ (n + 1) = (v / 256 ^ n % 256) * 256 ^ n + v % 256 ^ n := by
      rw [Nat.pow_succ, Nat.mod_mul, Nat.mul_comm (v / 256 ^ n % 256)]; omega
    have hp : 0 < 256 ^ n := Nat.pow_pos (by decide)
    have lu := Nat.mod_lt u hp
    have lv := Nat.mod_lt v hp
    have hu : (UInt8.ofNat (u / 256 ^ n)).toNat = u / 256 ^ n % 256 := by simp
    have hv : (UInt8.ofNat (v / 256 ^ n)).toNat = v / 256 ^ n % 256 := by simp
    rw [be, be, List.cons_append, List.cons_append, eu, ev]
    generalize u / 256 ^ n % 256 = a at *
    generalize v / 256 ^ n % 256 = b at *
    rcases Nat.lt_trichotomy a b with h | h | h
    · rw [tb_cb_ne (by omega)]
      have := Nat.mul_le_mul_right (256 ^ n) (show a + 1 ≤ b from h)
      rw [Nat.add_mul] at this
      rw [if_pos (by omega)]
    · subst h
      rw [show UInt8.ofNat (v / 256 ^ n) = UInt8.ofNat (u / 256 ^ n) from UInt8.toNat_inj.1 (by omega), tb_cb_eq, tb_cb_be n u v x y]
      split <;> split <;> (try split) <;> omega
    · rw [tb_cb_gt (by omega)]
      have := Nat.mul_le_mul_right (256 ^ n) (show b + 1 ≤ a from h)
      rw [Nat.add_mul] at this
      rw [if_neg (by omega), if_pos (by omega)]
theorem tb_cb_text : ∀ (t s x y : List UInt8), (∀ c ∈ t, c ≠ 0) → (∀ c ∈ s, c ≠ 0) → Lib.compareBytes (t ++ 0 :: x) (s ++ 0 :: y) = if Lib.compareBytes t s = 0 then Lib.compareBytes x y else Lib.compareBytes t s
  | [], [], x, y, _, _ => by simp [tb_cb_eq, Lib.compareBytes]
  | [], b :: s, x, y, _, hs => by
    have h : b.toNat ≠ 0 := fun h => hs b (by simp) (UInt8.toNat_inj.1 (by simpa using h))
    rw [List.nil_append, List.cons_append, tb_cb_ne (by simp; omega)]
    simp [Lib.compareBytes]
  | a :: t, [], x, y, ht, _ => by
    have h : a.toNat ≠ 0 := fun h => ht a (by simp) (UInt8.toNat_inj.1 (by simpa using h))
    rw [List.nil_append, List.cons_append, tb_cb_gt (by simp; omega)]
    simp [Lib.compareBytes]
  | a :: t, b :: s, x, y, ht, hs => by
    rw [List.cons_append, List.cons_append]
    rcases Nat.lt_trichotomy a.toNat b.toNat with h | h | h
    · rw [tb_cb_ne h, tb_cb_ne h]; simp
    · have : a = b := UInt8.toNat_inj.1 h
      subst this
      rw [tb_cb_eq, tb_cb_eq]
      exact tb_cb_text t s x y (fun c hc => ht c (by simp [hc])) (fun c hc => hs c (by simp [hc]))
    · rw [tb_cb_gt h, tb_cb_gt h]; simp
theorem tb_cb_zero : ∀ {t s : List UInt8}, Lib.compareBytes t s = 0 ↔ t = s
  | [], [] => by simp [Lib.compareBytes]
  | [], _ :: _ => by simp [Lib.compareBytes]
  | _ :: _, [] => by simp [Lib.compareBytes]
  | a :: t, b :: s => by
    rcases Nat.lt_trichotomy a.toNat b.toNat with h | h | h
    · rw [tb_cb_ne h]
      constructor
      · intro h; simp at h
      · intro e; injection e with e1 e2; subst e1; omega
    · have : a = b := UInt8.toNat_inj.1 h
      subst this
      rw [tb_cb_eq, tb_cb_zero]; simp
    · rw [tb_cb_gt h]
      constructor
      · intro h; simp at h
      · intro e; injection e with e1 e2; subst e1; omega

/-- a valid value, in plain words -/
def VaOk (v : Va) : Prop := (v.k = 0 ∧ v.i = 0 ∧ v.t = ⟨#[]⟩) ∨ (v.k = 1 ∧ v.t = ⟨#[]⟩ ∧ -1125899906842624 ≤ v.i ∧ v.i ≤ 1125899906842624) ∨ (v.k = 2 ∧ v.i = 0 ∧ v.t.size ≤ 200 ∧ prB v.t = true) ∨ (v.k = 3 ∧ v.t = ⟨#[]⟩ ∧ (v.i = 0 ∨ v.i = 1))
/-- the key of a value -/
def vkey (v : Va) : List UInt8 :=
  if v.k = 1 then 2 :: be 8 (v.i + 9223372036854775808).toNat else if v.k = 2 then 3 :: (v.t.data.toList ++ [0]) else if v.k = 3 then [4, UInt8.ofNat v.i.toNat] else [1]
theorem prL_nz : ∀ {l : List UInt8}, prL l = true → ∀ c ∈ l, c ≠ 0
  | [], _, c, hc => by simp at hc
  | a :: l, h, c, hc => by
    rw [prL] at h
    split at h
    · cases h
    split at h
    · cases h
    rcases List.mem_cons.1 hc with rfl | hc
    · rintro rfl; simp at *
    · exact prL_nz h c hc
theorem tb_cmpI_lt {a b : Int} (h : a < b) : cmpI a b = -1 := by simp [cmpI, h]
theorem tb_cmpI_gt {a b : Int} (h : b < a) : cmpI a b = 1 := by unfold cmpI; rw [if_neg (by omega), if_pos h]
theorem tb_cmpI_same (a : Int) : cmpI a a = 0 := by simp [cmpI]
theorem tb_cmpV_lt {a b : Va} (h : a.k < b.k) : cmpV a b = -1 := by simp [cmpV, orF, tb_cmpI_lt h]
theorem tb_cmpV_gt {a b : Va} (h : b.k < a.k) : cmpV a b = 1 := by simp [cmpV, orF, tb_cmpI_gt h]
theorem orF_s (x y : Int) : orF [cmpI x x, y] = y := by simp [orF, tb_cmpI_same]; intro h; exact h.symm
theorem vkey_head {v : Va} (h : VaOk v) : ∃ l, vkey v = UInt8.ofNat (v.k + 1).toNat :: l := by
  rcases h with ⟨h, _⟩ | ⟨h, _⟩ | ⟨h, _⟩ | ⟨h, _⟩ <;> simp [vkey, h] <;> (try exact ⟨_, rfl⟩) 
theorem key_cmp1 {v w : Va} (hv : VaOk v) (hw : VaOk w) (x y : List UInt8) : Lib.compareBytes (vkey v ++ x) (vkey w ++ y) = if cmpV v w = 0 then Lib.compareBytes x y else cmpV v w := by
  have bv : 0 ≤ v.k ∧ v.k ≤ 3 := by rcases hv with ⟨h, _⟩ | ⟨h, _⟩ | ⟨h, _⟩ | ⟨h, _⟩ <;> omega
  have bw : 0 ≤ w.k ∧ w.k ≤ 3 := by rcases hw with ⟨h, _⟩ | ⟨h, _⟩ | ⟨h, _⟩ | ⟨h, _⟩ <;> omega
  have nv : (UInt8.ofNat (v.k + 1).toNat).toNat = (v.k + 1).toNat := by simp; omega
  have nw : (UInt8.ofNat (w.k + 1).toNat).toNat = (w.k + 1).toNat := by simp; omega
  rcases Int.lt_trichotomy v.k w.k with h | h | h
  · obtain ⟨l, hl⟩ := vkey_head hv
    obtain ⟨m, hm⟩ := vkey_head hw
    rw [hl, hm, tb_cmpV_lt h, List.cons_append, List.cons_append, tb_cb_ne (by rw [nv, nw]; omega)]
    rfl
  · rcases hv with ⟨h1, h2, h3⟩ | ⟨h1, h2, h3, h4⟩ | ⟨h1, h2, h3, h4⟩ | ⟨h1, h2, h3⟩
    · rcases hw with ⟨g1, g2, g3⟩ | ⟨g1, g2⟩ | ⟨g1, g2⟩ | ⟨g1, g2⟩
      · have : cmpV v w = 0 := by simp [cmpV, orF, h1, g1, h2, g2, h3, g3, tb_cmpI_same, Lib.compareBytes]
        rw [this, if_pos rfl]
        simp [vkey, h1, g1, tb_cb_eq]
      all_goals omega
    · rcases hw with ⟨g1, g2, g3⟩ | ⟨g1, g2, g3, g4⟩ | ⟨g1, g2⟩ | ⟨g1, g2⟩
      · omega
      · have e : cmpV v w = cmpI v.i w.i := by simp [cmpV, orF, h1, g1, h2, g2, tb_cmpI_same, Lib.compareBytes]; intro h; exact h.symm
        rw [e]
        simp only [vkey, h1, g1, if_true, List.cons_append, tb_cb_eq]
        rw [tb_cb_be, Nat.mod_eq_of_lt (show (v.i + 9223372036854775808).toNat < 256 ^ 8 by omega), Nat.mod_eq_of_lt (show (w.i + 9223372036854775808).toNat < 256 ^ 8 by omega)]
        rcases Int.lt_trichotomy v.i w.i with a | a | a
        · rw [tb_cmpI_lt a, if_pos (by omega)]; rfl
        · rw [a, tb_cmpI_same, if_neg (by omega), if_neg (by omega)]; rfl
        · rw [tb_cmpI_gt a, if_neg (by omega), if_pos (by omega)]; rfl
      all_goals omega
    · rcases hw with ⟨g1, g2, g3⟩ | ⟨g1, g2⟩ | ⟨g1, g2, g3, g4⟩ | ⟨g1, g2⟩
      · omega
      · omega
      · have e : cmpV v w = Lib.compareBytes v.t.data.toList w.t.data.toList := by simp [cmpV, orF, h1, g1, h2, g2, tb_cmpI_same]; intro h; exact h.symm
        rw [e]
        simp only [vkey, h1, g1, if_true]
        simp only [show ¬ (2 : Int) = 1 by decide, if_false, List.cons_append, List.append_assoc, List.nil_append, tb_cb_eq]
        exact tb_cb_text _ _ _ _ (prL_nz h4) (prL_nz g4)
      · omega
    · rcases hw with ⟨g1, g2, g3⟩ | ⟨g1, g2⟩ | ⟨g1, g2⟩ | ⟨g1, g2, g3⟩
      · omega
      · omega
      · omega
      · have e : cmpV v w = cmpI v.i w.i := by simp [cmpV, orF, h1, g1, h2, g2, tb_cmpI_same, Lib.compareBytes]; intro h; exact h.symm
        rw [e]
        simp only [vkey, h1, g1]
        rcases h3 with a | a <;> rcases g3 with b | b <;> simp [a, b, tb_cb_eq, cmpI, Lib.compareBytes]
  · obtain ⟨l, hl⟩ := vkey_head hv
    obtain ⟨m, hm⟩ := vkey_head hw
    rw [hl, hm, tb_cmpV_gt h, List.cons_append, List.cons_append, tb_cb_gt (by rw [nv, nw]; omega)]
    rfl
def rkey (l : List Va) : List UInt8 := l.flatMap vkey
theorem vkey_pos {v : Va} (h : VaOk v) : ∃ c l, vkey v = c :: l := by obtain ⟨l, hl⟩ := vkey_head h; exact ⟨_, _, hl⟩
theorem rkey_cmp : ∀ (a b : List Va), (∀ v ∈ a, VaOk v) → (∀ v ∈ b, VaOk v) → Lib.compareBytes (rkey a) (rkey b) = cmpR a b
  | [], [], _, _ => by simp [rkey, Lib.compareBytes, cmpR]
  | [], y :: b, _, hb => by
    obtain ⟨c, l, h⟩ := vkey_pos (hb y (by simp))
    simp [rkey, h, Lib.compareBytes, cmpR]
  | x :: a, [], ha, _ => by
    obtain ⟨c, l, h⟩ := vkey_pos (ha x (by simp))
    simp [rkey, h, Lib.compareBytes, cmpR]
  | x :: a, y :: b, ha, hb => by
    have h := key_cmp1 (ha x (by simp)) (hb y (by simp)) (rkey a) (rkey b)
    rw [rkey_cmp a b (fun v h => ha v (by simp [h])) (fun v h => hb v (by simp [h]))] at h
    rw [cmpR, ← h]
    simp [rkey]

theorem emB_nil {s : ByteArray} (h : emB s = true) : s = ⟨#[]⟩ := by
  unfold emB at h
  rw [Lib.toList_data, List.isEmpty_iff] at h
  obtain ⟨d⟩ := s
  have : d = #[] := Array.ext' (by simpa using h)
  rw [this]
theorem vvB_ok {v : Va} (h : vvB v = true) : VaOk v := by
  unfold vvB at h
  split at h
  · rename_i hk
    simp only [Bool.and_eq_true, beq_iff_eq] at h
    exact .inl ⟨hk, h.1, emB_nil h.2⟩
  · split at h
    · rename_i hk
      simp only [Bool.and_eq_true, decide_eq_true_iff] at h
      exact .inr (.inl ⟨hk, emB_nil h.1, h.2.1, h.2.2⟩)
    · split at h
      · rename_i hk
        simp only [Bool.and_eq_true, decide_eq_true_iff, beq_iff_eq] at h
        exact .inr (.inr (.inl ⟨hk, h.1, h.2.1, h.2.2⟩))
      · split at h
        · rename_i hk
          simp only [Bool.and_eq_true, Bool.or_eq_true, beq_iff_eq] at h
          exact .inr (.inr (.inr ⟨hk, emB_nil h.1, h.2⟩))
        · cases h
theorem be_length : ∀ (n u : Nat), (be n u).length = n
  | 0, _ => rfl
  | n + 1, u => by rw [be, List.length_cons, be_length]
theorem vkey_len {v : Va} (h : VaOk v) : (vkey v).length ≤ 202 := by
  unfold vkey
  split
  · simp [be_length]
  · split
    · rename_i h1 h2
      rcases h with h | h | h | h
      · omega
      · omega
      · have := h.2.2.1
        simp
        exact this
      · omega
    · split <;> simp
theorem rkey_len : ∀ {l : List Va}, (∀ v ∈ l, VaOk v) → (rkey l).length ≤ l.length * 202
  | [], _ => by simp [rkey]
  | v :: l, h => by
    have h1 := vkey_len (h v (by simp))
    have h2 := rkey_len (l := l) fun u hu => h u (by simp [hu])
    simp only [rkey, List.flatMap_cons, List.length_append, List.length_cons] at *
    omega
/-- an unsigned number as bytes of seven bits, the least first -/
def encU (u : Nat) : List UInt8 := if h : u < 128 then [UInt8.ofNat u] else UInt8.ofNat (u % 128 + 128) :: encU (u / 128)
termination_by u
theorem encU_lt {u : Nat} (h : u < 128) : encU u = [UInt8.ofNat u] := by rw [encU, dif_pos h]
theorem encU_ge {u : Nat} (h : ¬ u < 128) : encU u = UInt8.ofNat (u % 128 + 128) :: encU (u / 128) := by rw [encU, dif_neg h]
theorem encU_len (u : Nat) : 0 < (encU u).length := by rw [encU]; split <;> simp
theorem encU_le : ∀ (n u : Nat), u < 128 ^ n → 0 < n → (encU u).length ≤ n
  | 0, u, _, h => by omega
  | n + 1, u, hu, _ => by
    by_cases h : u < 128
    · rw [encU_lt h]; simp
    · rw [encU_ge h]
      have hd : u / 128 < 128 ^ n := by rw [Nat.pow_succ] at hu; omega
      rcases Nat.eq_zero_or_pos n with rfl | hn
      · simp at hd; omega
      · have := encU_le n (u / 128) hd hn
        simp; omega
/-- an integer as an unsigned number: 0, -1, 1, -2 .. -/
def zig (n : Int) : Nat := if 0 ≤ n then (2 * n).toNat else (-2 * n - 1).toNat
def unzig (u : Nat) : Int := if u % 2 = 0 then (u / 2 : Nat) else -((u / 2 : Nat) : Int) - 1
theorem unzig_zig (n : Int) : unzig (zig n) = n := by unfold unzig zig; split <;> split <;> omega
def encI (n : Int) : List UInt8 := encU (zig n)

theorem encU_le10 {u : Nat} (h : u < 18446744073709551616) : (encU u).length ≤ 10 := encU_le 10 u (by omega) (by decide)
theorem zig_lt {n : Int} (h1 : -9223372036854775808 ≤ n) (h2 : n ≤ 9223372036854775807) : zig n < 18446744073709551616 := by unfold zig; split <;> omega
theorem encI_le {n : Int} (h1 : -9223372036854775808 ≤ n) (h2 : n ≤ 9223372036854775807) : (encI n).length ≤ 10 := encU_le10 (zig_lt h1 h2)
/-- a value as bytes -/
def vby (v : Va) : List UInt8 := if v.k = 1 then 1 :: encI v.i else if v.k = 2 then 2 :: (encI v.t.size ++ v.t.data.toList) else if v.k = 3 then [UInt8.ofNat (3 + v.i.toNat)] else [0]
def rby (l : List Va) : List UInt8 := encI l.length ++ l.flatMap vby
theorem vby_len {v : Va} (h : VaOk v) : (vby v).length ≤ 211 := by
  unfold vby
  split
  · have := encI_le (n := v.i) (by rcases h with h | h | h | h <;> omega) (by rcases h with h | h | h | h <;> omega)
    simp; omega
  · split
    · rcases h with h | h | h | h
      · omega
      · omega
      · have := encI_le (n := (v.t.size : Int)) (by omega) (by omega)
        have := h.2.2.1
        have e : v.t.data.toList.length = v.t.size := by simp
        simp only [List.length_cons, List.length_append, e]; omega
      · omega
    · split <;> simp
end Go.Proofs.Ytahmkinppighkaa
