/- What the laws about the B-tree share. -/
import Derived.Test.YtdmbgimehepfaaaBtKy
import Derived.Deep.LoopGhost
set_option linter.unusedSimpArgs false
set_option linter.unusedVariables false
namespace Go.Proofs.Ytdmbgimehepfaaa
open Go.RowKit


/-- what an operation makes of the keys -/
def opK (ks : List Kp) (o : OpV) : List Kp := if o.kd = 0 then putK ks (o.k.l, o.id) else delK ks (o.k.l, o.id)
theorem opK_len (ks : List Kp) (o : OpV) : (opK ks o).length ≤ ks.length + 1 := by
  unfold opK
  split
  · exact putK_len _ _
  · exact Nat.le_succ_of_le (delK_len _ _)
theorem RK.form {base : Nat} {w : World} {v : Value} {ks : List Kp} (h : RK base w v ks) : ∃ A c, v = .slice A ks.length c := by
  obtain ⟨l, h1, rfl⟩ := h
  rw [List.length_map]
  rcases h1.row.2 with ⟨h2, h3⟩ | ⟨g, cap, cur, h2, hb, hg, hnc, hcm, hcs, htake⟩
  · rw [h3]
    exact ⟨none, 0, h2⟩
  · exact ⟨_, _, h2⟩
theorem RK.none (base : Nat) (w : World) : RK base w (.slice none 0 0) [] := ⟨[], ⟨World.ownsRow_nil _ _ _ _, (fun q hq => by simp at hq), (by simp)⟩, rfl⟩
theorem new_u (base m : Nat) (q : Int) (w : World) (hq : q = m) (hm : 2 ≤ m) (hm2 : m ≤ 64) (hb : base ≤ w.heap.size) : Calls Try.prog 9 #[.int .i64 q] w fun e w' => ∃ tb, e = .returned (.tuple #[pt tb, .int .i64 0]) ∧ TK base w' tb m [] ∧ Ext w w' := by
  subst hq
  exact new_k base m w hm hm2 hb
theorem small_n (A : Option Addr) (n c : Nat) (l : List OpV) (w : World) (hn : l.length = n) (hR : Rd w 3 A n (opl l)) (hl : n ≤ maxLen) (ho : ∀ o ∈ l, OpOk w o) : Calls Try.prog 19 #[.slice A n c] w fun e w' => RBp (SmP l) e ∧ Ext w w' := by
  subst hn
  exact small_any A c l w hR hl ho
def DoQ (base : Nat) (w : World) (tb m : Nat) (ks : List Kp) (e : Ending) (w' : World) : Prop := ∃ A c n, e = .returned (.tuple #[.slice A n c, .bool true]) ∧ Hid (ks.length = n) ∧ Hid (TK base w' tb m ks) ∧ Hid (RK base w' (.slice A n c) ks) ∧ Mu base w w'
theorem do_o (base m tb : Nat) (ks : List Kp) (v : Value) (o : OpV) (w : World) (hm : 2 ≤ m) (hm2 : m ≤ 64) (hbw : base ≤ w.heap.size) (hT : TK base w tb m ks) (hX : RK base w v ks) (ho : OpOk w o) (h12 : o.k.l.length ≤ 12) (hll : ks.length ≤ 150) :
    Calls Try.prog 20 #[pt tb, v, opv o] w (DoQ base w tb m (opK ks o)) := by
  refine Calls.mono (do_any base m tb ks v o.kd o.k.A o.k.c o.k.l o.id w hm hm2 hbw hT hX ho.k.rd (by omega) ho.k.nil (by omega) ho.id) ?_
  rintro e w' ⟨v', rfl, h1, h2, h3⟩
  obtain ⟨A, c, rfl⟩ := h2.form
  exact ⟨A, c, _, rfl, Lib.hid rfl, Lib.hid h1, Lib.hid h2, h3⟩
/-- a tree in memory turned -/
def TQo (base : Nat) (w : World) (tb m : Nat) (ks : List Kp) (e : Ending) (w' : World) : Prop := ∃ b, e = .returned (.bool b) ∧ Hid (TK base w' tb m ks) ∧ Mu base w w'
theorem put_o (base m tb : Nat) (ks : List Kp) (o : OpV) (w : World) (hm : 2 ≤ m) (hm2 : m ≤ 64) (hbw : base ≤ w.heap.size) (hT : TK base w tb m ks) (ho : OpOk w o) (h12 : o.k.l.length ≤ 12) (hll : ks.length ≤ 150) :
    Calls Try.prog 10 #[pt tb, .slice o.k.A o.k.l.length o.k.c, .int .i64 o.id] w (TQo base w tb m (putK ks (o.k.l, o.id))) := by
  refine Calls.mono (put_k base m tb ks o.k.A o.k.c o.k.l o.id w hm hm2 hbw hT ho.k.rd (by omega) ho.k.nil (by omega) ho.id) ?_
  rintro e w' ⟨rfl, h1, h2⟩
  exact ⟨_, rfl, Lib.hid h1, h2⟩
theorem del_o (base m tb : Nat) (ks : List Kp) (o : OpV) (w : World) (hm : 2 ≤ m) (hm2 : m ≤ 64) (hbw : base ≤ w.heap.size) (hT : TK base w tb m ks) (ho : OpOk w o) (h12 : o.k.l.length ≤ 12) :
    Calls Try.prog 11 #[pt tb, .slice o.k.A o.k.l.length o.k.c, .int .i64 o.id] w (TQo base w tb m (delK ks (o.k.l, o.id))) := by
  refine Calls.mono (del_k base m tb ks o.k.A o.k.c o.k.l o.id w hm hm2 hbw hT ho.k.rd (by omega)) ?_
  rintro e w' ⟨rfl, h1, h2⟩
  exact ⟨_, rfl, Lib.hid h1, h2⟩
theorem len_n (base m tb n : Nat) (ks : List Kp) (w : World) (hT : TK base w tb m ks) (hn : ks.length = n) : Calls Try.prog 15 #[pt tb] w fun e w' => e = .returned (.int .i64 n) ∧ Ext w w' := by
  subst hn
  exact len_k base m tb ks w hT
/-- a list of integers is returned -/
def IPn (w : World) (r : List Int) (e : Ending) (w' : World) : Prop := ∃ n A c, e = .returned (.slice A n c) ∧ Hid (r.length = n) ∧ Hid (Rd w' 1 A n (ic r)) ∧ Ext w w'
theorem IPost.n {w w' : World} {r : List Int} {e : Ending} (h : IPost w r e w') : IPn w r e w' := by
  obtain ⟨A, c, h1, h2, h3⟩ := h
  exact ⟨_, A, c, h1, Lib.hid rfl, Lib.hid h2, h3⟩
theorem ints_n (r : List Int) (A B : Option Addr) (n c m d : Nat) (w : World) (hn : r.length = n) (hm : r.length = m) (hA : Rd w 1 A n (ic r)) (hB : Rd w 1 B m (ic r)) (hl : r.length ≤ 1048576) : Calls Try.prog 21 #[.slice A n c, .slice B m d] w fun e w' => e = .returned (.bool true) ∧ Ext w w' := by
  subst hn hm
  have h := ints_any A B c d r r w hA hB (by omega)
  rw [decide_eq_true rfl] at h
  exact h
theorem getK_len (ks : List Kp) (K : List Va) : (getK ks K).length ≤ ks.length := by unfold getK; rw [List.length_map]; exact List.length_filter_le _ _
theorem preK_len (ks : List Kp) (K : List Va) : (preK ks K).length ≤ ks.length := by unfold preK; rw [List.length_map]; exact List.length_filter_le _ _
theorem ranK_len (ks : List Kp) (K K2 : List Va) : (ranK ks K K2).length ≤ ks.length := by unfold ranK; rw [List.length_map]; exact List.length_filter_le _ _
theorem order_m {a : Int} (wa : (Lit.int .u8 a).wf = true) : ∃ m : Nat, 0 ≤ a ∧ a ≤ 255 ∧ 2 + a % 63 = m ∧ 2 ≤ m ∧ m ≤ 64 := by
  have h : 0 ≤ a ∧ a ≤ 255 := by
    have h1 : (decide (IntKind.u8.min ≤ a) && decide (a ≤ IntKind.u8.max)) = true := wa
    rw [Bool.and_eq_true, decide_eq_true_iff, decide_eq_true_iff, show IntKind.u8.min = 0 from rfl, show IntKind.u8.max = 255 from rfl] at h1
    exact h1
  exact ⟨(2 + a % 63).toNat, h.1, h.2, by omega, by omega, by omega⟩
/-- the k-th operation, read -/
theorem op_at {w : World} {A : Option Addr} {n : Nat} {l : List OpV} (hR : Rd w 3 A n (opl l)) (hn : l.length = n) {k : Nat} (hk : k < n) : ∃ o b p, l[k]? = some o ∧ A = some ⟨b, p, none⟩ ∧ b < w.heap.size ∧ w.cell? ⟨b, p + k * 3, none⟩ = some (.int .i64 o.kd) ∧ w.cell? ⟨b, p + k * 3 + 1, none⟩ = some (.slice o.k.A o.k.l.length o.k.c) ∧ w.cell? ⟨b, p + k * 3 + 2, none⟩ = some (.int .i64 o.id) := by
  have hk' : k < l.length := by omega
  obtain ⟨b, p, h1, h2, h3, h4, h5⟩ := hR.op hn.symm hk'
  exact ⟨l[k], b, p, List.getElem?_eq_getElem hk', h1, h2, h3, h4, h5⟩

end Go.Proofs.Ytdmbgimehepfaaa
