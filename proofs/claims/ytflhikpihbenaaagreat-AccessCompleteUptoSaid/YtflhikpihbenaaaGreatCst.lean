/- The contracts of access.part, access.of, access.Cost and of the reference's up and Cost. -/
import Derived.Test.YtflhikpihbenaaaGreatCho
set_option linter.unusedSimpArgs false
set_option linter.unusedVariables false
namespace Go.Proofs.YtflhikpihbenaaaGreat
open Go.RowKit

theorem ret_int {k : IntKind} {a b : Int} (h : a = b) : Ending.returned (.int k a) = .returned (.int k b) := by rw [h]
/-- a quotient, rounded up -/
def upF (n d : Int) : Int := n / d + if n % d = 0 then 0 else 1

set_option maxHeartbeats 800000 in
theorem part_any (n d : Int) (w : World) (h0 : 0 ≤ n) (h1 : n ≤ 9223372036854775807) (hd : d = 2 ∨ d = 4 ∨ d = 16) :
    Calls Tryz.prog 33 #[.int .i64 n, .int .i64 d] w fun e w' => e = .returned (.int .i64 (upF n d)) ∧ Ext w w' := by
  rcases hd with rfl | rfl | rfl
  all_goals
    go_enter Tryz.func33, Tryz.ntmps33
    go_wp2
    go_quiet (fail)
    go_wp2
    all_goals go_ret
    all_goals exact ⟨ret_int (by unfold upF; split <;> omega), by repeat (first | exact Ext.refl' _ | assumption | apply Ext.ex' | apply Ext.al | apply Ext.drN | apply Ext.dr)⟩

/-- the searcher of a path -/
def ofV (k : Int) (A : Option Addr) (n c : Nat) (a b s t : Int) : Value :=
  if k = 0 then .iface 91 (.agg #[]) else if k = 1 then .iface 80 (.agg #[.slice A n c]) else if k = 2 then .iface 75 (.agg #[.int .i64 a, .int .i64 b]) else
  if k = 3 then .iface 78 (.agg #[.int .i64 a, .int .i64 b, .int .i64 s, .int .i64 t]) else .nilIface

set_option maxHeartbeats 1600000 in
theorem of_any (k : Int) (A : Option Addr) (n c : Nat) (a b s t : Int) (w : World) :
    Calls Tryz.prog 21 #[.agg #[.int .i64 k, .slice A n c, .int .i64 a, .int .i64 b, .int .i64 s, .int .i64 t]] w fun e w' => e = .returned (ofV k A n c a b s t) ∧ Ext w w' := by
  go_enter Tryz.func21, Tryz.ntmps21
  go_wp2
  all_goals go_ret
  all_goals refine ⟨?_, by repeat (first | exact Ext.refl' _ | assumption | apply Ext.ex' | apply Ext.al | apply Ext.drN | apply Ext.dr)⟩
  all_goals simp_all [ofV]

@[go_sem] theorem ta_valid_nil (w : World) : (Instr.typeAssert .nilIface 66 75 true).run Tryz.prog w = .ok (.tuple #[.agg #[.int .i64 0, .int .i64 0], .bool false]) w := by kernel_rfl
@[go_sem] theorem ta_valid_scan (v : Value) (w : World) : (Instr.typeAssert (.iface 91 v) 66 75 true).run Tryz.prog w = .ok (.tuple #[.agg #[.int .i64 0, .int .i64 0], .bool false]) w := by kernel_rfl
@[go_sem] theorem ta_valid_keyed (v : Value) (w : World) : (Instr.typeAssert (.iface 80 v) 66 75 true).run Tryz.prog w = .ok (.tuple #[.agg #[.int .i64 0, .int .i64 0], .bool false]) w := by kernel_rfl
@[go_sem] theorem ta_valid_valid (v : Value) (w : World) : (Instr.typeAssert (.iface 75 v) 66 75 true).run Tryz.prog w = .ok (.tuple #[v, .bool true]) w := by kernel_rfl
@[go_sem] theorem ta_valid_rect (v : Value) (w : World) : (Instr.typeAssert (.iface 78 v) 66 75 true).run Tryz.prog w = .ok (.tuple #[.agg #[.int .i64 0, .int .i64 0], .bool false]) w := by kernel_rfl
@[go_sem] theorem ta_rect_nil (w : World) : (Instr.typeAssert .nilIface 66 78 true).run Tryz.prog w = .ok (.tuple #[.agg #[.int .i64 0, .int .i64 0, .int .i64 0, .int .i64 0], .bool false]) w := by kernel_rfl
@[go_sem] theorem ta_rect_scan (v : Value) (w : World) : (Instr.typeAssert (.iface 91 v) 66 78 true).run Tryz.prog w = .ok (.tuple #[.agg #[.int .i64 0, .int .i64 0, .int .i64 0, .int .i64 0], .bool false]) w := by kernel_rfl
@[go_sem] theorem ta_rect_keyed (v : Value) (w : World) : (Instr.typeAssert (.iface 80 v) 66 78 true).run Tryz.prog w = .ok (.tuple #[.agg #[.int .i64 0, .int .i64 0, .int .i64 0, .int .i64 0], .bool false]) w := by kernel_rfl
@[go_sem] theorem ta_rect_valid (v : Value) (w : World) : (Instr.typeAssert (.iface 75 v) 66 78 true).run Tryz.prog w = .ok (.tuple #[.agg #[.int .i64 0, .int .i64 0, .int .i64 0, .int .i64 0], .bool false]) w := by kernel_rfl
@[go_sem] theorem ta_rect_rect (v : Value) (w : World) : (Instr.typeAssert (.iface 78 v) 66 78 true).run Tryz.prog w = .ok (.tuple #[v, .bool true]) w := by kernel_rfl
@[go_sem] theorem ta_keyed_nil (w : World) : (Instr.typeAssert .nilIface 66 80 true).run Tryz.prog w = .ok (.tuple #[.agg #[.slice none 0 0], .bool false]) w := by kernel_rfl
@[go_sem] theorem ta_keyed_scan (v : Value) (w : World) : (Instr.typeAssert (.iface 91 v) 66 80 true).run Tryz.prog w = .ok (.tuple #[.agg #[.slice none 0 0], .bool false]) w := by kernel_rfl
@[go_sem] theorem ta_keyed_keyed (v : Value) (w : World) : (Instr.typeAssert (.iface 80 v) 66 80 true).run Tryz.prog w = .ok (.tuple #[v, .bool true]) w := by kernel_rfl
@[go_sem] theorem ta_keyed_valid (v : Value) (w : World) : (Instr.typeAssert (.iface 75 v) 66 80 true).run Tryz.prog w = .ok (.tuple #[.agg #[.slice none 0 0], .bool false]) w := by kernel_rfl
@[go_sem] theorem ta_keyed_rect (v : Value) (w : World) : (Instr.typeAssert (.iface 78 v) 66 80 true).run Tryz.prog w = .ok (.tuple #[.agg #[.slice none 0 0], .bool false]) w := by kernel_rfl

def mx0 (r : Int) : Int := if r < 0 then 0 else r
def upN : Nat → Int → Int
  | 0, m => m
  | n + 1, m => upN n (upF m 16)
/-- what a path costs -/
def costF (k : Int) (n : Nat) (rows : Int) : Int := if k = 2 then upF (mx0 rows) 2 else if k = 3 then upF (mx0 rows) 4 else if k = 1 then upN n (mx0 rows) else mx0 rows
theorem up_le {n d : Int} (h : 0 ≤ n) (h1 : n ≤ 9223372036854775807) (hd : d = 2 ∨ d = 4 ∨ d = 16) : 0 ≤ upF n d ∧ upF n d ≤ 9223372036854775807 := by
  rcases hd with rfl | rfl | rfl <;> unfold upF <;> split <;> omega


set_option maxRecDepth 100000 in
set_option maxHeartbeats 4000000 in
theorem cost_any (k : Int) (A : Option Addr) (n c : Nat) (a b s t : Int) (rows : Int) (w : World) (hn : n ≤ 9223372036854775807) (hr0 : -9223372036854775808 ≤ rows) (hr1 : rows ≤ 9223372036854775807) :
    Calls Tryz.prog 18 #[.agg #[.int .i64 k, .slice A n c, .int .i64 a, .int .i64 b, .int .i64 s, .int .i64 t], .int .i64 rows] w fun e w' => e = .returned (.int .i64 (costF k n rows)) ∧ Ext w w' := by
  have HO := Lib.hid (fun w => of_any k A n c a b s t w)
  rcases (show rows < 0 ∨ 0 ≤ rows from by omega) with hlt | hge
  · have hm : mx0 rows = 0 := by simp [mx0, hlt]
    rcases (show (k = 2) ∨ (k = 3) ∨ (k = 1) ∨ (k = 0) ∨ (¬ k = 0 ∧ ¬ k = 1 ∧ ¬ k = 2 ∧ ¬ k = 3) from by omega) with rfl | rfl | rfl | rfl | ⟨g0, g1, g2, g3⟩
    · have HC : Hid (costF 2 n rows = upF 0 2) := Lib.hid (by simp [costF, hm])
      rw [HC.out]
      rw [show ofV 2 A n c a b s t = .iface 75 (.agg #[.int .i64 a, .int .i64 b]) from rfl] at HO
      clear hm
      go_enter Tryz.func18, Tryz.ntmps18
      go_wp2_with (first
        | (go_at_call 21; (refine (HO.out _).mono ?_; rintro e w1 ⟨rfl, hb1⟩; obtain ⟨x1, rfl⟩ := hb1.get; clear hb1))
        | (go_at_call 33; (refine (part_any 0 2 _ (by omega) (by omega) (by decide)).mono ?_; rintro e w1 ⟨rfl, hb2⟩; obtain ⟨x2, rfl⟩ := hb2.get; clear hb2)))
      go_ret
      exact ⟨rfl, by repeat (first | exact Ext.refl' _ | assumption | apply Ext.ex' | apply Ext.al | apply Ext.drN | apply Ext.dr)⟩
    · have HC : Hid (costF 3 n rows = upF 0 4) := Lib.hid (by simp [costF, hm])
      rw [HC.out]
      rw [show ofV 3 A n c a b s t = .iface 78 (.agg #[.int .i64 a, .int .i64 b, .int .i64 s, .int .i64 t]) from rfl] at HO
      clear hm
      go_enter Tryz.func18, Tryz.ntmps18
      go_wp2_with (first
        | (go_at_call 21; (refine (HO.out _).mono ?_; rintro e w1 ⟨rfl, hb1⟩; obtain ⟨x1, rfl⟩ := hb1.get; clear hb1))
        | (go_at_call 33; (refine (part_any 0 4 _ (by omega) (by omega) (by decide)).mono ?_; rintro e w1 ⟨rfl, hb2⟩; obtain ⟨x2, rfl⟩ := hb2.get; clear hb2)))
      go_ret
      exact ⟨rfl, by repeat (first | exact Ext.refl' _ | assumption | apply Ext.ex' | apply Ext.al | apply Ext.drN | apply Ext.dr)⟩
    · have HC : Hid (costF 1 n rows = upN n 0) := Lib.hid (by simp [costF, hm])
      rw [HC.out]
      rw [show ofV 1 A n c a b s t = .iface 80 (.agg #[.slice A n c]) from rfl] at HO
      clear hm
      go_enter Tryz.func18, Tryz.ntmps18
      go_wp2_with (first
        | (go_at_call 21; (refine (HO.out _).mono ?_; rintro e w1 ⟨rfl, hb1⟩; obtain ⟨x1, rfl⟩ := hb1.get; clear hb1)))
      have hE1 : Ext w ((ext (w.alloc (.cells #[.int .i64 1, .slice A n c, .int .i64 a, .int .i64 b, .int .i64 s, .int .i64 t] 50)) x1).alloc (.cells #[.slice A n c] 80)) := by repeat (first | exact Ext.refl' _ | assumption | apply Ext.ex' | apply Ext.al | apply Ext.drN | apply Ext.dr)
      generalize (ext (w.alloc (.cells #[.int .i64 1, .slice A n c, .int .i64 a, .int .i64 b, .int .i64 s, .int .i64 t] 50)) x1).alloc (.cells #[.slice A n c] 80) = W1 at hE1 ⊢
      go_loopw [1, 28] (fun r i wr => ∃ (j : Nat) (m : Int), j ≤ n ∧ r = .int .i64 m ∧ i = .int .i64 j ∧ 0 ≤ m ∧ m ≤ 9223372036854775807 ∧ Hid (upN n 0 = upN (n - j) m) ∧ Ext (W1) wr) (fun _ i _ => n - (intOf i).toNat)
      case atStart => exact ⟨0, 0, Nat.zero_le _, rfl, rfl, by omega, by omega, Lib.hid rfl, Ext.refl' _⟩
      case round =>
        obtain ⟨j, m, hj, rfl, rfl, hm0, hm1, HU, hext⟩ := hrel
        obtain ⟨x, rfl⟩ := hext.get
        clear hext
        by_cases hjn : j < n
        · have HU2 : Hid (upN n 0 = upN (n - (j + 1)) (upF m 16)) := Lib.hid (by rw [HU.out, show n - j = (n - (j + 1)) + 1 from by omega, upN])
          have hup := up_le hm0 hm1 (d := 16) (by decide)
          have HUP := Lib.hid hup
          clear HU hup
          go_wp2_with (first
            | (go_at_call 33; (refine (part_any m 16 _ (by omega) (by omega) (by decide)).mono ?_; rintro e w1 ⟨rfl, hb2⟩; obtain ⟨x2, rfl⟩ := hb2.get; clear hb2)))
          go_roundw
          case rel => go_light; exact ⟨j + 1, upF m 16, by omega, rfl, by go_num, HUP.out.1, HUP.out.2, HU2, by repeat (first | exact Ext.refl' _ | assumption | apply Ext.ex' | apply Ext.al | apply Ext.drN | apply Ext.dr)⟩
          case measure => go_light; simp [intOf]; omega
        · have HU2 : Hid (upN n 0 = m) := Lib.hid (by rw [HU.out, show n - j = 0 from by omega, upN])
          clear HU
          go_wp2
          go_ret
          exact ⟨by rw [HU2.out]; rfl, hE1.tr (by repeat (first | exact Ext.refl' _ | assumption | apply Ext.ex' | apply Ext.al | apply Ext.drN | apply Ext.dr))⟩
    · have HC : Hid (costF 0 n rows = 0) := Lib.hid (by simp [costF, hm])
      rw [HC.out]
      rw [show ofV 0 A n c a b s t = .iface 91 (.agg #[]) from rfl] at HO
      clear hm
      go_enter Tryz.func18, Tryz.ntmps18
      go_wp2_with (first
        | (go_at_call 21; (refine (HO.out _).mono ?_; rintro e w1 ⟨rfl, hb1⟩; obtain ⟨x1, rfl⟩ := hb1.get; clear hb1)))
      all_goals go_ret
      all_goals exact ⟨rfl, by repeat (first | exact Ext.refl' _ | assumption | apply Ext.ex' | apply Ext.al | apply Ext.drN | apply Ext.dr)⟩
    · have HC : Hid (costF k n rows = 0) := Lib.hid (by simp [costF, hm, g0, g1, g2, g3])
      rw [HC.out]
      rw [show ofV k A n c a b s t = .nilIface from by simp [ofV, g0, g1, g2, g3]] at HO
      clear hm
      go_enter Tryz.func18, Tryz.ntmps18
      go_wp2_with (first
        | (go_at_call 21; (refine (HO.out _).mono ?_; rintro e w1 ⟨rfl, hb1⟩; obtain ⟨x1, rfl⟩ := hb1.get; clear hb1)))
      all_goals go_ret
      all_goals exact ⟨rfl, by repeat (first | exact Ext.refl' _ | assumption | apply Ext.ex' | apply Ext.al | apply Ext.drN | apply Ext.dr)⟩
  · have hm : mx0 rows = rows := by unfold mx0; split <;> omega
    rcases (show (k = 2) ∨ (k = 3) ∨ (k = 1) ∨ (k = 0) ∨ (¬ k = 0 ∧ ¬ k = 1 ∧ ¬ k = 2 ∧ ¬ k = 3) from by omega) with rfl | rfl | rfl | rfl | ⟨g0, g1, g2, g3⟩
    · have HC : Hid (costF 2 n rows = upF rows 2) := Lib.hid (by simp [costF, hm])
      rw [HC.out]
      rw [show ofV 2 A n c a b s t = .iface 75 (.agg #[.int .i64 a, .int .i64 b]) from rfl] at HO
      clear hm
      go_enter Tryz.func18, Tryz.ntmps18
      go_wp2_with (first
        | (go_at_call 21; (refine (HO.out _).mono ?_; rintro e w1 ⟨rfl, hb1⟩; obtain ⟨x1, rfl⟩ := hb1.get; clear hb1))
        | (go_at_call 33; (refine (part_any rows 2 _ (by omega) (by omega) (by decide)).mono ?_; rintro e w1 ⟨rfl, hb2⟩; obtain ⟨x2, rfl⟩ := hb2.get; clear hb2)))
      go_ret
      exact ⟨rfl, by repeat (first | exact Ext.refl' _ | assumption | apply Ext.ex' | apply Ext.al | apply Ext.drN | apply Ext.dr)⟩
    · have HC : Hid (costF 3 n rows = upF rows 4) := Lib.hid (by simp [costF, hm])
      rw [HC.out]
      rw [show ofV 3 A n c a b s t = .iface 78 (.agg #[.int .i64 a, .int .i64 b, .int .i64 s, .int .i64 t]) from rfl] at HO
      clear hm
      go_enter Tryz.func18, Tryz.ntmps18
      go_wp2_with (first
        | (go_at_call 21; (refine (HO.out _).mono ?_; rintro e w1 ⟨rfl, hb1⟩; obtain ⟨x1, rfl⟩ := hb1.get; clear hb1))
        | (go_at_call 33; (refine (part_any rows 4 _ (by omega) (by omega) (by decide)).mono ?_; rintro e w1 ⟨rfl, hb2⟩; obtain ⟨x2, rfl⟩ := hb2.get; clear hb2)))
      go_ret
      exact ⟨rfl, by repeat (first | exact Ext.refl' _ | assumption | apply Ext.ex' | apply Ext.al | apply Ext.drN | apply Ext.dr)⟩
    · have HC : Hid (costF 1 n rows = upN n rows) := Lib.hid (by simp [costF, hm])
      rw [HC.out]
      rw [show ofV 1 A n c a b s t = .iface 80 (.agg #[.slice A n c]) from rfl] at HO
      clear hm
      go_enter Tryz.func18, Tryz.ntmps18
      go_wp2_with (first
        | (go_at_call 21; (refine (HO.out _).mono ?_; rintro e w1 ⟨rfl, hb1⟩; obtain ⟨x1, rfl⟩ := hb1.get; clear hb1)))
      have hE1 : Ext w ((ext (w.alloc (.cells #[.int .i64 1, .slice A n c, .int .i64 a, .int .i64 b, .int .i64 s, .int .i64 t] 50)) x1).alloc (.cells #[.slice A n c] 80)) := by repeat (first | exact Ext.refl' _ | assumption | apply Ext.ex' | apply Ext.al | apply Ext.drN | apply Ext.dr)
      generalize (ext (w.alloc (.cells #[.int .i64 1, .slice A n c, .int .i64 a, .int .i64 b, .int .i64 s, .int .i64 t] 50)) x1).alloc (.cells #[.slice A n c] 80) = W1 at hE1 ⊢
      go_loopw [1, 28] (fun r i wr => ∃ (j : Nat) (m : Int), j ≤ n ∧ r = .int .i64 m ∧ i = .int .i64 j ∧ 0 ≤ m ∧ m ≤ 9223372036854775807 ∧ Hid (upN n rows = upN (n - j) m) ∧ Ext (W1) wr) (fun _ i _ => n - (intOf i).toNat)
      case atStart => exact ⟨0, rows, Nat.zero_le _, rfl, rfl, by omega, by omega, Lib.hid rfl, Ext.refl' _⟩
      case round =>
        obtain ⟨j, m, hj, rfl, rfl, hm0, hm1, HU, hext⟩ := hrel
        obtain ⟨x, rfl⟩ := hext.get
        clear hext
        by_cases hjn : j < n
        · have HU2 : Hid (upN n rows = upN (n - (j + 1)) (upF m 16)) := Lib.hid (by rw [HU.out, show n - j = (n - (j + 1)) + 1 from by omega, upN])
          have hup := up_le hm0 hm1 (d := 16) (by decide)
          have HUP := Lib.hid hup
          clear HU hup
          go_wp2_with (first
            | (go_at_call 33; (refine (part_any m 16 _ (by omega) (by omega) (by decide)).mono ?_; rintro e w1 ⟨rfl, hb2⟩; obtain ⟨x2, rfl⟩ := hb2.get; clear hb2)))
          go_roundw
          case rel => go_light; exact ⟨j + 1, upF m 16, by omega, rfl, by go_num, HUP.out.1, HUP.out.2, HU2, by repeat (first | exact Ext.refl' _ | assumption | apply Ext.ex' | apply Ext.al | apply Ext.drN | apply Ext.dr)⟩
          case measure => go_light; simp [intOf]; omega
        · have HU2 : Hid (upN n rows = m) := Lib.hid (by rw [HU.out, show n - j = 0 from by omega, upN])
          clear HU
          go_wp2
          go_ret
          exact ⟨by rw [HU2.out]; rfl, hE1.tr (by repeat (first | exact Ext.refl' _ | assumption | apply Ext.ex' | apply Ext.al | apply Ext.drN | apply Ext.dr))⟩
    · have HC : Hid (costF 0 n rows = rows) := Lib.hid (by simp [costF, hm])
      rw [HC.out]
      rw [show ofV 0 A n c a b s t = .iface 91 (.agg #[]) from rfl] at HO
      clear hm
      go_enter Tryz.func18, Tryz.ntmps18
      go_wp2_with (first
        | (go_at_call 21; (refine (HO.out _).mono ?_; rintro e w1 ⟨rfl, hb1⟩; obtain ⟨x1, rfl⟩ := hb1.get; clear hb1)))
      all_goals go_ret
      all_goals exact ⟨rfl, by repeat (first | exact Ext.refl' _ | assumption | apply Ext.ex' | apply Ext.al | apply Ext.drN | apply Ext.dr)⟩
    · have HC : Hid (costF k n rows = rows) := Lib.hid (by simp [costF, hm, g0, g1, g2, g3])
      rw [HC.out]
      rw [show ofV k A n c a b s t = .nilIface from by simp [ofV, g0, g1, g2, g3]] at HO
      clear hm
      go_enter Tryz.func18, Tryz.ntmps18
      go_wp2_with (first
        | (go_at_call 21; (refine (HO.out _).mono ?_; rintro e w1 ⟨rfl, hb1⟩; obtain ⟨x1, rfl⟩ := hb1.get; clear hb1)))
      all_goals go_ret
      all_goals exact ⟨rfl, by repeat (first | exact Ext.refl' _ | assumption | apply Ext.ex' | apply Ext.al | apply Ext.drN | apply Ext.dr)⟩

end Go.Proofs.YtflhikpihbenaaaGreat
