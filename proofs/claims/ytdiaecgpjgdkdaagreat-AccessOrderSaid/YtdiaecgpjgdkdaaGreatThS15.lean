/- Lemmas for the rows: Cho Cst Awk. -/
import Derived.Test.YtdiaecgpjgdkdaaGreatThS08
import Derived.Test.YtdiaecgpjgdkdaaGreatThS12
set_option linter.unusedSimpArgs false
set_option linter.unusedVariables false
namespace Go.Proofs.YtdiaecgpjgdkdaaGreat
open Go.RowKit

def sysF (k f t : Int) : Int × Int := if k = 0 then (1099511627775, 1099511627776) else if k = 1 then (f, f + 1) else if k = 2 then (f, t) else if k = 3 then (f, t + 1) else if k = 4 then (0, 1099511627776) else (0, 0)

set_option maxHeartbeats 800000 in
theorem system_any (k f t : Int) (w : World) (hf0 : -9223372036854775808 ≤ f) (hf : f ≤ 1099511627776) (ht0 : -9223372036854775808 ≤ t) (ht : t ≤ 1099511627776) :
  Calls Tryz.prog 40 #[.agg #[.int .i64 k, .int .i64 f, .int .i64 t]] w fun e w' => e = .returned (pr (sysF k f t)) ∧ Ext w w' := by
 go_enter Tryz.func40, Tryz.ntmps40
 go_wp2
 all_goals refine bodyPost_ret (v := pr (sysF k f t)) ?_ rfl ⟨rfl, ex_⟩
 all_goals simp [results, Tryz.results40, go_sem, ↓IntWalk.iteOmega]
 all_goals simp_all [sysF]

structure Pa where
 k : Int
 key : List Va
 v : Int × Int
 s : Int × Int
def chF (key : List Va) (s d : Int × Int) : Pa :=
 if key ≠ [] then ⟨1, key, (0, 0), (0, 0)⟩ else if pvB s = false then ⟨0, [], (0, 0), (0, 0)⟩ else
 if ¬ (s.1 = 0 ∧ s.2 = 1099511627776) then ⟨3, [], d, s⟩ else if ¬ (d.1 = 0 ∧ d.2 = 1099511627776) then ⟨2, [], d, (0, 0)⟩ else ⟨0, [], (0, 0), (0, 0)⟩

def PaPost (w : World) (p : Pa) (e : Ending) (w' : World) : Prop := ∃ A c, e = .returned (.agg #[.int .i64 p.k, .slice A p.key.length c, .int .i64 p.v.1, .int .i64 p.v.2, .int .i64 p.s.1, .int .i64 p.s.2]) ∧ Ext w w' ∧ w'.ownsRow w.heap.size 66 3 (.slice A p.key.length c) p.key.length (vcs p.key)

set_option maxHeartbeats 4000000 in
theorem choose_any (s0 : ByteArray) (a1 a3 a4 : Option Addr) (n1 m1 n3 m3 n4 m4 : Nat) (K : Option Addr) (ks : List Int) (kc : Nat) (o i : Int) (v : Va) (nm : ByteArray) (A : Option Addr) (args : List Ex) (c : Nat) (css : List (List Value)) (k f t : Int) (d : Int × Int) (w : World)
  (hK : Rd w 1 K ks.length (ic ks)) (hkl : ks.length ≤ 1048576) (hR : Rd w 7 A args.length css.flatten) (hs : REs w args css) (hl : args.length ≤ 9223372036854775807) (hb : (conds (.mk o i v nm args)).length ≤ 1048576) (hf0 : -9223372036854775808 ≤ f) (hf : f ≤ 1099511627776) (ht0 : -9223372036854775808 ≤ t) (ht : t ≤ 1099511627776) :
  Calls Tryz.prog 18 #[.agg #[.string s0, .slice a1 n1 m1, .slice K ks.length kc, .slice a3 n3 m3, .slice a4 n4 m4], exag o i v nm A args.length c, .agg #[.int .i64 k, .int .i64 f, .int .i64 t], pr d] w (PaPost w (chF (prefF (conds (.mk o i v nm args)) ks) (sysF k f t) d)) := by
 have HP := Lib.hid (fun w h1 h2 h3 => prefix_any (.string s0) (.slice a1 n1 m1) (.slice a3 n3 m3) (.slice a4 n4 m4) K ks kc o i v nm A args c css w ⟨_, rfl⟩ ⟨_, _, _, rfl⟩ ⟨_, _, _, rfl⟩ ⟨_, _, _, rfl⟩ h1 hkl h2 h3 hl hb)
 have HS := Lib.hid (fun w => system_any k f t w hf0 hf ht0 ht)
 have HKL : Hid ((prefF (conds (.mk o i v nm args)) ks).length ≤ 1048576) := Lib.hid (Nat.le_trans (prefF_length _ _) hkl)
 generalize sysF k f t = s at HS ⊢
 generalize prefF (conds (.mk o i v nm args)) ks = key at HP HKL ⊢
 clear hb hf0 hf ht0 ht
 have FIN : ∀ (pa : Pa) (A' : Option Addr) (c' : Nat) (W : World) (vv : Value), vv = .agg #[.int .i64 pa.k, .slice A' pa.key.length c', .int .i64 pa.v.1, .int .i64 pa.v.2, .int .i64 pa.s.1, .int .i64 pa.s.2] → Ext w W → W.ownsRow w.heap.size 66 3 (.slice A' pa.key.length c') pa.key.length (vcs pa.key) → PaPost w pa (.returned vv) W := fun pa A' c' W vv h1 h2 h3 => ⟨A', c', by rw [h1], h2, h3⟩
 have HFIN := Lib.hid FIN
 clear FIN
 rcases key with _ | ⟨q, key⟩
 ·
  rcases (show (pvB s = false) ∨ (pvB s = true ∧ ¬ (s.1 = 0 ∧ s.2 = 1099511627776)) ∨ (pvB s = true ∧ (s.1 = 0 ∧ s.2 = 1099511627776) ∧ ¬ (d.1 = 0 ∧ d.2 = 1099511627776)) ∨ (pvB s = true ∧ (s.1 = 0 ∧ s.2 = 1099511627776) ∧ (d.1 = 0 ∧ d.2 = 1099511627776)) from by
   rcases hq : pvB s with _ | _ <;> simp <;> omega) with h1 | ⟨h1, h2⟩ | ⟨h1, h2, h3⟩ | ⟨h1, h2, h3⟩
  ·
   have HC : Hid (chF [] s d = ⟨0, [], (0, 0), (0, 0)⟩) := Lib.hid (by simp [chF, h1])
   rw [HC.out]
   go_enter Tryz.func18, Tryz.ntmps18
   go_wp2_with (first
    | (go_at_call 40; (refine (HS.out _).mono ?_; rintro e w1 ⟨rfl, hb1⟩; obtain ⟨x1, rfl⟩ := hb1.get; clear hb1))
    | (go_at_call 41; (refine (HP.out _ (hK.ext (ex_)) (hR.ext (ex_)) (REs.ext (ex_) hs)).mono ?_; rintro e w1 ⟨v1, rfl, hb1, ho1⟩; obtain ⟨x2, rfl⟩ := hb1.get; obtain ⟨A1, c1, rfl, hd1, hd2⟩ := Own.form ho1; have hR1 := Rd.of_own ho1; clear hb1 ho1 hd1 hd2))
    | (go_at_call 42; (refine (pvalid_any s _).mono ?_; rintro e w1 ⟨rfl, hb1⟩; obtain ⟨x3, rfl⟩ := hb1.get; clear hb1)))
   refine bodyPost_ret ?_ rfl (HFIN.out _ none 0 _ _ rfl (ex_) (World.ownsRow_nil _ _ _ _))
   simp [results, Tryz.results18, go_sem, ↓IntWalk.iteOmega]
  ·
   have HC : Hid (chF [] s d = ⟨3, [], d, s⟩) := Lib.hid (by simp [chF, h1, h2])
   rw [HC.out]
   have f0 : (!s.1 == 0 || !s.2 == 1099511627776) = true := by (rcases Decidable.em (s.1 = 0) with a | a <;> rcases Decidable.em (s.2 = 1099511627776) with b | b <;> simp_all)
   clear h2
   go_enter Tryz.func18, Tryz.ntmps18
   go_wp2_with (first
    | (go_at_call 40; (refine (HS.out _).mono ?_; rintro e w1 ⟨rfl, hb1⟩; obtain ⟨x1, rfl⟩ := hb1.get; clear hb1))
    | (go_at_call 41; (refine (HP.out _ (hK.ext (ex_)) (hR.ext (ex_)) (REs.ext (ex_) hs)).mono ?_; rintro e w1 ⟨v1, rfl, hb1, ho1⟩; obtain ⟨x2, rfl⟩ := hb1.get; obtain ⟨A1, c1, rfl, hd1, hd2⟩ := Own.form ho1; have hR1 := Rd.of_own ho1; clear hb1 ho1 hd1 hd2))
    | (go_at_call 42; (refine (pvalid_any s _).mono ?_; rintro e w1 ⟨rfl, hb1⟩; obtain ⟨x3, rfl⟩ := hb1.get; clear hb1)))
   refine bodyPost_ret ?_ rfl (HFIN.out _ none 0 _ _ rfl (ex_) (World.ownsRow_nil _ _ _ _))
   simp [results, Tryz.results18, go_sem, ↓IntWalk.iteOmega]
  ·
   have HC : Hid (chF [] s d = ⟨2, [], d, (0, 0)⟩) := Lib.hid (by simp [chF, h1, h2, h3])
   rw [HC.out]
   have f0 : (s.1 == 0) = true := by simp [h2.1]
   have f1 : (s.2 == 1099511627776) = true := by simp [h2.2]
   have f2 : (!d.1 == 0 || !d.2 == 1099511627776) = true := by (rcases Decidable.em (d.1 = 0) with a | a <;> rcases Decidable.em (d.2 = 1099511627776) with b | b <;> simp_all)
   clear h2 h3
   go_enter Tryz.func18, Tryz.ntmps18
   go_wp2_with (first
    | (go_at_call 40; (refine (HS.out _).mono ?_; rintro e w1 ⟨rfl, hb1⟩; obtain ⟨x1, rfl⟩ := hb1.get; clear hb1))
    | (go_at_call 41; (refine (HP.out _ (hK.ext (ex_)) (hR.ext (ex_)) (REs.ext (ex_) hs)).mono ?_; rintro e w1 ⟨v1, rfl, hb1, ho1⟩; obtain ⟨x2, rfl⟩ := hb1.get; obtain ⟨A1, c1, rfl, hd1, hd2⟩ := Own.form ho1; have hR1 := Rd.of_own ho1; clear hb1 ho1 hd1 hd2))
    | (go_at_call 42; (refine (pvalid_any s _).mono ?_; rintro e w1 ⟨rfl, hb1⟩; obtain ⟨x3, rfl⟩ := hb1.get; clear hb1)))
   refine bodyPost_ret ?_ rfl (HFIN.out _ none 0 _ _ rfl (ex_) (World.ownsRow_nil _ _ _ _))
   simp [results, Tryz.results18, go_sem, ↓IntWalk.iteOmega]
  ·
   have HC : Hid (chF [] s d = ⟨0, [], (0, 0), (0, 0)⟩) := Lib.hid (by simp [chF, h1, h2, h3])
   rw [HC.out]
   have f0 : (s.1 == 0) = true := by simp [h2.1]
   have f1 : (s.2 == 1099511627776) = true := by simp [h2.2]
   have f2 : (d.1 == 0) = true := by simp [h3.1]
   have f3 : (d.2 == 1099511627776) = true := by simp [h3.2]
   clear h2 h3
   go_enter Tryz.func18, Tryz.ntmps18
   go_wp2_with (first
    | (go_at_call 40; (refine (HS.out _).mono ?_; rintro e w1 ⟨rfl, hb1⟩; obtain ⟨x1, rfl⟩ := hb1.get; clear hb1))
    | (go_at_call 41; (refine (HP.out _ (hK.ext (ex_)) (hR.ext (ex_)) (REs.ext (ex_) hs)).mono ?_; rintro e w1 ⟨v1, rfl, hb1, ho1⟩; obtain ⟨x2, rfl⟩ := hb1.get; obtain ⟨A1, c1, rfl, hd1, hd2⟩ := Own.form ho1; have hR1 := Rd.of_own ho1; clear hb1 ho1 hd1 hd2))
    | (go_at_call 42; (refine (pvalid_any s _).mono ?_; rintro e w1 ⟨rfl, hb1⟩; obtain ⟨x3, rfl⟩ := hb1.get; clear hb1)))
   refine bodyPost_ret ?_ rfl (HFIN.out _ none 0 _ _ rfl (ex_) (World.ownsRow_nil _ _ _ _))
   simp [results, Tryz.results18, go_sem, ↓IntWalk.iteOmega]
 ·
  have HC : Hid (chF (q :: key) s d = ⟨1, q :: key, (0, 0), (0, 0)⟩) := Lib.hid (by simp [chF])
  rw [HC.out]
  have hkp : 0 < (q :: key).length := by simp
  generalize q :: key = key at HP HKL hkp ⊢
  have hkl2 := HKL.out
  go_enter Tryz.func18, Tryz.ntmps18
  go_wp2_with (first
    | (go_at_call 40; (refine (HS.out _).mono ?_; rintro e w1 ⟨rfl, hb1⟩; obtain ⟨x1, rfl⟩ := hb1.get; clear hb1))
    | (go_at_call 41; (refine (HP.out _ (hK.ext (ex_)) (hR.ext (ex_)) (REs.ext (ex_) hs)).mono ?_; rintro e w1 ⟨v1, rfl, hb1, ho1⟩; obtain ⟨x2, rfl⟩ := hb1.get; obtain ⟨A1, c1, rfl, hd1, hd2⟩ := Own.form ho1; have HO1 := Lib.hid ho1; clear hb1 ho1 hd1 hd2))
    | (go_at_call 42; (refine (pvalid_any s _).mono ?_; rintro e w1 ⟨rfl, hb1⟩; obtain ⟨x3, rfl⟩ := hb1.get; clear hb1)))
  refine bodyPost_ret ?_ rfl (HFIN.out _ A1 c1 _ _ rfl (ex_) (own_mono (own_base HO1.out (by simp)) (by (try simp); (try omega))))
  simp [results, Tryz.results18, go_sem, ↓IntWalk.iteOmega]
end Go.Proofs.YtdiaecgpjgdkdaaGreat

namespace Go.Proofs.YtdiaecgpjgdkdaaGreat
open Go.RowKit

theorem ret_int {k : IntKind} {a b : Int} (h : a = b) : Ending.returned (.int k a) = .returned (.int k b) := by rw [h]
def upF (n d : Int) : Int := n / d + if n % d = 0 then 0 else 1

set_option maxHeartbeats 800000 in
theorem part_any (n d : Int) (w : World) (h0 : 0 ≤ n) (h1 : n ≤ 9223372036854775807) (hd : d = 2 ∨ d = 4 ∨ d = 16) :
  Calls Tryz.prog 43 #[.int .i64 n, .int .i64 d] w fun e w' => e = .returned (.int .i64 (upF n d)) ∧ Ext w w' := by
 rcases hd with rfl | rfl | rfl
 all_goals
  go_enter Tryz.func43, Tryz.ntmps43
  go_wp2
  go_quiet (fail)
  go_wp2
  all_goals go_ret
  all_goals exact ⟨ret_int (by unfold upF; split <;> omega), ex_⟩

def ofV (k : Int) (A : Option Addr) (n c : Nat) (a b s t : Int) : Value :=
 if k = 0 then .iface 94 (.agg #[]) else if k = 1 then .iface 96 (.agg #[.slice A n c]) else if k = 2 then .iface 98 (.agg #[.int .i64 a, .int .i64 b]) else
 if k = 3 then .iface 100 (.agg #[.int .i64 a, .int .i64 b, .int .i64 s, .int .i64 t]) else .nilIface

set_option maxHeartbeats 1600000 in
theorem of_any (k : Int) (A : Option Addr) (n c : Nat) (a b s t : Int) (w : World) :
  Calls Tryz.prog 13 #[.agg #[.int .i64 k, .slice A n c, .int .i64 a, .int .i64 b, .int .i64 s, .int .i64 t]] w fun e w' => e = .returned (ofV k A n c a b s t) ∧ Ext w w' := by
 go_enter Tryz.func13, Tryz.ntmps13
 go_wp2
 all_goals go_ret
 all_goals refine ⟨?_, ex_⟩
 all_goals simp_all [ofV]

@[go_sem] theorem ta_valid_nil (w : World) : (Instr.typeAssert .nilIface 56 98 true).run Tryz.prog w = .ok (.tuple #[.agg #[.int .i64 0, .int .i64 0], .bool false]) w := by kernel_rfl
@[go_sem] theorem ta_valid_scan (v : Value) (w : World) : (Instr.typeAssert (.iface 94 v) 56 98 true).run Tryz.prog w = .ok (.tuple #[.agg #[.int .i64 0, .int .i64 0], .bool false]) w := by kernel_rfl
@[go_sem] theorem ta_valid_keyed (v : Value) (w : World) : (Instr.typeAssert (.iface 96 v) 56 98 true).run Tryz.prog w = .ok (.tuple #[.agg #[.int .i64 0, .int .i64 0], .bool false]) w := by kernel_rfl
@[go_sem] theorem ta_valid_valid (v : Value) (w : World) : (Instr.typeAssert (.iface 98 v) 56 98 true).run Tryz.prog w = .ok (.tuple #[v, .bool true]) w := by kernel_rfl
@[go_sem] theorem ta_valid_rect (v : Value) (w : World) : (Instr.typeAssert (.iface 100 v) 56 98 true).run Tryz.prog w = .ok (.tuple #[.agg #[.int .i64 0, .int .i64 0], .bool false]) w := by kernel_rfl
@[go_sem] theorem ta_rect_nil (w : World) : (Instr.typeAssert .nilIface 56 100 true).run Tryz.prog w = .ok (.tuple #[.agg #[.int .i64 0, .int .i64 0, .int .i64 0, .int .i64 0], .bool false]) w := by kernel_rfl
@[go_sem] theorem ta_rect_scan (v : Value) (w : World) : (Instr.typeAssert (.iface 94 v) 56 100 true).run Tryz.prog w = .ok (.tuple #[.agg #[.int .i64 0, .int .i64 0, .int .i64 0, .int .i64 0], .bool false]) w := by kernel_rfl
@[go_sem] theorem ta_rect_keyed (v : Value) (w : World) : (Instr.typeAssert (.iface 96 v) 56 100 true).run Tryz.prog w = .ok (.tuple #[.agg #[.int .i64 0, .int .i64 0, .int .i64 0, .int .i64 0], .bool false]) w := by kernel_rfl
@[go_sem] theorem ta_rect_valid (v : Value) (w : World) : (Instr.typeAssert (.iface 98 v) 56 100 true).run Tryz.prog w = .ok (.tuple #[.agg #[.int .i64 0, .int .i64 0, .int .i64 0, .int .i64 0], .bool false]) w := by kernel_rfl
@[go_sem] theorem ta_rect_rect (v : Value) (w : World) : (Instr.typeAssert (.iface 100 v) 56 100 true).run Tryz.prog w = .ok (.tuple #[v, .bool true]) w := by kernel_rfl
@[go_sem] theorem ta_keyed_nil (w : World) : (Instr.typeAssert .nilIface 56 96 true).run Tryz.prog w = .ok (.tuple #[.agg #[.slice none 0 0], .bool false]) w := by kernel_rfl
@[go_sem] theorem ta_keyed_scan (v : Value) (w : World) : (Instr.typeAssert (.iface 94 v) 56 96 true).run Tryz.prog w = .ok (.tuple #[.agg #[.slice none 0 0], .bool false]) w := by kernel_rfl
@[go_sem] theorem ta_keyed_keyed (v : Value) (w : World) : (Instr.typeAssert (.iface 96 v) 56 96 true).run Tryz.prog w = .ok (.tuple #[v, .bool true]) w := by kernel_rfl
@[go_sem] theorem ta_keyed_valid (v : Value) (w : World) : (Instr.typeAssert (.iface 98 v) 56 96 true).run Tryz.prog w = .ok (.tuple #[.agg #[.slice none 0 0], .bool false]) w := by kernel_rfl
@[go_sem] theorem ta_keyed_rect (v : Value) (w : World) : (Instr.typeAssert (.iface 100 v) 56 96 true).run Tryz.prog w = .ok (.tuple #[.agg #[.slice none 0 0], .bool false]) w := by kernel_rfl

def mx0 (r : Int) : Int := if r < 0 then 0 else r
def upN : Nat → Int → Int
 | 0, m => m
 | n + 1, m => upN n (upF m 16)
def costF (k : Int) (n : Nat) (rows : Int) : Int := if k = 2 then upF (mx0 rows) 2 else if k = 3 then upF (mx0 rows) 4 else if k = 1 then upN n (mx0 rows) else mx0 rows
theorem up_le {n d : Int} (h : 0 ≤ n) (h1 : n ≤ 9223372036854775807) (hd : d = 2 ∨ d = 4 ∨ d = 16) : 0 ≤ upF n d ∧ upF n d ≤ 9223372036854775807 := by
 rcases hd with rfl | rfl | rfl <;> unfold upF <;> split <;> omega

set_option maxRecDepth 100000 in
set_option maxHeartbeats 4000000 in
theorem cost_any (k : Int) (A : Option Addr) (n c : Nat) (a b s t : Int) (rows : Int) (w : World) (hn : n ≤ 9223372036854775807) (hr0 : -9223372036854775808 ≤ rows) (hr1 : rows ≤ 9223372036854775807) :
  Calls Tryz.prog 20 #[.agg #[.int .i64 k, .slice A n c, .int .i64 a, .int .i64 b, .int .i64 s, .int .i64 t], .int .i64 rows] w fun e w' => e = .returned (.int .i64 (costF k n rows)) ∧ Ext w w' := by
 have HO := Lib.hid (fun w => of_any k A n c a b s t w)
 rcases (show rows < 0 ∨ 0 ≤ rows from by omega) with hlt | hge
 ·
  have hm : mx0 rows = 0 := by simp [mx0, hlt]
  rcases (show (k = 2) ∨ (k = 3) ∨ (k = 1) ∨ (k = 0) ∨ (¬ k = 0 ∧ ¬ k = 1 ∧ ¬ k = 2 ∧ ¬ k = 3) from by omega) with rfl | rfl | rfl | rfl | ⟨g0, g1, g2, g3⟩
  ·
   have HC : Hid (costF 2 n rows = upF 0 2) := Lib.hid (by simp [costF, hm])
   rw [HC.out]
   rw [show ofV 2 A n c a b s t = .iface 98 (.agg #[.int .i64 a, .int .i64 b]) from rfl] at HO
   clear hm
   go_enter Tryz.func20, Tryz.ntmps20
   go_wp2_with (first
    | (go_at_call 13; (refine (HO.out _).mono ?_; rintro e w1 ⟨rfl, hb1⟩; obtain ⟨x1, rfl⟩ := hb1.get; clear hb1))
    | (go_at_call 43; (refine (part_any 0 2 _ (by omega) (by omega) (by decide)).mono ?_; rintro e w1 ⟨rfl, hb2⟩; obtain ⟨x2, rfl⟩ := hb2.get; clear hb2)))
   go_ret
   exact ⟨rfl, ex_⟩
  ·
   have HC : Hid (costF 3 n rows = upF 0 4) := Lib.hid (by simp [costF, hm])
   rw [HC.out]
   rw [show ofV 3 A n c a b s t = .iface 100 (.agg #[.int .i64 a, .int .i64 b, .int .i64 s, .int .i64 t]) from rfl] at HO
   clear hm
   go_enter Tryz.func20, Tryz.ntmps20
   go_wp2_with (first
    | (go_at_call 13; (refine (HO.out _).mono ?_; rintro e w1 ⟨rfl, hb1⟩; obtain ⟨x1, rfl⟩ := hb1.get; clear hb1))
    | (go_at_call 43; (refine (part_any 0 4 _ (by omega) (by omega) (by decide)).mono ?_; rintro e w1 ⟨rfl, hb2⟩; obtain ⟨x2, rfl⟩ := hb2.get; clear hb2)))
   go_ret
   exact ⟨rfl, ex_⟩
  ·
   have HC : Hid (costF 1 n rows = upN n 0) := Lib.hid (by simp [costF, hm])
   rw [HC.out]
   rw [show ofV 1 A n c a b s t = .iface 96 (.agg #[.slice A n c]) from rfl] at HO
   clear hm
   go_enter Tryz.func20, Tryz.ntmps20
   go_wp2_with (first
    | (go_at_call 13; (refine (HO.out _).mono ?_; rintro e w1 ⟨rfl, hb1⟩; obtain ⟨x1, rfl⟩ := hb1.get; clear hb1)))
   have hE1 : Ext w ((ext (w.alloc (.cells #[.int .i64 1, .slice A n c, .int .i64 a, .int .i64 b, .int .i64 s, .int .i64 t] 39)) x1).alloc (.cells #[.slice A n c] 96)) := ex_
   generalize (ext (w.alloc (.cells #[.int .i64 1, .slice A n c, .int .i64 a, .int .i64 b, .int .i64 s, .int .i64 t] 39)) x1).alloc (.cells #[.slice A n c] 96) = W1 at hE1 ⊢
   go_loopw [1, 28] (fun r i wr => ∃ (j : Nat) (m : Int), j ≤ n ∧ r = .int .i64 m ∧ i = .int .i64 j ∧ 0 ≤ m ∧ m ≤ 9223372036854775807 ∧ Hid (upN n 0 = upN (n - j) m) ∧ Ext (W1) wr) (fun _ i _ => n - (intOf i).toNat)
   case atStart => exact ⟨0, 0, Nat.zero_le _, rfl, rfl, by omega, by omega, Lib.hid rfl, Ext.refl' _⟩
   case round =>
    obtain ⟨j, m, hj, rfl, rfl, hm0, hm1, HU, hext⟩ := hrel
    obtain ⟨x, rfl⟩ := hext.get
    clear hext
    by_cases hjn : j < n
    ·
     have HU2 : Hid (upN n 0 = upN (n - (j + 1)) (upF m 16)) := Lib.hid (by rw [HU.out, show n - j = (n - (j + 1)) + 1 from by omega, upN])
     have hup := up_le hm0 hm1 (d := 16) (by decide)
     have HUP := Lib.hid hup
     clear HU hup
     go_wp2_with (first
      | (go_at_call 43; (refine (part_any m 16 _ (by omega) (by omega) (by decide)).mono ?_; rintro e w1 ⟨rfl, hb2⟩; obtain ⟨x2, rfl⟩ := hb2.get; clear hb2)))
     go_roundw
     case rel => go_light; exact ⟨j + 1, upF m 16, by omega, rfl, by go_num, HUP.out.1, HUP.out.2, HU2, ex_⟩
     case measure => go_light; simp [intOf]; omega
    ·
     have HU2 : Hid (upN n 0 = m) := Lib.hid (by rw [HU.out, show n - j = 0 from by omega, upN])
     clear HU
     go_wp2
     go_ret
     exact ⟨by rw [HU2.out]; rfl, hE1.tr (ex_)⟩
  ·
   have HC : Hid (costF 0 n rows = 0) := Lib.hid (by simp [costF, hm])
   rw [HC.out]
   rw [show ofV 0 A n c a b s t = .iface 94 (.agg #[]) from rfl] at HO
   clear hm
   go_enter Tryz.func20, Tryz.ntmps20
   go_wp2_with (first
    | (go_at_call 13; (refine (HO.out _).mono ?_; rintro e w1 ⟨rfl, hb1⟩; obtain ⟨x1, rfl⟩ := hb1.get; clear hb1)))
   all_goals go_ret
   all_goals exact ⟨rfl, ex_⟩
  ·
   have HC : Hid (costF k n rows = 0) := Lib.hid (by simp [costF, hm, g0, g1, g2, g3])
   rw [HC.out]
   rw [show ofV k A n c a b s t = .nilIface from by simp [ofV, g0, g1, g2, g3]] at HO
   clear hm
   go_enter Tryz.func20, Tryz.ntmps20
   go_wp2_with (first
    | (go_at_call 13; (refine (HO.out _).mono ?_; rintro e w1 ⟨rfl, hb1⟩; obtain ⟨x1, rfl⟩ := hb1.get; clear hb1)))
   all_goals go_ret
   all_goals exact ⟨rfl, ex_⟩
 ·
  have hm : mx0 rows = rows := by unfold mx0; split <;> omega
  rcases (show (k = 2) ∨ (k = 3) ∨ (k = 1) ∨ (k = 0) ∨ (¬ k = 0 ∧ ¬ k = 1 ∧ ¬ k = 2 ∧ ¬ k = 3) from by omega) with rfl | rfl | rfl | rfl | ⟨g0, g1, g2, g3⟩
  ·
   have HC : Hid (costF 2 n rows = upF rows 2) := Lib.hid (by simp [costF, hm])
   rw [HC.out]
   rw [show ofV 2 A n c a b s t = .iface 98 (.agg #[.int .i64 a, .int .i64 b]) from rfl] at HO
   clear hm
   go_enter Tryz.func20, Tryz.ntmps20
   go_wp2_with (first
    | (go_at_call 13; (refine (HO.out _).mono ?_; rintro e w1 ⟨rfl, hb1⟩; obtain ⟨x1, rfl⟩ := hb1.get; clear hb1))
    | (go_at_call 43; (refine (part_any rows 2 _ (by omega) (by omega) (by decide)).mono ?_; rintro e w1 ⟨rfl, hb2⟩; obtain ⟨x2, rfl⟩ := hb2.get; clear hb2)))
   go_ret
   exact ⟨rfl, ex_⟩
  ·
   have HC : Hid (costF 3 n rows = upF rows 4) := Lib.hid (by simp [costF, hm])
   rw [HC.out]
   rw [show ofV 3 A n c a b s t = .iface 100 (.agg #[.int .i64 a, .int .i64 b, .int .i64 s, .int .i64 t]) from rfl] at HO
   clear hm
   go_enter Tryz.func20, Tryz.ntmps20
   go_wp2_with (first
    | (go_at_call 13; (refine (HO.out _).mono ?_; rintro e w1 ⟨rfl, hb1⟩; obtain ⟨x1, rfl⟩ := hb1.get; clear hb1))
    | (go_at_call 43; (refine (part_any rows 4 _ (by omega) (by omega) (by decide)).mono ?_; rintro e w1 ⟨rfl, hb2⟩; obtain ⟨x2, rfl⟩ := hb2.get; clear hb2)))
   go_ret
   exact ⟨rfl, ex_⟩
  ·
   have HC : Hid (costF 1 n rows = upN n rows) := Lib.hid (by simp [costF, hm])
   rw [HC.out]
   rw [show ofV 1 A n c a b s t = .iface 96 (.agg #[.slice A n c]) from rfl] at HO
   clear hm
   go_enter Tryz.func20, Tryz.ntmps20
   go_wp2_with (first
    | (go_at_call 13; (refine (HO.out _).mono ?_; rintro e w1 ⟨rfl, hb1⟩; obtain ⟨x1, rfl⟩ := hb1.get; clear hb1)))
   have hE1 : Ext w ((ext (w.alloc (.cells #[.int .i64 1, .slice A n c, .int .i64 a, .int .i64 b, .int .i64 s, .int .i64 t] 39)) x1).alloc (.cells #[.slice A n c] 96)) := ex_
   generalize (ext (w.alloc (.cells #[.int .i64 1, .slice A n c, .int .i64 a, .int .i64 b, .int .i64 s, .int .i64 t] 39)) x1).alloc (.cells #[.slice A n c] 96) = W1 at hE1 ⊢
   go_loopw [1, 28] (fun r i wr => ∃ (j : Nat) (m : Int), j ≤ n ∧ r = .int .i64 m ∧ i = .int .i64 j ∧ 0 ≤ m ∧ m ≤ 9223372036854775807 ∧ Hid (upN n rows = upN (n - j) m) ∧ Ext (W1) wr) (fun _ i _ => n - (intOf i).toNat)
   case atStart => exact ⟨0, rows, Nat.zero_le _, rfl, rfl, by omega, by omega, Lib.hid rfl, Ext.refl' _⟩
   case round =>
    obtain ⟨j, m, hj, rfl, rfl, hm0, hm1, HU, hext⟩ := hrel
    obtain ⟨x, rfl⟩ := hext.get
    clear hext
    by_cases hjn : j < n
    ·
     have HU2 : Hid (upN n rows = upN (n - (j + 1)) (upF m 16)) := Lib.hid (by rw [HU.out, show n - j = (n - (j + 1)) + 1 from by omega, upN])
     have hup := up_le hm0 hm1 (d := 16) (by decide)
     have HUP := Lib.hid hup
     clear HU hup
     go_wp2_with (first
      | (go_at_call 43; (refine (part_any m 16 _ (by omega) (by omega) (by decide)).mono ?_; rintro e w1 ⟨rfl, hb2⟩; obtain ⟨x2, rfl⟩ := hb2.get; clear hb2)))
     go_roundw
     case rel => go_light; exact ⟨j + 1, upF m 16, by omega, rfl, by go_num, HUP.out.1, HUP.out.2, HU2, ex_⟩
     case measure => go_light; simp [intOf]; omega
    ·
     have HU2 : Hid (upN n rows = m) := Lib.hid (by rw [HU.out, show n - j = 0 from by omega, upN])
     clear HU
     go_wp2
     go_ret
     exact ⟨by rw [HU2.out]; rfl, hE1.tr (ex_)⟩
  ·
   have HC : Hid (costF 0 n rows = rows) := Lib.hid (by simp [costF, hm])
   rw [HC.out]
   rw [show ofV 0 A n c a b s t = .iface 94 (.agg #[]) from rfl] at HO
   clear hm
   go_enter Tryz.func20, Tryz.ntmps20
   go_wp2_with (first
    | (go_at_call 13; (refine (HO.out _).mono ?_; rintro e w1 ⟨rfl, hb1⟩; obtain ⟨x1, rfl⟩ := hb1.get; clear hb1)))
   all_goals go_ret
   all_goals exact ⟨rfl, ex_⟩
  ·
   have HC : Hid (costF k n rows = rows) := Lib.hid (by simp [costF, hm, g0, g1, g2, g3])
   rw [HC.out]
   rw [show ofV k A n c a b s t = .nilIface from by simp [ofV, g0, g1, g2, g3]] at HO
   clear hm
   go_enter Tryz.func20, Tryz.ntmps20
   go_wp2_with (first
    | (go_at_call 13; (refine (HO.out _).mono ?_; rintro e w1 ⟨rfl, hb1⟩; obtain ⟨x1, rfl⟩ := hb1.get; clear hb1)))
   all_goals go_ret
   all_goals exact ⟨rfl, ex_⟩

end Go.Proofs.YtdiaecgpjgdkdaaGreat

namespace Go.Proofs.YtdiaecgpjgdkdaaGreat
open Go.RowKit

def v0 : Va := ⟨0, 0, ⟨#[]⟩⟩
def colE (i : Int) : Ex := .mk 2 i v0 ⟨#[]⟩ []
def conE (n : Int) : Ex := .mk 1 0 ⟨1, n, ⟨#[]⟩⟩ ⟨#[]⟩ []
def cmpE (op i n : Int) : Ex := .mk op 0 v0 ⟨#[]⟩ [colE i, conE n]
def CmpPost (op i n : Int) (w : World) (e : Ending) (w' : World) : Prop := ∃ A css, e = .returned (exag op 0 v0 ⟨#[]⟩ A 2 2) ∧ Ext w w' ∧ Rd w' 7 A 2 (List.flatten css) ∧ REs w' [colE i, conE n] css
theorem RE.leaf (w : World) (o i : Int) (v : Va) (hv : v.t.size ≤ 9223372036854775807) : RE w (.mk o i v ⟨#[]⟩ []) (exc o i v ⟨#[]⟩ none 0 0) := by
 rw [RE]
 exact ⟨none, 0, [], rfl, hv, by decide, by decide, by decide, Rd.nil, by rw [REs]⟩
theorem RE.cmp {w : World} {op i n : Int} {A : Option Addr} {css : List (List Value)} (h1 : Rd w 7 A 2 css.flatten) (h2 : REs w [colE i, conE n] css) : RE w (cmpE op i n) (exc op 0 v0 ⟨#[]⟩ A 2 2) := by
 rw [cmpE, RE]
 exact ⟨A, 2, css, rfl, by decide, by decide, by simp, by simp, h1, h2⟩
theorem REs.two {w : World} {a b : Ex} {xa xb : List Value} (ha : RE w a xa) (hb : RE w b xb) : REs w [a, b] [xa, xb] := by
 rw [REs]
 refine ⟨_, _, rfl, ha, ?_⟩
 rw [REs]
 exact ⟨_, _, rfl, hb, by rw [REs]⟩

set_option maxHeartbeats 800000 in
theorem compare_any (op i n : Int) (w : World) : Calls Tryz.prog 19 #[.int .i64 op, .int .i64 i, .int .i64 n] w (CmpPost op i n w) := by
 go_enter Tryz.func19, Tryz.ntmps19
 go_wp2
 refine bodyPost_ret (v := exag op 0 v0 ⟨#[]⟩ (some ⟨w.heap.size + 1, 0, none⟩) 2 2) ?_ rfl ⟨_, [exc 2 i v0 ⟨#[]⟩ none 0 0, exc 1 0 ⟨1, n, ⟨#[]⟩⟩ ⟨#[]⟩ none 0 0], rfl, ex_, Rd.lit _ _ _ 2 7 rfl (by simp), REs.two (RE.leaf _ _ _ _ (by decide)) (RE.leaf _ _ _ _ (Nat.zero_le _))⟩
 simp [results, Tryz.results19, go_sem, ↓IntWalk.iteOmega, v0]

theorem conds_cmp (op i n : Int) (h : isCmp op = true) (hn : vvB ⟨1, n, ⟨#[]⟩⟩ = true) : conds (cmpE op i n) = [⟨op, i, ⟨1, n, ⟨#[]⟩⟩⟩] := by
 have h5 : (op == 5) = false := by
  simp only [isCmp, Bool.or_eq_true, beq_iff_eq] at h
  simp
  omega
 rw [cmpE, conds, isAnd, h5]
 simp [condF, Ex.op, Ex.args, Ex.i, Ex.v, h, colE, conE, condG, hn]
theorem conds_one : conds (.mk 5 0 v0 ⟨#[]⟩ [cmpE 7 0 1, cmpE 11 1 2]) = [⟨7, 0, ⟨1, 1, ⟨#[]⟩⟩⟩, ⟨11, 1, ⟨1, 2, ⟨#[]⟩⟩⟩] := by
 rw [conds, if_pos (by simp [isAnd, emB, v0]), condss, condss, condss, conds_cmp _ _ _ rfl (by simp [vvB, emB]), conds_cmp _ _ _ rfl (by simp [vvB, emB])]
 rfl
theorem choose_one : chF (prefF (conds (.mk 5 0 v0 ⟨#[]⟩ [cmpE 7 0 1, cmpE 11 1 2])) [0]) (sysF 0 0 0) (0, 1099511627776) = ⟨1, [⟨1, 1, ⟨#[]⟩⟩], (0, 0), (0, 0)⟩ := by
 rw [conds_one]; rfl
theorem choose_two : chF (prefF (conds (.mk 11 0 v0 ⟨#[]⟩ [colE 1, conE 2])) [0]) (sysF 1 40 0) (3, 7) = ⟨3, [], (3, 7), (40, 41)⟩ := by
 rw [show Ex.mk 11 0 v0 ⟨#[]⟩ [colE 1, conE 2] = cmpE 11 1 2 from rfl, conds_cmp _ _ _ rfl (by simp [vvB, emB])]; rfl

theorem held_rect : Tryz.prog.stoodInHeld 37 = false := by kernel_rfl
@[go_sem] theorem guard_rect : Tryz.prog.eqGuardType Tryz.prog.depth 37 = false := by kernel_rfl
@[go_sem high] theorem eql_rect (a b c d a' b' c' d' : Int) (w : World) : (binOp .eql 37 (.agg #[.int .i64 a, .int .i64 b, .int .i64 c, .int .i64 d]) (.agg #[.int .i64 a', .int .i64 b', .int .i64 c', .int .i64 d'])).run Tryz.prog w = .ok (.bool (a == a' && b == b' && c == c' && d == d')) w := by
 simp [go_sem, held_rect, Tryz.underlying37, Bool.and_assoc]
 by_cases h1 : a = a' <;> by_cases h2 : b = b' <;> by_cases h3 : c = c' <;> by_cases h4 : d = d' <;> simp_all

set_option maxRecDepth 100000 in
set_option maxHeartbeats 4000000 in
theorem awake_any (w : World) : Calls Tryz.prog 8 #[] w fun e w' => e = .returned (.bool true) ∧ Ext w w' := by
 go_enter Tryz.func8, Tryz.ntmps8
 go_upto_region 3 with fail
 go_cut [3] (fun s3 wx => ∃ b1 Ab1 cb1, s3 = .pointer (some ⟨b1, 0, none⟩) ∧ Ext w wx ∧ w.heap.size + 4 ≤ wx.heap.size ∧ wx.cell? ⟨w.heap.size + 2, 0, none⟩ = some (.string ⟨#[116]⟩) ∧ wx.cell? ⟨w.heap.size + 2, 1, none⟩ = some (.slice (some ⟨w.heap.size, 0, none⟩) 2 2) ∧ wx.cell? ⟨w.heap.size + 2, 2, none⟩ = some (.slice (some ⟨w.heap.size + 1, 0, none⟩) 1 1) ∧ wx.cell? ⟨w.heap.size + 2, 3, none⟩ = some (.slice none 0 0) ∧ wx.cell? ⟨w.heap.size + 2, 4, none⟩ = some (.slice none 0 0) ∧ Rd wx 1 (some ⟨w.heap.size + 1, 0, none⟩) 1 (ic [0]) ∧ b1 < wx.heap.size ∧ wx.cell? ⟨b1, 0, none⟩ = some (.int .i64 1) ∧ wx.cell? ⟨b1, 1, none⟩ = some (.slice Ab1 1 cb1) ∧ wx.cell? ⟨b1, 2, none⟩ = some (.int .i64 0) ∧ wx.cell? ⟨b1, 3, none⟩ = some (.int .i64 0) ∧ wx.cell? ⟨b1, 4, none⟩ = some (.int .i64 0) ∧ wx.cell? ⟨b1, 5, none⟩ = some (.int .i64 0) ∧ Rd wx 3 Ab1 1 (vcs [⟨1, 1, ⟨#[]⟩⟩]))
 case first =>
  have HK : Hid (∀ W : World, Ext ((w.alloc (.cells #[.string ⟨#[97]⟩, .int .i64 1, .bool false, .string ⟨#[98]⟩, .int .i64 1, .bool false] 63)).alloc (.cells #[.int .i64 0] 3)) W → Rd W 1 (some ⟨w.heap.size + 1, 0, none⟩) 1 (ic [0])) := Lib.hid (fun W h => Rd.ext (Rd.lit _ #[.int .i64 0] _ 1 1 rfl (by simp)) h)
  go_region_held3 (fun w' => w'.cell? ⟨w.heap.size + 2, 0, none⟩ = some (.string ⟨#[116]⟩) ∧ w'.cell? ⟨w.heap.size + 2, 1, none⟩ = some (.slice (some ⟨w.heap.size, 0, none⟩) 2 2) ∧ w'.cell? ⟨w.heap.size + 2, 2, none⟩ = some (.slice (some ⟨w.heap.size + 1, 0, none⟩) 1 1) ∧ w'.cell? ⟨w.heap.size + 2, 3, none⟩ = some (.slice none 0 0) ∧ w'.cell? ⟨w.heap.size + 2, 4, none⟩ = some (.slice none 0 0) ∧ w'.cell? ⟨w.heap.size + 3, 0, none⟩ = some (.int .i64 0) ∧ w'.cell? ⟨w.heap.size + 3, 1, none⟩ = some (.int .i64 1099511627776)) (simp [go_sem, ↓IntWalk.iteOmega, *])
   (first
   | (go_at_call 19; refine (compare_any _ _ _ _).mono ?_; first | (have h9 := hr1; rintro e w1 ⟨A2, css2, rfl, hb1, hr2, hs2⟩; obtain ⟨x2, rfl⟩ := hb1.get; clear hb1 h9) | (rintro e w1 ⟨A1, css1, rfl, hb1, hr1, hs1⟩; obtain ⟨x1, rfl⟩ := hb1.get; clear hb1))
   | (go_at_call 18; (refine (choose_any ⟨#[116]⟩ (some ⟨w.heap.size, 0, none⟩) none none 2 2 0 0 0 0 (some ⟨w.heap.size + 1, 0, none⟩) [0] 1 5 0 v0 ⟨#[]⟩ _ [cmpE 7 0 1, cmpE 11 1 2] 2 [exc 7 0 v0 ⟨#[]⟩ A1 2 2, exc 11 0 v0 ⟨#[]⟩ A2 2 2] 0 0 0 (0, 1099511627776) _ (HK.out _ (ex_)) (by decide) (by first | exact Rd.lit _ _ _ 2 7 rfl (by simp) | exact Rd.ext (Rd.lit _ _ _ 2 7 rfl (by simp)) (Ext.al1 _ _)) (REs.two (RE.cmp (hr1.ext (ex_)) (REs.ext (ex_) hs1)) (RE.cmp (hr2.ext (ex_)) (REs.ext (ex_) hs2))) (by simp) (by rw [conds_one]; decide) (by decide) (by decide) (by decide) (by decide)).mono ?_; rw [choose_one]; rintro e w1 ⟨A3, c3, rfl, hb1, ho3⟩; obtain ⟨x3, rfl⟩ := hb1.get; clear hb1)))
  all_goals go_wp2_with fail
  all_goals go_meet
  all_goals exact ⟨_, A3, c3, rfl, ex_, by (try simp); (try omega), by simp [go_sem, ↓IntWalk.iteOmega], by simp [go_sem, ↓IntWalk.iteOmega], by simp [go_sem, ↓IntWalk.iteOmega], by simp [go_sem, ↓IntWalk.iteOmega], by simp [go_sem, ↓IntWalk.iteOmega], HK.out _ (ex_), by (try simp); (try omega), by simp [go_sem, ↓IntWalk.iteOmega], by simp [go_sem, ↓IntWalk.iteOmega], by simp [go_sem, ↓IntWalk.iteOmega], by simp [go_sem, ↓IntWalk.iteOmega], by simp [go_sem, ↓IntWalk.iteOmega], by simp [go_sem, ↓IntWalk.iteOmega], by first | exact Rd.of_own (own_base ho3 (by simp)) | exact Rd.ext (Rd.of_own ho3) (ex_)⟩
 case rest =>
  obtain ⟨b1, Ab1, cb1, rfl, hE, hsz, t0, t1, t2, t3, t4, hK, hb1, p0, p1, p2, p3, p4, p5, hr⟩ := hcut
  go_upto_region 4 with fail
  go_cut [4] (fun s4 wx => ∃ b2 Ab2 cb2, s4 = .pointer (some ⟨b2, 0, none⟩) ∧ Ext w wx ∧ b1 < wx.heap.size ∧ wx.cell? ⟨b1, 0, none⟩ = some (.int .i64 1) ∧ wx.cell? ⟨b1, 1, none⟩ = some (.slice Ab1 1 cb1) ∧ wx.cell? ⟨b1, 2, none⟩ = some (.int .i64 0) ∧ wx.cell? ⟨b1, 3, none⟩ = some (.int .i64 0) ∧ wx.cell? ⟨b1, 4, none⟩ = some (.int .i64 0) ∧ wx.cell? ⟨b1, 5, none⟩ = some (.int .i64 0) ∧ Rd wx 3 Ab1 1 (vcs [⟨1, 1, ⟨#[]⟩⟩]) ∧ b2 < wx.heap.size ∧ wx.cell? ⟨b2, 0, none⟩ = some (.int .i64 3) ∧ wx.cell? ⟨b2, 1, none⟩ = some (.slice Ab2 0 cb2) ∧ wx.cell? ⟨b2, 2, none⟩ = some (.int .i64 3) ∧ wx.cell? ⟨b2, 3, none⟩ = some (.int .i64 7) ∧ wx.cell? ⟨b2, 4, none⟩ = some (.int .i64 40) ∧ wx.cell? ⟨b2, 5, none⟩ = some (.int .i64 41))
  case first =>
   go_region_held3 (fun w' => w'.cell? ⟨w.heap.size + 2, 0, none⟩ = some (.string ⟨#[116]⟩) ∧ w'.cell? ⟨w.heap.size + 2, 1, none⟩ = some (.slice (some ⟨w.heap.size, 0, none⟩) 2 2) ∧ w'.cell? ⟨w.heap.size + 2, 2, none⟩ = some (.slice (some ⟨w.heap.size + 1, 0, none⟩) 1 1) ∧ w'.cell? ⟨w.heap.size + 2, 3, none⟩ = some (.slice none 0 0) ∧ w'.cell? ⟨w.heap.size + 2, 4, none⟩ = some (.slice none 0 0)) (simp [go_sem, ↓IntWalk.iteOmega, *])
    (first
    | (go_at_call 19; refine (compare_any _ _ _ _).mono ?_; rintro e w1 ⟨A1, css1, rfl, hb1', hr1, hs1⟩; obtain ⟨x1, rfl⟩ := hb1'.get; clear hb1')
    | (go_at_call 18; (refine (choose_any ⟨#[116]⟩ (some ⟨w.heap.size, 0, none⟩) none none 2 2 0 0 0 0 (some ⟨w.heap.size + 1, 0, none⟩) [0] 1 11 0 v0 ⟨#[]⟩ A1 [colE 1, conE 2] 2 css1 1 40 0 (3, 7) _ (hK.ext (ex_)) (by decide) (hr1.ext (ex_)) (REs.ext (ex_) hs1) (by simp) (by rw [show Ex.mk 11 0 v0 ⟨#[]⟩ [colE 1, conE 2] = cmpE 11 1 2 from rfl, conds_cmp _ _ _ rfl (by simp [vvB, emB])]; decide) (by decide) (by decide) (by decide) (by decide)).mono ?_; rw [choose_two]; rintro e w1 ⟨A3, c3, rfl, hb1', ho3⟩; obtain ⟨x3, rfl⟩ := hb1'.get; clear hb1')))
   all_goals go_wp2_with fail
   all_goals go_meet
   all_goals exact ⟨_, A3, c3, rfl, hE.tr (ex_), by (try simp); (try omega), by simp [go_sem, ↓IntWalk.iteOmega, *], by simp [go_sem, ↓IntWalk.iteOmega, *], by simp [go_sem, ↓IntWalk.iteOmega, *], by simp [go_sem, ↓IntWalk.iteOmega, *], by simp [go_sem, ↓IntWalk.iteOmega, *], by simp [go_sem, ↓IntWalk.iteOmega, *], hr.ext (ex_), by (try simp); (try omega), by simp [go_sem, ↓IntWalk.iteOmega, *], by simp [go_sem, ↓IntWalk.iteOmega, *], by simp [go_sem, ↓IntWalk.iteOmega, *], by simp [go_sem, ↓IntWalk.iteOmega, *], by simp [go_sem, ↓IntWalk.iteOmega, *], by simp [go_sem, ↓IntWalk.iteOmega, *]⟩
  case rest =>
   obtain ⟨b2, Ab2, cb2, rfl, hE2, hb1', q0, q1, q2, q3, q4, q5, hr2, hb2, r0, r1, r2, r3, r4, r5⟩ := hcut
   obtain ⟨bb, oo, rfl, hbb, hcc⟩ := hr2.2 (by decide)
   have d1 := hcc 1 (.int .i64 1) rfl
   clear hr2 hcc
   go_wp2_with (first
    | (go_at_call 20; (refine (cost_any 1 _ 1 cb1 0 0 0 0 100 _ (by decide) (by decide) (by decide)).mono ?_; rintro e w1 ⟨rfl, hb1'⟩; obtain ⟨x1, rfl⟩ := hb1'.get; clear hb1')))
   all_goals go_ret
   all_goals exact ⟨rfl, hE2.tr (ex_)⟩
end Go.Proofs.YtdiaecgpjgdkdaaGreat
