/- The reference of schemas: Name, Kinds, Check and what they call: each returns something. -/
import Derived.Test.YtflhikpihbenaaaGreatFrq
import Derived.Deep.LoopGhost
set_option linter.unusedSimpArgs false
set_option linter.unusedVariables false
namespace Go.Proofs.YtflhikpihbenaaaGreat
open Go.RowKit


/-- some errno -/
def RF (e : Ending) : Prop := ∃ f : Int, e = .returned (.int .i64 f)
theorem RF.mk (f : Int) : RF (.returned (.int .i64 f)) := ⟨f, rfl⟩
theorem RB.mk (b : Bool) : RB (.returned (.bool b)) := ⟨b, rfl⟩
theorem RI.mk (f : Int) : RI (.returned (.int .i64 f)) := ⟨f, rfl⟩
def stl (l : List ByteArray) : List Value := l.map Value.string
theorem Rd.st {w : World} {A : Option Addr} {l : List ByteArray} {n : Nat} (h : Rd w 1 A n (stl l)) {k : Nat} (hk : k < l.length) : ∃ b o, A = some ⟨b, o, none⟩ ∧ b < w.heap.size ∧ w.cell? ⟨b, o + k, none⟩ = some (.string l[k]) := by
  have hl : l.length = n := by have := h.1; simpa [stl] using this
  obtain ⟨b, o, hA, hb, hc⟩ := h.2 (by omega)
  refine ⟨b, o, hA, hb, hc k _ ?_⟩
  simp [stl, hk]
set_option maxRecDepth 100000 in
set_option maxHeartbeats 4000000 in
theorem in_any (A : Option Addr) (n c : Nat) (l : List ByteArray) (s : ByteArray) (w : World) (hn : l.length = n) (hA : Rd w 1 A n (stl l)) (nl : n ≤ 1048576) :
    Calls Tryz.prog 53 #[.slice A n c, .string s] w fun e w' => RB e ∧ Ext w w' := by
  have HN := Lib.hid hn
  clear hn
  go_enter Tryz.func53, Tryz.ntmps53
  go_wp2
  go_loop [5] (fun i => ∃ k : Nat, k ≤ n ∧ i = .int .i64 k) (fun i => n - (intOf i).toNat)
  case atStart => exact ⟨0, Nat.zero_le _, rfl⟩
  case round =>
    obtain ⟨k, hk, rfl⟩ := hrel
    by_cases hlt : k < n
    · obtain ⟨g, oo, rfl, hg, c0⟩ := hA.st (show k < l.length by have := HN.out; omega)
      generalize l[k]'(by have := HN.out; omega) = v at c0
      rcases h1 : (v.toList == s.toList) with _ | _
      · go_wp2
        go_round
        case rel => exact ⟨k + 1, by omega, by go_num⟩
        case measure => simp [intOf]; omega
      · go_wp2
        go_ret
        exact ⟨RB.mk _, Ext.refl' _⟩
    · go_wp2
      go_ret
      exact ⟨RB.mk _, Ext.refl' _⟩
def wordsL : List ByteArray := [⟨#[97, 100, 100]⟩, ⟨#[97, 102, 116, 101, 114]⟩, ⟨#[97, 108, 108]⟩, ⟨#[97, 108, 116, 101, 114]⟩, ⟨#[97, 110, 100]⟩, ⟨#[97, 115]⟩, ⟨#[98, 101, 102, 111, 114, 101]⟩, ⟨#[98, 101, 103, 105, 110]⟩, ⟨#[98, 101, 116, 119, 101, 101, 110]⟩, ⟨#[98, 111, 111, 108]⟩, ⟨#[98, 121]⟩, ⟨#[99, 104, 101, 99, 107]⟩, ⟨#[99, 111, 97, 108, 101, 115, 99, 101]⟩, ⟨#[99, 111, 109, 109, 105, 116]⟩, ⟨#[99, 111, 110, 116, 97, 105, 110, 115]⟩, ⟨#[99, 111, 117, 110, 116]⟩, ⟨#[99, 114, 101, 97, 116, 101]⟩, ⟨#[100, 101, 102, 97, 117, 108, 116]⟩, ⟨#[100, 101, 108, 101, 116, 101]⟩, ⟨#[100, 101, 115, 99]⟩, ⟨#[100, 105, 115, 116, 105, 110, 99, 116]⟩, ⟨#[100, 114, 111, 112]⟩, ⟨#[100, 117, 114, 105, 110, 103]⟩, ⟨#[101, 113, 117, 97, 108, 115]⟩, ⟨#[101, 120, 99, 101, 112, 116]⟩, ⟨#[102, 97, 108, 115, 101]⟩, ⟨#[102, 105, 110, 105, 115, 104, 101, 100, 98, 121]⟩, ⟨#[102, 105, 110, 105, 115, 104, 101, 115]⟩, ⟨#[102, 111, 114, 101, 105, 103, 110]⟩, ⟨#[102, 111, 114, 101, 118, 101, 114]⟩, ⟨#[102, 114, 111, 109]⟩, ⟨#[103, 114, 111, 117, 112]⟩, ⟨#[104, 111, 108, 100]⟩, ⟨#[105, 102]⟩, ⟨#[105, 110, 115, 101, 114, 116]⟩, ⟨#[105, 110, 116]⟩, ⟨#[105, 110, 116, 101, 114, 115, 101, 99, 116]⟩, ⟨#[105, 110, 116, 111]⟩, ⟨#[105, 115]⟩, ⟨#[106, 111, 105, 110]⟩, ⟨#[107, 101, 121]⟩, ⟨#[108, 101, 102, 116]⟩, ⟨#[108, 101, 110, 103, 116, 104]⟩, ⟨#[108, 105, 109, 105, 116]⟩, ⟨#[109, 97, 120]⟩, ⟨#[109, 101, 101, 116, 115]⟩, ⟨#[109, 101, 116, 98, 121]⟩, ⟨#[109, 105, 110]⟩, ⟨#[110, 111, 110, 115, 101, 113, 117, 101, 110, 99, 101, 100]⟩, ⟨#[110, 111, 116]⟩, ⟨#[110, 111, 119]⟩, ⟨#[110, 117, 108, 108]⟩, ⟨#[111, 102]⟩, ⟨#[111, 110]⟩, ⟨#[111, 114]⟩, ⟨#[111, 114, 100, 101, 114]⟩, ⟨#[111, 118, 101, 114, 108, 97, 112, 112, 101, 100, 98, 121]⟩, ⟨#[111, 118, 101, 114, 108, 97, 112, 115]⟩, ⟨#[112, 114, 105, 109, 97, 114, 121]⟩, ⟨#[112, 114, 117, 110, 101]⟩, ⟨#[114, 101, 102, 101, 114, 101, 110, 99, 101, 115]⟩, ⟨#[114, 101, 108, 101, 97, 115, 101]⟩, ⟨#[114, 101, 110, 97, 109, 101]⟩, ⟨#[114, 101, 116, 97, 105, 110]⟩, ⟨#[114, 111, 108, 108, 98, 97, 99, 107]⟩, ⟨#[115, 101, 108, 101, 99, 116]⟩, ⟨#[115, 101, 113, 117, 101, 110, 99, 101, 100]⟩, ⟨#[115, 101, 116]⟩, ⟨#[115, 116, 97, 114, 116, 101, 100, 98, 121]⟩, ⟨#[115, 116, 97, 114, 116, 115]⟩, ⟨#[115, 117, 109]⟩, ⟨#[115, 121, 115, 116, 101, 109]⟩, ⟨#[115, 121, 115, 116, 101, 109, 102, 114, 111, 109]⟩, ⟨#[115, 121, 115, 116, 101, 109, 116, 111]⟩, ⟨#[116, 97, 98, 108, 101]⟩, ⟨#[116, 101, 120, 116]⟩, ⟨#[116, 111]⟩, ⟨#[116, 114, 117, 101]⟩, ⟨#[116, 120]⟩, ⟨#[117, 110, 100, 101, 114]⟩, ⟨#[117, 110, 105, 111, 110]⟩, ⟨#[117, 112, 100, 97, 116, 101]⟩, ⟨#[118, 97, 108, 105, 100]⟩, ⟨#[118, 97, 108, 105, 100, 102, 114, 111, 109]⟩, ⟨#[118, 97, 108, 105, 100, 116, 111]⟩, ⟨#[118, 97, 108, 117, 101, 115]⟩, ⟨#[119, 104, 101, 114, 101]⟩]
set_option maxRecDepth 100000 in
set_option maxHeartbeats 4000000 in
theorem words_any (w : World) : Calls Tryz.prog 54 #[] w fun e w' => ∃ A, e = .returned (.slice A 87 87) ∧ Rd w' 1 A 87 (stl wordsL) ∧ Ext w w' := by
  go_enter Tryz.func54, Tryz.ntmps54
  go_wp2
  go_ret
  exact ⟨_, rfl, Rd.lit w (stl wordsL).toArray 9 87 1 rfl rfl, by repeat (first | exact Ext.refl' _ | assumption | apply Ext.ex' | apply Ext.al | apply Ext.drN | apply Ext.dr)⟩


set_option maxRecDepth 100000 in
set_option maxHeartbeats 4000000 in
theorem name_any (s : ByteArray) (w : World) (hs : s.size ≤ 9223372036854775807) :
    Calls Tryz.prog 27 #[.string s] w fun e w' => RB e ∧ Ext w w' := by
  have HW := Lib.hid fun w => words_any w
  have HI := Lib.hid fun A w h => in_any A 87 87 wordsL s w rfl h (by decide)
  by_cases h0 : s.toList = []
  · clear HW HI
    go_enter Tryz.func27, Tryz.ntmps27
    go_wp2
    go_ret
    exact ⟨RB.mk _, by repeat (first | exact Ext.refl' _ | assumption | apply Ext.ex' | apply Ext.al | apply Ext.drN | apply Ext.dr)⟩
  have hpos : 0 < s.size := by
    rcases Nat.eq_zero_or_pos s.size with h | h
    · exfalso
      apply h0
      rw [Lib.toList_data]
      exact List.eq_nil_of_length_eq_zero (by simpa using h)
    · exact h
  by_cases h24 : 24 < s.size
  · have h24z : 24 < (s.size : Int) := by omega
    clear HW HI
    go_enter Tryz.func27, Tryz.ntmps27
    go_wp2
    go_ret
    exact ⟨RB.mk _, by repeat (first | exact Ext.refl' _ | assumption | apply Ext.ex' | apply Ext.al | apply Ext.drN | apply Ext.dr)⟩
  have h24z : ¬ 24 < (s.size : Int) := by omega
  have q1 : (s.toList == []) = false := by simpa using h0
  have q2 : s.toList.isEmpty = false := by simpa using h0
  have hgo : Hid (∀ (e : Ending) (W' : World), RB e → Ext w W' → RB e ∧ Ext w W') := Lib.hid fun _ _ a b => ⟨a, b⟩
  have HL : Hid (∀ W, Ext w W → True) := Lib.hid fun _ _ => trivial
  clear h24 HL hgo
  obtain ⟨b, hb⟩ : ∃ b : Nat, (s[0]'hpos).toNat = b := ⟨_, rfl⟩
  rcases (show b < 48 ∨ (48 ≤ b ∧ b ≤ 57) ∨ 57 < b from by omega) with h1 | ⟨h1, h2⟩ | h1
  · go_enter Tryz.func27, Tryz.ntmps27
    go_wp2
    go_loop [3, 4] (fun i v4 => ∃ k : Nat, k ≤ s.size ∧ i = .int .i64 k) (fun i _ => s.size - (intOf i).toNat)
    case atStart => exact ⟨0, Nat.zero_le _, rfl⟩
    case round =>
      clear hb h1
      obtain ⟨k, hk, rfl⟩ := hrel
      by_cases hlt : k < s.size
      · obtain ⟨b, hb⟩ : ∃ b : Nat, (s[k]'hlt).toNat = b := ⟨_, rfl⟩
        rcases (show (b < 48) ∨ (48 ≤ b ∧ b ≤ 57) ∨ (57 < b ∧ b < 95) ∨ (b = 95) ∨ (b = 96) ∨ (97 ≤ b ∧ b ≤ 122) ∨ (122 < b) from by omega) with h1 | ⟨h1, h2⟩ | ⟨h1, h2⟩ | h1 | h1 | ⟨h1, h2⟩ | h1
        · go_wp2
          all_goals (first | (go_ret; exact ⟨RB.mk _, by repeat (first | exact Ext.refl' _ | assumption | apply Ext.ex' | apply Ext.al | apply Ext.drN | apply Ext.dr)⟩) | (go_round; (case rel => exact ⟨k + 1, by omega, by go_num⟩); (case measure => simp [intOf]; omega)))
        · go_wp2
          all_goals (first | (go_ret; exact ⟨RB.mk _, by repeat (first | exact Ext.refl' _ | assumption | apply Ext.ex' | apply Ext.al | apply Ext.drN | apply Ext.dr)⟩) | (go_round; (case rel => exact ⟨k + 1, by omega, by go_num⟩); (case measure => simp [intOf]; omega)))
        · go_wp2
          all_goals (first | (go_ret; exact ⟨RB.mk _, by repeat (first | exact Ext.refl' _ | assumption | apply Ext.ex' | apply Ext.al | apply Ext.drN | apply Ext.dr)⟩) | (go_round; (case rel => exact ⟨k + 1, by omega, by go_num⟩); (case measure => simp [intOf]; omega)))
        · go_wp2
          all_goals (first | (go_ret; exact ⟨RB.mk _, by repeat (first | exact Ext.refl' _ | assumption | apply Ext.ex' | apply Ext.al | apply Ext.drN | apply Ext.dr)⟩) | (go_round; (case rel => exact ⟨k + 1, by omega, by go_num⟩); (case measure => simp [intOf]; omega)))
        · go_wp2
          all_goals (first | (go_ret; exact ⟨RB.mk _, by repeat (first | exact Ext.refl' _ | assumption | apply Ext.ex' | apply Ext.al | apply Ext.drN | apply Ext.dr)⟩) | (go_round; (case rel => exact ⟨k + 1, by omega, by go_num⟩); (case measure => simp [intOf]; omega)))
        · go_wp2
          all_goals (first | (go_ret; exact ⟨RB.mk _, by repeat (first | exact Ext.refl' _ | assumption | apply Ext.ex' | apply Ext.al | apply Ext.drN | apply Ext.dr)⟩) | (go_round; (case rel => exact ⟨k + 1, by omega, by go_num⟩); (case measure => simp [intOf]; omega)))
        · go_wp2
          all_goals (first | (go_ret; exact ⟨RB.mk _, by repeat (first | exact Ext.refl' _ | assumption | apply Ext.ex' | apply Ext.al | apply Ext.drN | apply Ext.dr)⟩) | (go_round; (case rel => exact ⟨k + 1, by omega, by go_num⟩); (case measure => simp [intOf]; omega)))
      · go_wp2_with fail
        refine (HW.out _).mono ?_
        rintro e w1 ⟨A, rfl, hr, hb1⟩
        obtain ⟨x1, rfl⟩ := hb1.get
        clear hb1
        have HR := Lib.hid hr
        clear hr
        go_wp2_with fail
        refine (HI.out _ _ (HR.out.ext (by repeat (first | exact Ext.refl' _ | assumption | apply Ext.ex' | apply Ext.al | apply Ext.drN | apply Ext.dr)))).mono ?_
        rintro e w1 ⟨⟨bb, rfl⟩, hb1⟩
        obtain ⟨x2, rfl⟩ := hb1.get
        clear hb1
        go_wp2
        go_ret
        exact ⟨RB.mk _, by repeat (first | exact Ext.refl' _ | assumption | apply Ext.ex' | apply Ext.al | apply Ext.drN | apply Ext.dr)⟩
  · clear HW HI
    go_enter Tryz.func27, Tryz.ntmps27
    go_wp2
    go_ret
    exact ⟨RB.mk _, by repeat (first | exact Ext.refl' _ | assumption | apply Ext.ex' | apply Ext.al | apply Ext.drN | apply Ext.dr)⟩
  · go_enter Tryz.func27, Tryz.ntmps27
    go_wp2
    go_loop [3, 4] (fun i v4 => ∃ k : Nat, k ≤ s.size ∧ i = .int .i64 k) (fun i _ => s.size - (intOf i).toNat)
    case atStart => exact ⟨0, Nat.zero_le _, rfl⟩
    case round =>
      clear hb h1
      obtain ⟨k, hk, rfl⟩ := hrel
      by_cases hlt : k < s.size
      · obtain ⟨b, hb⟩ : ∃ b : Nat, (s[k]'hlt).toNat = b := ⟨_, rfl⟩
        rcases (show (b < 48) ∨ (48 ≤ b ∧ b ≤ 57) ∨ (57 < b ∧ b < 95) ∨ (b = 95) ∨ (b = 96) ∨ (97 ≤ b ∧ b ≤ 122) ∨ (122 < b) from by omega) with h1 | ⟨h1, h2⟩ | ⟨h1, h2⟩ | h1 | h1 | ⟨h1, h2⟩ | h1
        · go_wp2
          all_goals (first | (go_ret; exact ⟨RB.mk _, by repeat (first | exact Ext.refl' _ | assumption | apply Ext.ex' | apply Ext.al | apply Ext.drN | apply Ext.dr)⟩) | (go_round; (case rel => exact ⟨k + 1, by omega, by go_num⟩); (case measure => simp [intOf]; omega)))
        · go_wp2
          all_goals (first | (go_ret; exact ⟨RB.mk _, by repeat (first | exact Ext.refl' _ | assumption | apply Ext.ex' | apply Ext.al | apply Ext.drN | apply Ext.dr)⟩) | (go_round; (case rel => exact ⟨k + 1, by omega, by go_num⟩); (case measure => simp [intOf]; omega)))
        · go_wp2
          all_goals (first | (go_ret; exact ⟨RB.mk _, by repeat (first | exact Ext.refl' _ | assumption | apply Ext.ex' | apply Ext.al | apply Ext.drN | apply Ext.dr)⟩) | (go_round; (case rel => exact ⟨k + 1, by omega, by go_num⟩); (case measure => simp [intOf]; omega)))
        · go_wp2
          all_goals (first | (go_ret; exact ⟨RB.mk _, by repeat (first | exact Ext.refl' _ | assumption | apply Ext.ex' | apply Ext.al | apply Ext.drN | apply Ext.dr)⟩) | (go_round; (case rel => exact ⟨k + 1, by omega, by go_num⟩); (case measure => simp [intOf]; omega)))
        · go_wp2
          all_goals (first | (go_ret; exact ⟨RB.mk _, by repeat (first | exact Ext.refl' _ | assumption | apply Ext.ex' | apply Ext.al | apply Ext.drN | apply Ext.dr)⟩) | (go_round; (case rel => exact ⟨k + 1, by omega, by go_num⟩); (case measure => simp [intOf]; omega)))
        · go_wp2
          all_goals (first | (go_ret; exact ⟨RB.mk _, by repeat (first | exact Ext.refl' _ | assumption | apply Ext.ex' | apply Ext.al | apply Ext.drN | apply Ext.dr)⟩) | (go_round; (case rel => exact ⟨k + 1, by omega, by go_num⟩); (case measure => simp [intOf]; omega)))
        · go_wp2
          all_goals (first | (go_ret; exact ⟨RB.mk _, by repeat (first | exact Ext.refl' _ | assumption | apply Ext.ex' | apply Ext.al | apply Ext.drN | apply Ext.dr)⟩) | (go_round; (case rel => exact ⟨k + 1, by omega, by go_num⟩); (case measure => simp [intOf]; omega)))
      · go_wp2_with fail
        refine (HW.out _).mono ?_
        rintro e w1 ⟨A, rfl, hr, hb1⟩
        obtain ⟨x1, rfl⟩ := hb1.get
        clear hb1
        have HR := Lib.hid hr
        clear hr
        go_wp2_with fail
        refine (HI.out _ _ (HR.out.ext (by repeat (first | exact Ext.refl' _ | assumption | apply Ext.ex' | apply Ext.al | apply Ext.drN | apply Ext.dr)))).mono ?_
        rintro e w1 ⟨⟨bb, rfl⟩, hb1⟩
        obtain ⟨x2, rfl⟩ := hb1.get
        clear hb1
        go_wp2
        go_ret
        exact ⟨RB.mk _, by repeat (first | exact Ext.refl' _ | assumption | apply Ext.ex' | apply Ext.al | apply Ext.drN | apply Ext.dr)⟩

end Go.Proofs.YtflhikpihbenaaaGreat
