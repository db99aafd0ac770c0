/- The reference of expressions: all, Join. -/
import Derived.Test.YtflhikpihbenaaaGreatVpk
import Derived.Test.YtflhikpihbenaaaGreatCds
set_option linter.unusedSimpArgs false
set_option linter.unusedVariables false
namespace Go.Proofs.YtflhikpihbenaaaGreat
open Go.RowKit


/-- some bool; some kind and bool -/
def RB (e : Ending) : Prop := ∃ b : Bool, e = .returned (.bool b)
def RKB (e : Ending) : Prop := ∃ (k : Int) (b : Bool), e = .returned (.tuple #[.int .i64 k, .bool b])
set_option maxHeartbeats 800000 in
theorem all_any (A : Option Addr) (c : Nat) (l : List Int) (kd : Int) (w : World) (hA : Rd w 1 A l.length (ic l)) (nl : l.length ≤ 9223372036854775807) :
    Calls Tryz.prog 71 #[.slice A l.length c, .int .i64 kd] w fun e w' => RB e ∧ Ext w w' := by
  go_enter Tryz.func71, Tryz.ntmps71
  go_wp2
  go_loop [5] (fun i => ∃ k : Nat, k ≤ l.length ∧ i = .int .i64 k) (fun i => l.length - (intOf i).toNat)
  case atStart => exact ⟨0, Nat.zero_le _, rfl⟩
  case round =>
    obtain ⟨k, hk, rfl⟩ := hrel
    by_cases hlt : k < l.length
    · obtain ⟨g, oo, rfl, hg, c0⟩ := hA.int hlt
      generalize l[k] = v at c0
      by_cases h1 : v = kd
      · go_wp2
        go_round
        case rel => exact ⟨k + 1, by omega, by go_num⟩
        case measure => simp [intOf]; omega
      · by_cases h2 : v = 0
        · go_wp2
          go_round
          case rel => exact ⟨k + 1, by omega, by go_num⟩
          case measure => simp [intOf]; omega
        · go_wp2
          · go_ret
            exact ⟨⟨_, rfl⟩, Ext.refl' _⟩
          · exfalso; simp_all
    · go_wp2
      go_ret
      exact ⟨⟨_, rfl⟩, Ext.refl' _⟩
set_option maxHeartbeats 800000 in
theorem join_any (A : Option Addr) (c : Nat) (l : List Int) (w : World) (hA : Rd w 1 A l.length (ic l)) (nl : l.length ≤ 9223372036854775807) :
    Calls Tryz.prog 72 #[.slice A l.length c] w fun e w' => RKB e ∧ Ext w w' := by
  go_enter Tryz.func72, Tryz.ntmps72
  go_wp2
  go_loop [4, 5] (fun q i => ∃ (k : Nat) (acc : Int), k ≤ l.length ∧ q = .int .i64 acc ∧ i = .int .i64 k) (fun _ i => l.length - (intOf i).toNat)
  case atStart => exact ⟨0, 0, Nat.zero_le _, rfl, rfl⟩
  case round =>
    obtain ⟨k, acc, hk, rfl, rfl⟩ := hrel
    by_cases hlt : k < l.length
    · obtain ⟨g, oo, rfl, hg, c0⟩ := hA.int hlt
      generalize l[k] = v at c0
      by_cases h1 : v = 0
      · go_wp2
        go_round
        case rel => exact ⟨k + 1, acc, by omega, rfl, by go_num⟩
        case measure => simp [intOf]; omega
      · by_cases h2 : acc = 0
        · go_wp2
          go_round
          case rel => exact ⟨k + 1, v, by omega, rfl, by go_num⟩
          case measure => simp [intOf]; omega
        · by_cases h3 : acc = v
          · go_wp2
            go_round
            case rel => exact ⟨k + 1, v, by omega, rfl, by go_num⟩
            case measure => simp [intOf]; omega
          · go_wp2
            · refine bodyPost_ret (v := .tuple #[.int .i64 0, .bool false]) ?_ rfl ⟨⟨_, _, rfl⟩, Ext.refl' _⟩
              simp [results, Tryz.results72, go_sem]
            · exfalso; simp_all
    · go_wp2
      refine bodyPost_ret (v := .tuple #[.int .i64 acc, .bool true]) ?_ rfl ⟨⟨_, _, rfl⟩, Ext.refl' _⟩
      simp [results, Tryz.results72, go_sem]

end Go.Proofs.YtflhikpihbenaaaGreat
