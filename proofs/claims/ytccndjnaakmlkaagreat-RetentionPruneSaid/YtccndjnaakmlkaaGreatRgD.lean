/- The contracts of the reference of chapter 5: Of, Union, Intersect, Subtract, Valid. -/
import Derived.Test.YtccndjnaakmlkaaGreatRgC
set_option linter.unusedSimpArgs false
set_option linter.unusedVariables false
namespace Go.Proofs.YtccndjnaakmlkaaGreat
open Go.RowKit


theorem combN1 (A B : Option Addr) (ca cb : Nat) (a b : List Rct) (w : World) (hA : Rd w 4 A a.length (rcl a)) (hB : Rd w 4 B b.length (rcl b)) (ha : a.length ≤ 50000) (hb : b.length ≤ 50000) :
    Calls Tryz.prog 49 #[.int .i64 1, .slice A a.length ca, .slice B b.length cb] w (RdN 4 (regF ofK a b).length (rcl (regF ofK a b)) w) :=
  combinedR_any 1 (sK ofK a b) A B ca cb a b (regF ofK a b) rfl (fun t => Nat.le_trans (sK_length ofK a b t) (by omega)) ha hb (fun t w h1 h2 => rsl1_any A B ca cb a b t w h1 h2 (by omega) (by omega)) w hA hB
theorem combR1 (A B : Option Addr) (ca cb : Nat) (a b : List Rct) (w : World) (hA : Rd w 4 A a.length (rcl a)) (hB : Rd w 4 B b.length (rcl b)) (ha : a.length ≤ 50000) (hb : b.length ≤ 50000) :
    Calls Tryz.prog 49 #[.int .i64 1, .slice A a.length ca, .slice B b.length cb] w (RdP 4 (regF ofK a b).length (rcl (regF ofK a b)) w) :=
  (combN1 A B ca cb a b w hA hB ha hb).mono fun _ _ h => h.rd
theorem combN2 (A B : Option Addr) (ca cb : Nat) (a b : List Rct) (w : World) (hA : Rd w 4 A a.length (rcl a)) (hB : Rd w 4 B b.length (rcl b)) (ha : a.length ≤ 50000) (hb : b.length ≤ 50000) :
    Calls Tryz.prog 49 #[.int .i64 2, .slice A a.length ca, .slice B b.length cb] w (RdN 4 (regF interK a b).length (rcl (regF interK a b)) w) :=
  combinedR_any 2 (sK interK a b) A B ca cb a b (regF interK a b) rfl (fun t => Nat.le_trans (sK_length interK a b t) (by omega)) ha hb (fun t w h1 h2 => rsl2_any A B ca cb a b t w h1 h2 (by omega) (by omega)) w hA hB
theorem combR2 (A B : Option Addr) (ca cb : Nat) (a b : List Rct) (w : World) (hA : Rd w 4 A a.length (rcl a)) (hB : Rd w 4 B b.length (rcl b)) (ha : a.length ≤ 50000) (hb : b.length ≤ 50000) :
    Calls Tryz.prog 49 #[.int .i64 2, .slice A a.length ca, .slice B b.length cb] w (RdP 4 (regF interK a b).length (rcl (regF interK a b)) w) :=
  (combN2 A B ca cb a b w hA hB ha hb).mono fun _ _ h => h.rd
set_option maxHeartbeats 400000 in
theorem rintersectN_any (A B : Option Addr) (ca cb : Nat) (a b : List Rct) (w : World) (hA : Rd w 4 A a.length (rcl a)) (hB : Rd w 4 B b.length (rcl b)) (ha : a.length ≤ 50000) (hb : b.length ≤ 50000) :
    Calls Tryz.prog 40 #[.slice A a.length ca, .slice B b.length cb] w (RdN 4 (regF interK a b).length (rcl (regF interK a b)) w) := by
  have H := Lib.hid (fun w h1 h2 => combN2 A B ca cb a b w h1 h2 ha hb)
  generalize regF interK a b = R at H ⊢
  go_enter Tryz.func40, Tryz.ntmps40
  go_wp2_with fail
  refine Calls.mono (H.out _ hA hB) ?_
  rintro e w1 ⟨A1, c1, rfl, hb1, hP, hN⟩
  go_wp2
  go_ret
  exact ⟨A1, c1, rfl, hb1, hP, hN⟩
theorem rintersectR_any (A B : Option Addr) (ca cb : Nat) (a b : List Rct) (w : World) (hA : Rd w 4 A a.length (rcl a)) (hB : Rd w 4 B b.length (rcl b)) (ha : a.length ≤ 50000) (hb : b.length ≤ 50000) :
    Calls Tryz.prog 40 #[.slice A a.length ca, .slice B b.length cb] w (RdP 4 (regF interK a b).length (rcl (regF interK a b)) w) :=
  (rintersectN_any A B ca cb a b w hA hB ha hb).mono fun _ _ h => h.rd


theorem combN3 (A B : Option Addr) (ca cb : Nat) (a b : List Rct) (w : World) (hA : Rd w 4 A a.length (rcl a)) (hB : Rd w 4 B b.length (rcl b)) (ha : a.length ≤ 50000) (hb : b.length ≤ 50000) :
    Calls Tryz.prog 49 #[.int .i64 3, .slice A a.length ca, .slice B b.length cb] w (RdN 4 (regF subK a b).length (rcl (regF subK a b)) w) :=
  combinedR_any 3 (sK subK a b) A B ca cb a b (regF subK a b) rfl (fun t => Nat.le_trans (sK_length subK a b t) (by omega)) ha hb (fun t w h1 h2 => rsl3_any A B ca cb a b t w h1 h2 (by omega) (by omega)) w hA hB
theorem combR3 (A B : Option Addr) (ca cb : Nat) (a b : List Rct) (w : World) (hA : Rd w 4 A a.length (rcl a)) (hB : Rd w 4 B b.length (rcl b)) (ha : a.length ≤ 50000) (hb : b.length ≤ 50000) :
    Calls Tryz.prog 49 #[.int .i64 3, .slice A a.length ca, .slice B b.length cb] w (RdP 4 (regF subK a b).length (rcl (regF subK a b)) w) :=
  (combN3 A B ca cb a b w hA hB ha hb).mono fun _ _ h => h.rd
set_option maxHeartbeats 400000 in
theorem rsubtractN_any (A B : Option Addr) (ca cb : Nat) (a b : List Rct) (w : World) (hA : Rd w 4 A a.length (rcl a)) (hB : Rd w 4 B b.length (rcl b)) (ha : a.length ≤ 50000) (hb : b.length ≤ 50000) :
    Calls Tryz.prog 36 #[.slice A a.length ca, .slice B b.length cb] w (RdN 4 (regF subK a b).length (rcl (regF subK a b)) w) := by
  have H := Lib.hid (fun w h1 h2 => combN3 A B ca cb a b w h1 h2 ha hb)
  generalize regF subK a b = R at H ⊢
  go_enter Tryz.func36, Tryz.ntmps36
  go_wp2_with fail
  refine Calls.mono (H.out _ hA hB) ?_
  rintro e w1 ⟨A1, c1, rfl, hb1, hP, hN⟩
  go_wp2
  go_ret
  exact ⟨A1, c1, rfl, hb1, hP, hN⟩
theorem rsubtractR_any (A B : Option Addr) (ca cb : Nat) (a b : List Rct) (w : World) (hA : Rd w 4 A a.length (rcl a)) (hB : Rd w 4 B b.length (rcl b)) (ha : a.length ≤ 50000) (hb : b.length ≤ 50000) :
    Calls Tryz.prog 36 #[.slice A a.length ca, .slice B b.length cb] w (RdP 4 (regF subK a b).length (rcl (regF subK a b)) w) :=
  (rsubtractN_any A B ca cb a b w hA hB ha hb).mono fun _ _ h => h.rd


set_option maxHeartbeats 400000 in
theorem rofR_any (A : Option Addr) (ca : Nat) (a : List Rct) (w : World) (hA : Rd w 4 A a.length (rcl a)) (ha : a.length ≤ 50000) :
    Calls Tryz.prog 50 #[.slice A a.length ca] w (RdP 4 (regF ofK a []).length (rcl (regF ofK a [])) w) := by
  have H := Lib.hid (fun w h1 => combR1 A none ca 0 a [] w h1 Rd.nil ha (by simp))
  generalize regF ofK a [] = R at H ⊢
  go_enter Tryz.func50, Tryz.ntmps50
  go_wp2_with fail
  refine Calls.mono (H.out _ hA) ?_
  rintro e w1 ⟨A1, c1, rfl, hb1, hP⟩
  go_wp2
  go_ret
  exact ⟨A1, c1, rfl, hb1, hP⟩
theorem regF_length (k : Bool → Bool → Bool) (a b : List Rct) : True := trivial

end Go.Proofs.YtccndjnaakmlkaaGreat
