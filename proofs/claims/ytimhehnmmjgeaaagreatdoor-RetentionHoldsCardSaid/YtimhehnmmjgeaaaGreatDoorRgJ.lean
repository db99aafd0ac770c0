/- The contracts of package region: Of, Union, Intersect, Subtract, Valid; the reference Valid. -/
import Derived.Test.YtimhehnmmjgeaaaGreatDoorRgI
set_option linter.unusedSimpArgs false
set_option linter.unusedVariables false
namespace Go.Proofs.YtimhehnmmjgeaaaGreatDoor
open Go.RowKit


theorem gIntersectEnt : ∀ args w, (callFunc 53 args).run Tryz.prog w = .ok (.enter 53 args) w := enters_of Tryz.func53 (by kernel_rfl) rfl
theorem gIntersectComN (A B : Option Addr) (ca cb : Nat) (a b : List Rct) (w : World) (hA : Rd w 4 A a.length (rcl a)) (hB : Rd w 4 B b.length (rcl b)) (ha : a.length ≤ 50000) (hb : b.length ≤ 50000) :
    Calls Tryz.prog 52 #[.slice A a.length ca, .slice B b.length cb, .func (.func 53) #[] #[]] w (RdN 4 (regF interK a b).length (rcl (regF interK a b)) w) :=
  combineN_any 53 gIntersectEnt interK rfl (fun A B ca cb la lb w h1 h2 h3 h4 => sintersectO_any A B ca cb la lb w h1 h2 (by omega) (by omega)) A B ca cb a b w hA hB ha hb
theorem gIntersectCom (A B : Option Addr) (ca cb : Nat) (a b : List Rct) (w : World) (hA : Rd w 4 A a.length (rcl a)) (hB : Rd w 4 B b.length (rcl b)) (ha : a.length ≤ 50000) (hb : b.length ≤ 50000) :
    Calls Tryz.prog 52 #[.slice A a.length ca, .slice B b.length cb, .func (.func 53) #[] #[]] w (RdP 4 (regF interK a b).length (rcl (regF interK a b)) w) :=
  (gIntersectComN A B ca cb a b w hA hB ha hb).mono fun _ _ h => h.rd
set_option maxHeartbeats 400000 in
theorem gIntersectN_any (A B : Option Addr) (ca cb : Nat) (a b : List Rct) (w : World) (hA : Rd w 4 A a.length (rcl a)) (hB : Rd w 4 B b.length (rcl b)) (ha : a.length ≤ 50000) (hb : b.length ≤ 50000) :
    Calls Tryz.prog 36 #[.slice A a.length ca, .slice B b.length cb] w (RdN 4 (regF interK a b).length (rcl (regF interK a b)) w) := by
  have H := Lib.hid (fun w h1 h2 => gIntersectComN A B ca cb a b w h1 h2 ha hb)
  generalize regF interK a b = R at H ⊢
  go_enter Tryz.func36, Tryz.ntmps36
  go_wp2_with fail
  refine Calls.mono (H.out _ hA hB) ?_
  rintro e w1 ⟨A1, c1, rfl, hb1, hP, hN⟩
  go_wp2
  go_ret
  exact ⟨A1, c1, rfl, hb1, hP, hN⟩
theorem gIntersect_any (A B : Option Addr) (ca cb : Nat) (a b : List Rct) (w : World) (hA : Rd w 4 A a.length (rcl a)) (hB : Rd w 4 B b.length (rcl b)) (ha : a.length ≤ 50000) (hb : b.length ≤ 50000) :
    Calls Tryz.prog 36 #[.slice A a.length ca, .slice B b.length cb] w (RdP 4 (regF interK a b).length (rcl (regF interK a b)) w) :=
  (gIntersectN_any A B ca cb a b w hA hB ha hb).mono fun _ _ h => h.rd


theorem gSubtractEnt : ∀ args w, (callFunc 54 args).run Tryz.prog w = .ok (.enter 54 args) w := enters_of Tryz.func54 (by kernel_rfl) rfl
theorem gSubtractComN (A B : Option Addr) (ca cb : Nat) (a b : List Rct) (w : World) (hA : Rd w 4 A a.length (rcl a)) (hB : Rd w 4 B b.length (rcl b)) (ha : a.length ≤ 50000) (hb : b.length ≤ 50000) :
    Calls Tryz.prog 52 #[.slice A a.length ca, .slice B b.length cb, .func (.func 54) #[] #[]] w (RdN 4 (regF subK a b).length (rcl (regF subK a b)) w) :=
  combineN_any 54 gSubtractEnt subK rfl (fun A B ca cb la lb w h1 h2 h3 h4 => ssubtractO_any A B ca cb la lb w h1 h2 (by omega) (by omega)) A B ca cb a b w hA hB ha hb
theorem gSubtractCom (A B : Option Addr) (ca cb : Nat) (a b : List Rct) (w : World) (hA : Rd w 4 A a.length (rcl a)) (hB : Rd w 4 B b.length (rcl b)) (ha : a.length ≤ 50000) (hb : b.length ≤ 50000) :
    Calls Tryz.prog 52 #[.slice A a.length ca, .slice B b.length cb, .func (.func 54) #[] #[]] w (RdP 4 (regF subK a b).length (rcl (regF subK a b)) w) :=
  (gSubtractComN A B ca cb a b w hA hB ha hb).mono fun _ _ h => h.rd
set_option maxHeartbeats 400000 in
theorem gSubtractN_any (A B : Option Addr) (ca cb : Nat) (a b : List Rct) (w : World) (hA : Rd w 4 A a.length (rcl a)) (hB : Rd w 4 B b.length (rcl b)) (ha : a.length ≤ 50000) (hb : b.length ≤ 50000) :
    Calls Tryz.prog 38 #[.slice A a.length ca, .slice B b.length cb] w (RdN 4 (regF subK a b).length (rcl (regF subK a b)) w) := by
  have H := Lib.hid (fun w h1 h2 => gSubtractComN A B ca cb a b w h1 h2 ha hb)
  generalize regF subK a b = R at H ⊢
  go_enter Tryz.func38, Tryz.ntmps38
  go_wp2_with fail
  refine Calls.mono (H.out _ hA hB) ?_
  rintro e w1 ⟨A1, c1, rfl, hb1, hP, hN⟩
  go_wp2
  go_ret
  exact ⟨A1, c1, rfl, hb1, hP, hN⟩
theorem gSubtract_any (A B : Option Addr) (ca cb : Nat) (a b : List Rct) (w : World) (hA : Rd w 4 A a.length (rcl a)) (hB : Rd w 4 B b.length (rcl b)) (ha : a.length ≤ 50000) (hb : b.length ≤ 50000) :
    Calls Tryz.prog 38 #[.slice A a.length ca, .slice B b.length cb] w (RdP 4 (regF subK a b).length (rcl (regF subK a b)) w) :=
  (gSubtractN_any A B ca cb a b w hA hB ha hb).mono fun _ _ h => h.rd


end Go.Proofs.YtimhehnmmjgeaaaGreatDoor
