/- The walk of the law SpanPoints. -/
import Derived.Test.YtogfageapejmpaaSpG
set_option linter.unusedSimpArgs false
set_option linter.unusedVariables false
namespace Go.Proofs.Ytogfageapejmpaa
open Go.RowKit


set_option maxRecDepth 100000 in
set_option maxHeartbeats 8000000 in
theorem lawPoints_any (A : Option Addr) (ca : Nat) (a : List (Int × Int)) (B : Option Addr) (cb : Nat) (b : List (Int × Int)) (t : Int) (w : World) (ha : Rd w 2 A a.length (pc a)) (hb : Rd w 2 B b.length (pc b)) (na : a.length ≤ 9223372036854775807) (nb : b.length ≤ 9223372036854775807) :
    Calls Try.prog 8 #[.slice A a.length ca, .slice B b.length cb, .int .i64 t] w fun e w' => e = .returned (.bool true) ∧ Ext w w' := by

  by_cases ga : 30 < a.length
  · go_enter Try.func8, Try.ntmps8
    go_wp2_with fail
    refine Calls.mono (awake_any _) ?_
    rintro e w1 ⟨rfl, hb1⟩
    obtain ⟨x1, rfl⟩ := hb1.get
    clear hb1
    go_wp2
    go_ret
    exact ⟨rfl, by repeat (first | exact Ext.refl' _ | assumption | apply Ext.ex' | apply Ext.al | apply Ext.drN | apply Ext.dr)⟩
  · skip
    by_cases gb : 30 < b.length
    · go_enter Try.func8, Try.ntmps8
      go_wp2_with fail
      refine Calls.mono (awake_any _) ?_
      rintro e w1 ⟨rfl, hb1⟩
      obtain ⟨x1, rfl⟩ := hb1.get
      clear hb1
      go_wp2
      go_ret
      exact ⟨rfl, by repeat (first | exact Ext.refl' _ | assumption | apply Ext.ex' | apply Ext.al | apply Ext.drN | apply Ext.dr)⟩
    · skip
      rcases Int.lt_or_le t 0 with h0 | h0
      · have hin : decide (0 ≤ t ∧ t < 1099511627776) = false := decide_eq_false (by omega)
        have hx : inL a t = false := by rw [Bool.eq_false_iff]; intro h; have := inL_rng h; omega
        have hy : inL b t = false := by rw [Bool.eq_false_iff]; intro h; have := inL_rng h; omega
        have G1 := Lib.hid (fun w h => rcont_any A ca a t w h (by omega))
        rw [hx] at G1
        have G2 := Lib.hid (fun w h => rcont_any B cb b t w h (by omega))
        rw [hy] at G2
        have G3 := Lib.hid (fun w h1 h2 => sunion_any A B ca cb a b w h1 h2 (by omega) (by omega))
        have G4 := Lib.hid (fun w h1 h2 => sintersect_any A B ca cb a b w h1 h2 (by omega) (by omega))
        have G5 := Lib.hid (fun w h1 h2 => ssubtract_any A B ca cb a b w h1 h2 (by omega) (by omega))
        have G6 := Lib.hid (fun w h1 => scomplement_any A ca a w h1 (by omega))
        have b1 := can_short (combF_can ofK a b)
        have b2 := can_short (combF_can interK a b)
        have b3 := can_short (combF_can subK a b)
        have b4 := can_short (combF_can norK a [])
        have v1 := Lib.hid ((canF_can _).2 (combF_can ofK a b))
        have v2 := Lib.hid ((canF_can _).2 (combF_can interK a b))
        have v3 := Lib.hid ((canF_can _).2 (combF_can subK a b))
        have v4 := Lib.hid ((canF_can _).2 (combF_can norK a []))
        have m1 : Hid (inL (combF ofK a b) t = false) := Lib.hid (by rw [combF_in, hx, hy, hin]; rfl)
        have m2 : Hid (inL (combF interK a b) t = false) := Lib.hid (by rw [combF_in, hx, hy, hin]; rfl)
        have m3 : Hid (inL (combF subK a b) t = false) := Lib.hid (by rw [combF_in, hx, hy, hin]; rfl)
        have m4 : Hid (inL (combF norK a []) t = false) := Lib.hid (by rw [combF_in, hx, hin]; rfl)
        clear hx hy hin
        generalize combF ofK a b = r1 at G3 b1 v1 m1
        generalize combF interK a b = r2 at G4 b2 v2 m2
        generalize combF subK a b = r3 at G5 b3 v3 m3
        generalize combF norK a [] = r4 at G6 b4 v4 m4
        have V := Lib.hid (fun A c l w h hl (hv : canF none l = true) => (by have := rvalidL_any A c l w h hl; rw [hv] at this; exact this : Calls Try.prog 35 #[.slice A l.length c] w fun e w' => e = .returned (.bool true) ∧ Ext w w'))
        have K := Lib.hid (fun A c l w (v : Bool) h hl (hv : inL l t = v) => (by have := scont_any A c l t w h hl; rw [hv] at this; exact this : Calls Try.prog 36 #[.slice A l.length c, .int .i64 t] w fun e w' => e = .returned (.bool v) ∧ Ext w w'))
        go_enter Try.func8, Try.ntmps8
        go_wp2_with fail
        refine Calls.mono (G1.out _ (ha.ext (by repeat (first | exact Ext.refl' _ | assumption | apply Ext.ex' | apply Ext.al | apply Ext.drN | apply Ext.dr)))) ?_
        rintro e w1 ⟨rfl, hb1⟩
        obtain ⟨x1, rfl⟩ := hb1.get
        clear hb1
        go_wp2_with fail
        refine Calls.mono (G2.out _ (hb.ext (by repeat (first | exact Ext.refl' _ | assumption | apply Ext.ex' | apply Ext.al | apply Ext.drN | apply Ext.dr)))) ?_
        rintro e w1 ⟨rfl, hb1⟩
        obtain ⟨x2, rfl⟩ := hb1.get
        clear hb1
        go_wp2_with fail
        refine Calls.mono (G3.out _ (ha.ext (by repeat (first | exact Ext.refl' _ | assumption | apply Ext.ex' | apply Ext.al | apply Ext.drN | apply Ext.dr))) (hb.ext (by repeat (first | exact Ext.refl' _ | assumption | apply Ext.ex' | apply Ext.al | apply Ext.drN | apply Ext.dr)))) ?_
        rintro e w1 ⟨A3, c3, rfl, hb1, hR3⟩
        obtain ⟨x3, rfl⟩ := hb1.get
        clear hb1
        go_wp2_with fail
        refine Calls.mono (G4.out _ (ha.ext (by repeat (first | exact Ext.refl' _ | assumption | apply Ext.ex' | apply Ext.al | apply Ext.drN | apply Ext.dr))) (hb.ext (by repeat (first | exact Ext.refl' _ | assumption | apply Ext.ex' | apply Ext.al | apply Ext.drN | apply Ext.dr)))) ?_
        rintro e w1 ⟨A4, c4, rfl, hb1, hR4⟩
        obtain ⟨x4, rfl⟩ := hb1.get
        clear hb1
        go_wp2_with fail
        refine Calls.mono (G5.out _ (ha.ext (by repeat (first | exact Ext.refl' _ | assumption | apply Ext.ex' | apply Ext.al | apply Ext.drN | apply Ext.dr))) (hb.ext (by repeat (first | exact Ext.refl' _ | assumption | apply Ext.ex' | apply Ext.al | apply Ext.drN | apply Ext.dr)))) ?_
        rintro e w1 ⟨A5, c5, rfl, hb1, hR5⟩
        obtain ⟨x5, rfl⟩ := hb1.get
        clear hb1
        go_wp2_with fail
        refine Calls.mono (G6.out _ (ha.ext (by repeat (first | exact Ext.refl' _ | assumption | apply Ext.ex' | apply Ext.al | apply Ext.drN | apply Ext.dr)))) ?_
        rintro e w1 ⟨A6, c6, rfl, hb1, hR6⟩
        obtain ⟨x6, rfl⟩ := hb1.get
        clear hb1
        go_wp2_with fail
        refine Calls.mono (V.out _ _ r1 _ (hR3.ext (by repeat (first | exact Ext.refl' _ | assumption | apply Ext.ex' | apply Ext.al | apply Ext.drN | apply Ext.dr))) (by omega) v1.out) ?_
        rintro e w1 ⟨rfl, hb1⟩
        obtain ⟨x7, rfl⟩ := hb1.get
        clear hb1
        go_wp2_with fail
        refine Calls.mono (V.out _ _ r2 _ (hR4.ext (by repeat (first | exact Ext.refl' _ | assumption | apply Ext.ex' | apply Ext.al | apply Ext.drN | apply Ext.dr))) (by omega) v2.out) ?_
        rintro e w1 ⟨rfl, hb1⟩
        obtain ⟨x8, rfl⟩ := hb1.get
        clear hb1
        go_wp2_with fail
        refine Calls.mono (V.out _ _ r3 _ (hR5.ext (by repeat (first | exact Ext.refl' _ | assumption | apply Ext.ex' | apply Ext.al | apply Ext.drN | apply Ext.dr))) (by omega) v3.out) ?_
        rintro e w1 ⟨rfl, hb1⟩
        obtain ⟨x9, rfl⟩ := hb1.get
        clear hb1
        go_wp2_with fail
        refine Calls.mono (V.out _ _ r4 _ (hR6.ext (by repeat (first | exact Ext.refl' _ | assumption | apply Ext.ex' | apply Ext.al | apply Ext.drN | apply Ext.dr))) (by omega) v4.out) ?_
        rintro e w1 ⟨rfl, hb1⟩
        obtain ⟨x10, rfl⟩ := hb1.get
        clear hb1
        go_wp2_with fail
        refine Calls.mono (K.out _ _ r1 _ _ (hR3.ext (by repeat (first | exact Ext.refl' _ | assumption | apply Ext.ex' | apply Ext.al | apply Ext.drN | apply Ext.dr))) (by omega) m1.out) ?_
        rintro e w1 ⟨rfl, hb1⟩
        obtain ⟨x11, rfl⟩ := hb1.get
        clear hb1
        go_wp2_with fail
        refine Calls.mono (K.out _ _ r2 _ _ (hR4.ext (by repeat (first | exact Ext.refl' _ | assumption | apply Ext.ex' | apply Ext.al | apply Ext.drN | apply Ext.dr))) (by omega) m2.out) ?_
        rintro e w1 ⟨rfl, hb1⟩
        obtain ⟨x12, rfl⟩ := hb1.get
        clear hb1
        go_wp2_with fail
        refine Calls.mono (K.out _ _ r3 _ _ (hR5.ext (by repeat (first | exact Ext.refl' _ | assumption | apply Ext.ex' | apply Ext.al | apply Ext.drN | apply Ext.dr))) (by omega) m3.out) ?_
        rintro e w1 ⟨rfl, hb1⟩
        obtain ⟨x13, rfl⟩ := hb1.get
        clear hb1
        go_wp2_with fail
        refine Calls.mono (K.out _ _ r4 _ _ (hR6.ext (by repeat (first | exact Ext.refl' _ | assumption | apply Ext.ex' | apply Ext.al | apply Ext.drN | apply Ext.dr))) (by omega) m4.out) ?_
        rintro e w1 ⟨rfl, hb1⟩
        obtain ⟨x14, rfl⟩ := hb1.get
        clear hb1
        go_wp2_with fail
        refine Calls.mono (awake_any _) ?_
        rintro e w1 ⟨rfl, hb1⟩
        obtain ⟨x15, rfl⟩ := hb1.get
        clear hb1
        go_wp2
        go_ret
        exact ⟨rfl, by repeat (first | exact Ext.refl' _ | assumption | apply Ext.ex' | apply Ext.al | apply Ext.drN | apply Ext.dr)⟩
      · rcases Int.lt_or_le t 1099511627776 with h1 | h1
        · have hin : decide (0 ≤ t ∧ t < 1099511627776) = true := decide_eq_true (by omega)
          rcases hx : inL a t with _ | _
          · rcases hy : inL b t with _ | _
            · have G1 := Lib.hid (fun w h => rcont_any A ca a t w h (by omega))
              rw [hx] at G1
              have G2 := Lib.hid (fun w h => rcont_any B cb b t w h (by omega))
              rw [hy] at G2
              have G3 := Lib.hid (fun w h1 h2 => sunion_any A B ca cb a b w h1 h2 (by omega) (by omega))
              have G4 := Lib.hid (fun w h1 h2 => sintersect_any A B ca cb a b w h1 h2 (by omega) (by omega))
              have G5 := Lib.hid (fun w h1 h2 => ssubtract_any A B ca cb a b w h1 h2 (by omega) (by omega))
              have G6 := Lib.hid (fun w h1 => scomplement_any A ca a w h1 (by omega))
              have b1 := can_short (combF_can ofK a b)
              have b2 := can_short (combF_can interK a b)
              have b3 := can_short (combF_can subK a b)
              have b4 := can_short (combF_can norK a [])
              have v1 := Lib.hid ((canF_can _).2 (combF_can ofK a b))
              have v2 := Lib.hid ((canF_can _).2 (combF_can interK a b))
              have v3 := Lib.hid ((canF_can _).2 (combF_can subK a b))
              have v4 := Lib.hid ((canF_can _).2 (combF_can norK a []))
              have m1 : Hid (inL (combF ofK a b) t = false) := Lib.hid (by rw [combF_in, hx, hy, hin]; rfl)
              have m2 : Hid (inL (combF interK a b) t = false) := Lib.hid (by rw [combF_in, hx, hy, hin]; rfl)
              have m3 : Hid (inL (combF subK a b) t = false) := Lib.hid (by rw [combF_in, hx, hy, hin]; rfl)
              have m4 : Hid (inL (combF norK a []) t = true) := Lib.hid (by rw [combF_in, hx, hin]; rfl)
              clear hx hy hin
              generalize combF ofK a b = r1 at G3 b1 v1 m1
              generalize combF interK a b = r2 at G4 b2 v2 m2
              generalize combF subK a b = r3 at G5 b3 v3 m3
              generalize combF norK a [] = r4 at G6 b4 v4 m4
              have V := Lib.hid (fun A c l w h hl (hv : canF none l = true) => (by have := rvalidL_any A c l w h hl; rw [hv] at this; exact this : Calls Try.prog 35 #[.slice A l.length c] w fun e w' => e = .returned (.bool true) ∧ Ext w w'))
              have K := Lib.hid (fun A c l w (v : Bool) h hl (hv : inL l t = v) => (by have := scont_any A c l t w h hl; rw [hv] at this; exact this : Calls Try.prog 36 #[.slice A l.length c, .int .i64 t] w fun e w' => e = .returned (.bool v) ∧ Ext w w'))
              go_enter Try.func8, Try.ntmps8
              go_wp2_with fail
              refine Calls.mono (G1.out _ (ha.ext (by repeat (first | exact Ext.refl' _ | assumption | apply Ext.ex' | apply Ext.al | apply Ext.drN | apply Ext.dr)))) ?_
              rintro e w1 ⟨rfl, hb1⟩
              obtain ⟨x1, rfl⟩ := hb1.get
              clear hb1
              go_wp2_with fail
              refine Calls.mono (G2.out _ (hb.ext (by repeat (first | exact Ext.refl' _ | assumption | apply Ext.ex' | apply Ext.al | apply Ext.drN | apply Ext.dr)))) ?_
              rintro e w1 ⟨rfl, hb1⟩
              obtain ⟨x2, rfl⟩ := hb1.get
              clear hb1
              go_wp2_with fail
              refine Calls.mono (G3.out _ (ha.ext (by repeat (first | exact Ext.refl' _ | assumption | apply Ext.ex' | apply Ext.al | apply Ext.drN | apply Ext.dr))) (hb.ext (by repeat (first | exact Ext.refl' _ | assumption | apply Ext.ex' | apply Ext.al | apply Ext.drN | apply Ext.dr)))) ?_
              rintro e w1 ⟨A3, c3, rfl, hb1, hR3⟩
              obtain ⟨x3, rfl⟩ := hb1.get
              clear hb1
              go_wp2_with fail
              refine Calls.mono (G4.out _ (ha.ext (by repeat (first | exact Ext.refl' _ | assumption | apply Ext.ex' | apply Ext.al | apply Ext.drN | apply Ext.dr))) (hb.ext (by repeat (first | exact Ext.refl' _ | assumption | apply Ext.ex' | apply Ext.al | apply Ext.drN | apply Ext.dr)))) ?_
              rintro e w1 ⟨A4, c4, rfl, hb1, hR4⟩
              obtain ⟨x4, rfl⟩ := hb1.get
              clear hb1
              go_wp2_with fail
              refine Calls.mono (G5.out _ (ha.ext (by repeat (first | exact Ext.refl' _ | assumption | apply Ext.ex' | apply Ext.al | apply Ext.drN | apply Ext.dr))) (hb.ext (by repeat (first | exact Ext.refl' _ | assumption | apply Ext.ex' | apply Ext.al | apply Ext.drN | apply Ext.dr)))) ?_
              rintro e w1 ⟨A5, c5, rfl, hb1, hR5⟩
              obtain ⟨x5, rfl⟩ := hb1.get
              clear hb1
              go_wp2_with fail
              refine Calls.mono (G6.out _ (ha.ext (by repeat (first | exact Ext.refl' _ | assumption | apply Ext.ex' | apply Ext.al | apply Ext.drN | apply Ext.dr)))) ?_
              rintro e w1 ⟨A6, c6, rfl, hb1, hR6⟩
              obtain ⟨x6, rfl⟩ := hb1.get
              clear hb1
              go_wp2_with fail
              refine Calls.mono (V.out _ _ r1 _ (hR3.ext (by repeat (first | exact Ext.refl' _ | assumption | apply Ext.ex' | apply Ext.al | apply Ext.drN | apply Ext.dr))) (by omega) v1.out) ?_
              rintro e w1 ⟨rfl, hb1⟩
              obtain ⟨x7, rfl⟩ := hb1.get
              clear hb1
              go_wp2_with fail
              refine Calls.mono (V.out _ _ r2 _ (hR4.ext (by repeat (first | exact Ext.refl' _ | assumption | apply Ext.ex' | apply Ext.al | apply Ext.drN | apply Ext.dr))) (by omega) v2.out) ?_
              rintro e w1 ⟨rfl, hb1⟩
              obtain ⟨x8, rfl⟩ := hb1.get
              clear hb1
              go_wp2_with fail
              refine Calls.mono (V.out _ _ r3 _ (hR5.ext (by repeat (first | exact Ext.refl' _ | assumption | apply Ext.ex' | apply Ext.al | apply Ext.drN | apply Ext.dr))) (by omega) v3.out) ?_
              rintro e w1 ⟨rfl, hb1⟩
              obtain ⟨x9, rfl⟩ := hb1.get
              clear hb1
              go_wp2_with fail
              refine Calls.mono (V.out _ _ r4 _ (hR6.ext (by repeat (first | exact Ext.refl' _ | assumption | apply Ext.ex' | apply Ext.al | apply Ext.drN | apply Ext.dr))) (by omega) v4.out) ?_
              rintro e w1 ⟨rfl, hb1⟩
              obtain ⟨x10, rfl⟩ := hb1.get
              clear hb1
              go_wp2_with fail
              refine Calls.mono (K.out _ _ r1 _ _ (hR3.ext (by repeat (first | exact Ext.refl' _ | assumption | apply Ext.ex' | apply Ext.al | apply Ext.drN | apply Ext.dr))) (by omega) m1.out) ?_
              rintro e w1 ⟨rfl, hb1⟩
              obtain ⟨x11, rfl⟩ := hb1.get
              clear hb1
              go_wp2_with fail
              refine Calls.mono (K.out _ _ r2 _ _ (hR4.ext (by repeat (first | exact Ext.refl' _ | assumption | apply Ext.ex' | apply Ext.al | apply Ext.drN | apply Ext.dr))) (by omega) m2.out) ?_
              rintro e w1 ⟨rfl, hb1⟩
              obtain ⟨x12, rfl⟩ := hb1.get
              clear hb1
              go_wp2_with fail
              refine Calls.mono (K.out _ _ r3 _ _ (hR5.ext (by repeat (first | exact Ext.refl' _ | assumption | apply Ext.ex' | apply Ext.al | apply Ext.drN | apply Ext.dr))) (by omega) m3.out) ?_
              rintro e w1 ⟨rfl, hb1⟩
              obtain ⟨x13, rfl⟩ := hb1.get
              clear hb1
              go_wp2_with fail
              refine Calls.mono (K.out _ _ r4 _ _ (hR6.ext (by repeat (first | exact Ext.refl' _ | assumption | apply Ext.ex' | apply Ext.al | apply Ext.drN | apply Ext.dr))) (by omega) m4.out) ?_
              rintro e w1 ⟨rfl, hb1⟩
              obtain ⟨x14, rfl⟩ := hb1.get
              clear hb1
              go_wp2_with fail
              refine Calls.mono (awake_any _) ?_
              rintro e w1 ⟨rfl, hb1⟩
              obtain ⟨x15, rfl⟩ := hb1.get
              clear hb1
              go_wp2
              go_ret
              exact ⟨rfl, by repeat (first | exact Ext.refl' _ | assumption | apply Ext.ex' | apply Ext.al | apply Ext.drN | apply Ext.dr)⟩
            · have G1 := Lib.hid (fun w h => rcont_any A ca a t w h (by omega))
              rw [hx] at G1
              have G2 := Lib.hid (fun w h => rcont_any B cb b t w h (by omega))
              rw [hy] at G2
              have G3 := Lib.hid (fun w h1 h2 => sunion_any A B ca cb a b w h1 h2 (by omega) (by omega))
              have G4 := Lib.hid (fun w h1 h2 => sintersect_any A B ca cb a b w h1 h2 (by omega) (by omega))
              have G5 := Lib.hid (fun w h1 h2 => ssubtract_any A B ca cb a b w h1 h2 (by omega) (by omega))
              have G6 := Lib.hid (fun w h1 => scomplement_any A ca a w h1 (by omega))
              have b1 := can_short (combF_can ofK a b)
              have b2 := can_short (combF_can interK a b)
              have b3 := can_short (combF_can subK a b)
              have b4 := can_short (combF_can norK a [])
              have v1 := Lib.hid ((canF_can _).2 (combF_can ofK a b))
              have v2 := Lib.hid ((canF_can _).2 (combF_can interK a b))
              have v3 := Lib.hid ((canF_can _).2 (combF_can subK a b))
              have v4 := Lib.hid ((canF_can _).2 (combF_can norK a []))
              have m1 : Hid (inL (combF ofK a b) t = true) := Lib.hid (by rw [combF_in, hx, hy, hin]; rfl)
              have m2 : Hid (inL (combF interK a b) t = false) := Lib.hid (by rw [combF_in, hx, hy, hin]; rfl)
              have m3 : Hid (inL (combF subK a b) t = false) := Lib.hid (by rw [combF_in, hx, hy, hin]; rfl)
              have m4 : Hid (inL (combF norK a []) t = true) := Lib.hid (by rw [combF_in, hx, hin]; rfl)
              clear hx hy hin
              generalize combF ofK a b = r1 at G3 b1 v1 m1
              generalize combF interK a b = r2 at G4 b2 v2 m2
              generalize combF subK a b = r3 at G5 b3 v3 m3
              generalize combF norK a [] = r4 at G6 b4 v4 m4
              have V := Lib.hid (fun A c l w h hl (hv : canF none l = true) => (by have := rvalidL_any A c l w h hl; rw [hv] at this; exact this : Calls Try.prog 35 #[.slice A l.length c] w fun e w' => e = .returned (.bool true) ∧ Ext w w'))
              have K := Lib.hid (fun A c l w (v : Bool) h hl (hv : inL l t = v) => (by have := scont_any A c l t w h hl; rw [hv] at this; exact this : Calls Try.prog 36 #[.slice A l.length c, .int .i64 t] w fun e w' => e = .returned (.bool v) ∧ Ext w w'))
              go_enter Try.func8, Try.ntmps8
              go_wp2_with fail
              refine Calls.mono (G1.out _ (ha.ext (by repeat (first | exact Ext.refl' _ | assumption | apply Ext.ex' | apply Ext.al | apply Ext.drN | apply Ext.dr)))) ?_
              rintro e w1 ⟨rfl, hb1⟩
              obtain ⟨x1, rfl⟩ := hb1.get
              clear hb1
              go_wp2_with fail
              refine Calls.mono (G2.out _ (hb.ext (by repeat (first | exact Ext.refl' _ | assumption | apply Ext.ex' | apply Ext.al | apply Ext.drN | apply Ext.dr)))) ?_
              rintro e w1 ⟨rfl, hb1⟩
              obtain ⟨x2, rfl⟩ := hb1.get
              clear hb1
              go_wp2_with fail
              refine Calls.mono (G3.out _ (ha.ext (by repeat (first | exact Ext.refl' _ | assumption | apply Ext.ex' | apply Ext.al | apply Ext.drN | apply Ext.dr))) (hb.ext (by repeat (first | exact Ext.refl' _ | assumption | apply Ext.ex' | apply Ext.al | apply Ext.drN | apply Ext.dr)))) ?_
              rintro e w1 ⟨A3, c3, rfl, hb1, hR3⟩
              obtain ⟨x3, rfl⟩ := hb1.get
              clear hb1
              go_wp2_with fail
              refine Calls.mono (G4.out _ (ha.ext (by repeat (first | exact Ext.refl' _ | assumption | apply Ext.ex' | apply Ext.al | apply Ext.drN | apply Ext.dr))) (hb.ext (by repeat (first | exact Ext.refl' _ | assumption | apply Ext.ex' | apply Ext.al | apply Ext.drN | apply Ext.dr)))) ?_
              rintro e w1 ⟨A4, c4, rfl, hb1, hR4⟩
              obtain ⟨x4, rfl⟩ := hb1.get
              clear hb1
              go_wp2_with fail
              refine Calls.mono (G5.out _ (ha.ext (by repeat (first | exact Ext.refl' _ | assumption | apply Ext.ex' | apply Ext.al | apply Ext.drN | apply Ext.dr))) (hb.ext (by repeat (first | exact Ext.refl' _ | assumption | apply Ext.ex' | apply Ext.al | apply Ext.drN | apply Ext.dr)))) ?_
              rintro e w1 ⟨A5, c5, rfl, hb1, hR5⟩
              obtain ⟨x5, rfl⟩ := hb1.get
              clear hb1
              go_wp2_with fail
              refine Calls.mono (G6.out _ (ha.ext (by repeat (first | exact Ext.refl' _ | assumption | apply Ext.ex' | apply Ext.al | apply Ext.drN | apply Ext.dr)))) ?_
              rintro e w1 ⟨A6, c6, rfl, hb1, hR6⟩
              obtain ⟨x6, rfl⟩ := hb1.get
              clear hb1
              go_wp2_with fail
              refine Calls.mono (V.out _ _ r1 _ (hR3.ext (by repeat (first | exact Ext.refl' _ | assumption | apply Ext.ex' | apply Ext.al | apply Ext.drN | apply Ext.dr))) (by omega) v1.out) ?_
              rintro e w1 ⟨rfl, hb1⟩
              obtain ⟨x7, rfl⟩ := hb1.get
              clear hb1
              go_wp2_with fail
              refine Calls.mono (V.out _ _ r2 _ (hR4.ext (by repeat (first | exact Ext.refl' _ | assumption | apply Ext.ex' | apply Ext.al | apply Ext.drN | apply Ext.dr))) (by omega) v2.out) ?_
              rintro e w1 ⟨rfl, hb1⟩
              obtain ⟨x8, rfl⟩ := hb1.get
              clear hb1
              go_wp2_with fail
              refine Calls.mono (V.out _ _ r3 _ (hR5.ext (by repeat (first | exact Ext.refl' _ | assumption | apply Ext.ex' | apply Ext.al | apply Ext.drN | apply Ext.dr))) (by omega) v3.out) ?_
              rintro e w1 ⟨rfl, hb1⟩
              obtain ⟨x9, rfl⟩ := hb1.get
              clear hb1
              go_wp2_with fail
              refine Calls.mono (V.out _ _ r4 _ (hR6.ext (by repeat (first | exact Ext.refl' _ | assumption | apply Ext.ex' | apply Ext.al | apply Ext.drN | apply Ext.dr))) (by omega) v4.out) ?_
              rintro e w1 ⟨rfl, hb1⟩
              obtain ⟨x10, rfl⟩ := hb1.get
              clear hb1
              go_wp2_with fail
              refine Calls.mono (K.out _ _ r1 _ _ (hR3.ext (by repeat (first | exact Ext.refl' _ | assumption | apply Ext.ex' | apply Ext.al | apply Ext.drN | apply Ext.dr))) (by omega) m1.out) ?_
              rintro e w1 ⟨rfl, hb1⟩
              obtain ⟨x11, rfl⟩ := hb1.get
              clear hb1
              go_wp2_with fail
              refine Calls.mono (K.out _ _ r2 _ _ (hR4.ext (by repeat (first | exact Ext.refl' _ | assumption | apply Ext.ex' | apply Ext.al | apply Ext.drN | apply Ext.dr))) (by omega) m2.out) ?_
              rintro e w1 ⟨rfl, hb1⟩
              obtain ⟨x12, rfl⟩ := hb1.get
              clear hb1
              go_wp2_with fail
              refine Calls.mono (K.out _ _ r3 _ _ (hR5.ext (by repeat (first | exact Ext.refl' _ | assumption | apply Ext.ex' | apply Ext.al | apply Ext.drN | apply Ext.dr))) (by omega) m3.out) ?_
              rintro e w1 ⟨rfl, hb1⟩
              obtain ⟨x13, rfl⟩ := hb1.get
              clear hb1
              go_wp2_with fail
              refine Calls.mono (K.out _ _ r4 _ _ (hR6.ext (by repeat (first | exact Ext.refl' _ | assumption | apply Ext.ex' | apply Ext.al | apply Ext.drN | apply Ext.dr))) (by omega) m4.out) ?_
              rintro e w1 ⟨rfl, hb1⟩
              obtain ⟨x14, rfl⟩ := hb1.get
              clear hb1
              go_wp2_with fail
              refine Calls.mono (awake_any _) ?_
              rintro e w1 ⟨rfl, hb1⟩
              obtain ⟨x15, rfl⟩ := hb1.get
              clear hb1
              go_wp2
              go_ret
              exact ⟨rfl, by repeat (first | exact Ext.refl' _ | assumption | apply Ext.ex' | apply Ext.al | apply Ext.drN | apply Ext.dr)⟩
          · rcases hy : inL b t with _ | _
            · have G1 := Lib.hid (fun w h => rcont_any A ca a t w h (by omega))
              rw [hx] at G1
              have G2 := Lib.hid (fun w h => rcont_any B cb b t w h (by omega))
              rw [hy] at G2
              have G3 := Lib.hid (fun w h1 h2 => sunion_any A B ca cb a b w h1 h2 (by omega) (by omega))
              have G4 := Lib.hid (fun w h1 h2 => sintersect_any A B ca cb a b w h1 h2 (by omega) (by omega))
              have G5 := Lib.hid (fun w h1 h2 => ssubtract_any A B ca cb a b w h1 h2 (by omega) (by omega))
              have G6 := Lib.hid (fun w h1 => scomplement_any A ca a w h1 (by omega))
              have b1 := can_short (combF_can ofK a b)
              have b2 := can_short (combF_can interK a b)
              have b3 := can_short (combF_can subK a b)
              have b4 := can_short (combF_can norK a [])
              have v1 := Lib.hid ((canF_can _).2 (combF_can ofK a b))
              have v2 := Lib.hid ((canF_can _).2 (combF_can interK a b))
              have v3 := Lib.hid ((canF_can _).2 (combF_can subK a b))
              have v4 := Lib.hid ((canF_can _).2 (combF_can norK a []))
              have m1 : Hid (inL (combF ofK a b) t = true) := Lib.hid (by rw [combF_in, hx, hy, hin]; rfl)
              have m2 : Hid (inL (combF interK a b) t = false) := Lib.hid (by rw [combF_in, hx, hy, hin]; rfl)
              have m3 : Hid (inL (combF subK a b) t = true) := Lib.hid (by rw [combF_in, hx, hy, hin]; rfl)
              have m4 : Hid (inL (combF norK a []) t = false) := Lib.hid (by rw [combF_in, hx, hin]; rfl)
              clear hx hy hin
              generalize combF ofK a b = r1 at G3 b1 v1 m1
              generalize combF interK a b = r2 at G4 b2 v2 m2
              generalize combF subK a b = r3 at G5 b3 v3 m3
              generalize combF norK a [] = r4 at G6 b4 v4 m4
              have V := Lib.hid (fun A c l w h hl (hv : canF none l = true) => (by have := rvalidL_any A c l w h hl; rw [hv] at this; exact this : Calls Try.prog 35 #[.slice A l.length c] w fun e w' => e = .returned (.bool true) ∧ Ext w w'))
              have K := Lib.hid (fun A c l w (v : Bool) h hl (hv : inL l t = v) => (by have := scont_any A c l t w h hl; rw [hv] at this; exact this : Calls Try.prog 36 #[.slice A l.length c, .int .i64 t] w fun e w' => e = .returned (.bool v) ∧ Ext w w'))
              go_enter Try.func8, Try.ntmps8
              go_wp2_with fail
              refine Calls.mono (G1.out _ (ha.ext (by repeat (first | exact Ext.refl' _ | assumption | apply Ext.ex' | apply Ext.al | apply Ext.drN | apply Ext.dr)))) ?_
              rintro e w1 ⟨rfl, hb1⟩
              obtain ⟨x1, rfl⟩ := hb1.get
              clear hb1
              go_wp2_with fail
              refine Calls.mono (G2.out _ (hb.ext (by repeat (first | exact Ext.refl' _ | assumption | apply Ext.ex' | apply Ext.al | apply Ext.drN | apply Ext.dr)))) ?_
              rintro e w1 ⟨rfl, hb1⟩
              obtain ⟨x2, rfl⟩ := hb1.get
              clear hb1
              go_wp2_with fail
              refine Calls.mono (G3.out _ (ha.ext (by repeat (first | exact Ext.refl' _ | assumption | apply Ext.ex' | apply Ext.al | apply Ext.drN | apply Ext.dr))) (hb.ext (by repeat (first | exact Ext.refl' _ | assumption | apply Ext.ex' | apply Ext.al | apply Ext.drN | apply Ext.dr)))) ?_
              rintro e w1 ⟨A3, c3, rfl, hb1, hR3⟩
              obtain ⟨x3, rfl⟩ := hb1.get
              clear hb1
              go_wp2_with fail
              refine Calls.mono (G4.out _ (ha.ext (by repeat (first | exact Ext.refl' _ | assumption | apply Ext.ex' | apply Ext.al | apply Ext.drN | apply Ext.dr))) (hb.ext (by repeat (first | exact Ext.refl' _ | assumption | apply Ext.ex' | apply Ext.al | apply Ext.drN | apply Ext.dr)))) ?_
              rintro e w1 ⟨A4, c4, rfl, hb1, hR4⟩
              obtain ⟨x4, rfl⟩ := hb1.get
              clear hb1
              go_wp2_with fail
              refine Calls.mono (G5.out _ (ha.ext (by repeat (first | exact Ext.refl' _ | assumption | apply Ext.ex' | apply Ext.al | apply Ext.drN | apply Ext.dr))) (hb.ext (by repeat (first | exact Ext.refl' _ | assumption | apply Ext.ex' | apply Ext.al | apply Ext.drN | apply Ext.dr)))) ?_
              rintro e w1 ⟨A5, c5, rfl, hb1, hR5⟩
              obtain ⟨x5, rfl⟩ := hb1.get
              clear hb1
              go_wp2_with fail
              refine Calls.mono (G6.out _ (ha.ext (by repeat (first | exact Ext.refl' _ | assumption | apply Ext.ex' | apply Ext.al | apply Ext.drN | apply Ext.dr)))) ?_
              rintro e w1 ⟨A6, c6, rfl, hb1, hR6⟩
              obtain ⟨x6, rfl⟩ := hb1.get
              clear hb1
              go_wp2_with fail
              refine Calls.mono (V.out _ _ r1 _ (hR3.ext (by repeat (first | exact Ext.refl' _ | assumption | apply Ext.ex' | apply Ext.al | apply Ext.drN | apply Ext.dr))) (by omega) v1.out) ?_
              rintro e w1 ⟨rfl, hb1⟩
              obtain ⟨x7, rfl⟩ := hb1.get
              clear hb1
              go_wp2_with fail
              refine Calls.mono (V.out _ _ r2 _ (hR4.ext (by repeat (first | exact Ext.refl' _ | assumption | apply Ext.ex' | apply Ext.al | apply Ext.drN | apply Ext.dr))) (by omega) v2.out) ?_
              rintro e w1 ⟨rfl, hb1⟩
              obtain ⟨x8, rfl⟩ := hb1.get
              clear hb1
              go_wp2_with fail
              refine Calls.mono (V.out _ _ r3 _ (hR5.ext (by repeat (first | exact Ext.refl' _ | assumption | apply Ext.ex' | apply Ext.al | apply Ext.drN | apply Ext.dr))) (by omega) v3.out) ?_
              rintro e w1 ⟨rfl, hb1⟩
              obtain ⟨x9, rfl⟩ := hb1.get
              clear hb1
              go_wp2_with fail
              refine Calls.mono (V.out _ _ r4 _ (hR6.ext (by repeat (first | exact Ext.refl' _ | assumption | apply Ext.ex' | apply Ext.al | apply Ext.drN | apply Ext.dr))) (by omega) v4.out) ?_
              rintro e w1 ⟨rfl, hb1⟩
              obtain ⟨x10, rfl⟩ := hb1.get
              clear hb1
              go_wp2_with fail
              refine Calls.mono (K.out _ _ r1 _ _ (hR3.ext (by repeat (first | exact Ext.refl' _ | assumption | apply Ext.ex' | apply Ext.al | apply Ext.drN | apply Ext.dr))) (by omega) m1.out) ?_
              rintro e w1 ⟨rfl, hb1⟩
              obtain ⟨x11, rfl⟩ := hb1.get
              clear hb1
              go_wp2_with fail
              refine Calls.mono (K.out _ _ r2 _ _ (hR4.ext (by repeat (first | exact Ext.refl' _ | assumption | apply Ext.ex' | apply Ext.al | apply Ext.drN | apply Ext.dr))) (by omega) m2.out) ?_
              rintro e w1 ⟨rfl, hb1⟩
              obtain ⟨x12, rfl⟩ := hb1.get
              clear hb1
              go_wp2_with fail
              refine Calls.mono (K.out _ _ r3 _ _ (hR5.ext (by repeat (first | exact Ext.refl' _ | assumption | apply Ext.ex' | apply Ext.al | apply Ext.drN | apply Ext.dr))) (by omega) m3.out) ?_
              rintro e w1 ⟨rfl, hb1⟩
              obtain ⟨x13, rfl⟩ := hb1.get
              clear hb1
              go_wp2_with fail
              refine Calls.mono (K.out _ _ r4 _ _ (hR6.ext (by repeat (first | exact Ext.refl' _ | assumption | apply Ext.ex' | apply Ext.al | apply Ext.drN | apply Ext.dr))) (by omega) m4.out) ?_
              rintro e w1 ⟨rfl, hb1⟩
              obtain ⟨x14, rfl⟩ := hb1.get
              clear hb1
              go_wp2_with fail
              refine Calls.mono (awake_any _) ?_
              rintro e w1 ⟨rfl, hb1⟩
              obtain ⟨x15, rfl⟩ := hb1.get
              clear hb1
              go_wp2
              go_ret
              exact ⟨rfl, by repeat (first | exact Ext.refl' _ | assumption | apply Ext.ex' | apply Ext.al | apply Ext.drN | apply Ext.dr)⟩
            · have G1 := Lib.hid (fun w h => rcont_any A ca a t w h (by omega))
              rw [hx] at G1
              have G2 := Lib.hid (fun w h => rcont_any B cb b t w h (by omega))
              rw [hy] at G2
              have G3 := Lib.hid (fun w h1 h2 => sunion_any A B ca cb a b w h1 h2 (by omega) (by omega))
              have G4 := Lib.hid (fun w h1 h2 => sintersect_any A B ca cb a b w h1 h2 (by omega) (by omega))
              have G5 := Lib.hid (fun w h1 h2 => ssubtract_any A B ca cb a b w h1 h2 (by omega) (by omega))
              have G6 := Lib.hid (fun w h1 => scomplement_any A ca a w h1 (by omega))
              have b1 := can_short (combF_can ofK a b)
              have b2 := can_short (combF_can interK a b)
              have b3 := can_short (combF_can subK a b)
              have b4 := can_short (combF_can norK a [])
              have v1 := Lib.hid ((canF_can _).2 (combF_can ofK a b))
              have v2 := Lib.hid ((canF_can _).2 (combF_can interK a b))
              have v3 := Lib.hid ((canF_can _).2 (combF_can subK a b))
              have v4 := Lib.hid ((canF_can _).2 (combF_can norK a []))
              have m1 : Hid (inL (combF ofK a b) t = true) := Lib.hid (by rw [combF_in, hx, hy, hin]; rfl)
              have m2 : Hid (inL (combF interK a b) t = true) := Lib.hid (by rw [combF_in, hx, hy, hin]; rfl)
              have m3 : Hid (inL (combF subK a b) t = false) := Lib.hid (by rw [combF_in, hx, hy, hin]; rfl)
              have m4 : Hid (inL (combF norK a []) t = false) := Lib.hid (by rw [combF_in, hx, hin]; rfl)
              clear hx hy hin
              generalize combF ofK a b = r1 at G3 b1 v1 m1
              generalize combF interK a b = r2 at G4 b2 v2 m2
              generalize combF subK a b = r3 at G5 b3 v3 m3
              generalize combF norK a [] = r4 at G6 b4 v4 m4
              have V := Lib.hid (fun A c l w h hl (hv : canF none l = true) => (by have := rvalidL_any A c l w h hl; rw [hv] at this; exact this : Calls Try.prog 35 #[.slice A l.length c] w fun e w' => e = .returned (.bool true) ∧ Ext w w'))
              have K := Lib.hid (fun A c l w (v : Bool) h hl (hv : inL l t = v) => (by have := scont_any A c l t w h hl; rw [hv] at this; exact this : Calls Try.prog 36 #[.slice A l.length c, .int .i64 t] w fun e w' => e = .returned (.bool v) ∧ Ext w w'))
              go_enter Try.func8, Try.ntmps8
              go_wp2_with fail
              refine Calls.mono (G1.out _ (ha.ext (by repeat (first | exact Ext.refl' _ | assumption | apply Ext.ex' | apply Ext.al | apply Ext.drN | apply Ext.dr)))) ?_
              rintro e w1 ⟨rfl, hb1⟩
              obtain ⟨x1, rfl⟩ := hb1.get
              clear hb1
              go_wp2_with fail
              refine Calls.mono (G2.out _ (hb.ext (by repeat (first | exact Ext.refl' _ | assumption | apply Ext.ex' | apply Ext.al | apply Ext.drN | apply Ext.dr)))) ?_
              rintro e w1 ⟨rfl, hb1⟩
              obtain ⟨x2, rfl⟩ := hb1.get
              clear hb1
              go_wp2_with fail
              refine Calls.mono (G3.out _ (ha.ext (by repeat (first | exact Ext.refl' _ | assumption | apply Ext.ex' | apply Ext.al | apply Ext.drN | apply Ext.dr))) (hb.ext (by repeat (first | exact Ext.refl' _ | assumption | apply Ext.ex' | apply Ext.al | apply Ext.drN | apply Ext.dr)))) ?_
              rintro e w1 ⟨A3, c3, rfl, hb1, hR3⟩
              obtain ⟨x3, rfl⟩ := hb1.get
              clear hb1
              go_wp2_with fail
              refine Calls.mono (G4.out _ (ha.ext (by repeat (first | exact Ext.refl' _ | assumption | apply Ext.ex' | apply Ext.al | apply Ext.drN | apply Ext.dr))) (hb.ext (by repeat (first | exact Ext.refl' _ | assumption | apply Ext.ex' | apply Ext.al | apply Ext.drN | apply Ext.dr)))) ?_
              rintro e w1 ⟨A4, c4, rfl, hb1, hR4⟩
              obtain ⟨x4, rfl⟩ := hb1.get
              clear hb1
              go_wp2_with fail
              refine Calls.mono (G5.out _ (ha.ext (by repeat (first | exact Ext.refl' _ | assumption | apply Ext.ex' | apply Ext.al | apply Ext.drN | apply Ext.dr))) (hb.ext (by repeat (first | exact Ext.refl' _ | assumption | apply Ext.ex' | apply Ext.al | apply Ext.drN | apply Ext.dr)))) ?_
              rintro e w1 ⟨A5, c5, rfl, hb1, hR5⟩
              obtain ⟨x5, rfl⟩ := hb1.get
              clear hb1
              go_wp2_with fail
              refine Calls.mono (G6.out _ (ha.ext (by repeat (first | exact Ext.refl' _ | assumption | apply Ext.ex' | apply Ext.al | apply Ext.drN | apply Ext.dr)))) ?_
              rintro e w1 ⟨A6, c6, rfl, hb1, hR6⟩
              obtain ⟨x6, rfl⟩ := hb1.get
              clear hb1
              go_wp2_with fail
              refine Calls.mono (V.out _ _ r1 _ (hR3.ext (by repeat (first | exact Ext.refl' _ | assumption | apply Ext.ex' | apply Ext.al | apply Ext.drN | apply Ext.dr))) (by omega) v1.out) ?_
              rintro e w1 ⟨rfl, hb1⟩
              obtain ⟨x7, rfl⟩ := hb1.get
              clear hb1
              go_wp2_with fail
              refine Calls.mono (V.out _ _ r2 _ (hR4.ext (by repeat (first | exact Ext.refl' _ | assumption | apply Ext.ex' | apply Ext.al | apply Ext.drN | apply Ext.dr))) (by omega) v2.out) ?_
              rintro e w1 ⟨rfl, hb1⟩
              obtain ⟨x8, rfl⟩ := hb1.get
              clear hb1
              go_wp2_with fail
              refine Calls.mono (V.out _ _ r3 _ (hR5.ext (by repeat (first | exact Ext.refl' _ | assumption | apply Ext.ex' | apply Ext.al | apply Ext.drN | apply Ext.dr))) (by omega) v3.out) ?_
              rintro e w1 ⟨rfl, hb1⟩
              obtain ⟨x9, rfl⟩ := hb1.get
              clear hb1
              go_wp2_with fail
              refine Calls.mono (V.out _ _ r4 _ (hR6.ext (by repeat (first | exact Ext.refl' _ | assumption | apply Ext.ex' | apply Ext.al | apply Ext.drN | apply Ext.dr))) (by omega) v4.out) ?_
              rintro e w1 ⟨rfl, hb1⟩
              obtain ⟨x10, rfl⟩ := hb1.get
              clear hb1
              go_wp2_with fail
              refine Calls.mono (K.out _ _ r1 _ _ (hR3.ext (by repeat (first | exact Ext.refl' _ | assumption | apply Ext.ex' | apply Ext.al | apply Ext.drN | apply Ext.dr))) (by omega) m1.out) ?_
              rintro e w1 ⟨rfl, hb1⟩
              obtain ⟨x11, rfl⟩ := hb1.get
              clear hb1
              go_wp2_with fail
              refine Calls.mono (K.out _ _ r2 _ _ (hR4.ext (by repeat (first | exact Ext.refl' _ | assumption | apply Ext.ex' | apply Ext.al | apply Ext.drN | apply Ext.dr))) (by omega) m2.out) ?_
              rintro e w1 ⟨rfl, hb1⟩
              obtain ⟨x12, rfl⟩ := hb1.get
              clear hb1
              go_wp2_with fail
              refine Calls.mono (K.out _ _ r3 _ _ (hR5.ext (by repeat (first | exact Ext.refl' _ | assumption | apply Ext.ex' | apply Ext.al | apply Ext.drN | apply Ext.dr))) (by omega) m3.out) ?_
              rintro e w1 ⟨rfl, hb1⟩
              obtain ⟨x13, rfl⟩ := hb1.get
              clear hb1
              go_wp2_with fail
              refine Calls.mono (K.out _ _ r4 _ _ (hR6.ext (by repeat (first | exact Ext.refl' _ | assumption | apply Ext.ex' | apply Ext.al | apply Ext.drN | apply Ext.dr))) (by omega) m4.out) ?_
              rintro e w1 ⟨rfl, hb1⟩
              obtain ⟨x14, rfl⟩ := hb1.get
              clear hb1
              go_wp2_with fail
              refine Calls.mono (awake_any _) ?_
              rintro e w1 ⟨rfl, hb1⟩
              obtain ⟨x15, rfl⟩ := hb1.get
              clear hb1
              go_wp2
              go_ret
              exact ⟨rfl, by repeat (first | exact Ext.refl' _ | assumption | apply Ext.ex' | apply Ext.al | apply Ext.drN | apply Ext.dr)⟩
        · have hin : decide (0 ≤ t ∧ t < 1099511627776) = false := decide_eq_false (by omega)
          have hx : inL a t = false := by rw [Bool.eq_false_iff]; intro h; have := inL_rng h; omega
          have hy : inL b t = false := by rw [Bool.eq_false_iff]; intro h; have := inL_rng h; omega
          have G1 := Lib.hid (fun w h => rcont_any A ca a t w h (by omega))
          rw [hx] at G1
          have G2 := Lib.hid (fun w h => rcont_any B cb b t w h (by omega))
          rw [hy] at G2
          have G3 := Lib.hid (fun w h1 h2 => sunion_any A B ca cb a b w h1 h2 (by omega) (by omega))
          have G4 := Lib.hid (fun w h1 h2 => sintersect_any A B ca cb a b w h1 h2 (by omega) (by omega))
          have G5 := Lib.hid (fun w h1 h2 => ssubtract_any A B ca cb a b w h1 h2 (by omega) (by omega))
          have G6 := Lib.hid (fun w h1 => scomplement_any A ca a w h1 (by omega))
          have b1 := can_short (combF_can ofK a b)
          have b2 := can_short (combF_can interK a b)
          have b3 := can_short (combF_can subK a b)
          have b4 := can_short (combF_can norK a [])
          have v1 := Lib.hid ((canF_can _).2 (combF_can ofK a b))
          have v2 := Lib.hid ((canF_can _).2 (combF_can interK a b))
          have v3 := Lib.hid ((canF_can _).2 (combF_can subK a b))
          have v4 := Lib.hid ((canF_can _).2 (combF_can norK a []))
          have m1 : Hid (inL (combF ofK a b) t = false) := Lib.hid (by rw [combF_in, hx, hy, hin]; rfl)
          have m2 : Hid (inL (combF interK a b) t = false) := Lib.hid (by rw [combF_in, hx, hy, hin]; rfl)
          have m3 : Hid (inL (combF subK a b) t = false) := Lib.hid (by rw [combF_in, hx, hy, hin]; rfl)
          have m4 : Hid (inL (combF norK a []) t = false) := Lib.hid (by rw [combF_in, hx, hin]; rfl)
          clear hx hy hin
          generalize combF ofK a b = r1 at G3 b1 v1 m1
          generalize combF interK a b = r2 at G4 b2 v2 m2
          generalize combF subK a b = r3 at G5 b3 v3 m3
          generalize combF norK a [] = r4 at G6 b4 v4 m4
          have V := Lib.hid (fun A c l w h hl (hv : canF none l = true) => (by have := rvalidL_any A c l w h hl; rw [hv] at this; exact this : Calls Try.prog 35 #[.slice A l.length c] w fun e w' => e = .returned (.bool true) ∧ Ext w w'))
          have K := Lib.hid (fun A c l w (v : Bool) h hl (hv : inL l t = v) => (by have := scont_any A c l t w h hl; rw [hv] at this; exact this : Calls Try.prog 36 #[.slice A l.length c, .int .i64 t] w fun e w' => e = .returned (.bool v) ∧ Ext w w'))
          go_enter Try.func8, Try.ntmps8
          go_wp2_with fail
          refine Calls.mono (G1.out _ (ha.ext (by repeat (first | exact Ext.refl' _ | assumption | apply Ext.ex' | apply Ext.al | apply Ext.drN | apply Ext.dr)))) ?_
          rintro e w1 ⟨rfl, hb1⟩
          obtain ⟨x1, rfl⟩ := hb1.get
          clear hb1
          go_wp2_with fail
          refine Calls.mono (G2.out _ (hb.ext (by repeat (first | exact Ext.refl' _ | assumption | apply Ext.ex' | apply Ext.al | apply Ext.drN | apply Ext.dr)))) ?_
          rintro e w1 ⟨rfl, hb1⟩
          obtain ⟨x2, rfl⟩ := hb1.get
          clear hb1
          go_wp2_with fail
          refine Calls.mono (G3.out _ (ha.ext (by repeat (first | exact Ext.refl' _ | assumption | apply Ext.ex' | apply Ext.al | apply Ext.drN | apply Ext.dr))) (hb.ext (by repeat (first | exact Ext.refl' _ | assumption | apply Ext.ex' | apply Ext.al | apply Ext.drN | apply Ext.dr)))) ?_
          rintro e w1 ⟨A3, c3, rfl, hb1, hR3⟩
          obtain ⟨x3, rfl⟩ := hb1.get
          clear hb1
          go_wp2_with fail
          refine Calls.mono (G4.out _ (ha.ext (by repeat (first | exact Ext.refl' _ | assumption | apply Ext.ex' | apply Ext.al | apply Ext.drN | apply Ext.dr))) (hb.ext (by repeat (first | exact Ext.refl' _ | assumption | apply Ext.ex' | apply Ext.al | apply Ext.drN | apply Ext.dr)))) ?_
          rintro e w1 ⟨A4, c4, rfl, hb1, hR4⟩
          obtain ⟨x4, rfl⟩ := hb1.get
          clear hb1
          go_wp2_with fail
          refine Calls.mono (G5.out _ (ha.ext (by repeat (first | exact Ext.refl' _ | assumption | apply Ext.ex' | apply Ext.al | apply Ext.drN | apply Ext.dr))) (hb.ext (by repeat (first | exact Ext.refl' _ | assumption | apply Ext.ex' | apply Ext.al | apply Ext.drN | apply Ext.dr)))) ?_
          rintro e w1 ⟨A5, c5, rfl, hb1, hR5⟩
          obtain ⟨x5, rfl⟩ := hb1.get
          clear hb1
          go_wp2_with fail
          refine Calls.mono (G6.out _ (ha.ext (by repeat (first | exact Ext.refl' _ | assumption | apply Ext.ex' | apply Ext.al | apply Ext.drN | apply Ext.dr)))) ?_
          rintro e w1 ⟨A6, c6, rfl, hb1, hR6⟩
          obtain ⟨x6, rfl⟩ := hb1.get
          clear hb1
          go_wp2_with fail
          refine Calls.mono (V.out _ _ r1 _ (hR3.ext (by repeat (first | exact Ext.refl' _ | assumption | apply Ext.ex' | apply Ext.al | apply Ext.drN | apply Ext.dr))) (by omega) v1.out) ?_
          rintro e w1 ⟨rfl, hb1⟩
          obtain ⟨x7, rfl⟩ := hb1.get
          clear hb1
          go_wp2_with fail
          refine Calls.mono (V.out _ _ r2 _ (hR4.ext (by repeat (first | exact Ext.refl' _ | assumption | apply Ext.ex' | apply Ext.al | apply Ext.drN | apply Ext.dr))) (by omega) v2.out) ?_
          rintro e w1 ⟨rfl, hb1⟩
          obtain ⟨x8, rfl⟩ := hb1.get
          clear hb1
          go_wp2_with fail
          refine Calls.mono (V.out _ _ r3 _ (hR5.ext (by repeat (first | exact Ext.refl' _ | assumption | apply Ext.ex' | apply Ext.al | apply Ext.drN | apply Ext.dr))) (by omega) v3.out) ?_
          rintro e w1 ⟨rfl, hb1⟩
          obtain ⟨x9, rfl⟩ := hb1.get
          clear hb1
          go_wp2_with fail
          refine Calls.mono (V.out _ _ r4 _ (hR6.ext (by repeat (first | exact Ext.refl' _ | assumption | apply Ext.ex' | apply Ext.al | apply Ext.drN | apply Ext.dr))) (by omega) v4.out) ?_
          rintro e w1 ⟨rfl, hb1⟩
          obtain ⟨x10, rfl⟩ := hb1.get
          clear hb1
          go_wp2_with fail
          refine Calls.mono (K.out _ _ r1 _ _ (hR3.ext (by repeat (first | exact Ext.refl' _ | assumption | apply Ext.ex' | apply Ext.al | apply Ext.drN | apply Ext.dr))) (by omega) m1.out) ?_
          rintro e w1 ⟨rfl, hb1⟩
          obtain ⟨x11, rfl⟩ := hb1.get
          clear hb1
          go_wp2_with fail
          refine Calls.mono (K.out _ _ r2 _ _ (hR4.ext (by repeat (first | exact Ext.refl' _ | assumption | apply Ext.ex' | apply Ext.al | apply Ext.drN | apply Ext.dr))) (by omega) m2.out) ?_
          rintro e w1 ⟨rfl, hb1⟩
          obtain ⟨x12, rfl⟩ := hb1.get
          clear hb1
          go_wp2_with fail
          refine Calls.mono (K.out _ _ r3 _ _ (hR5.ext (by repeat (first | exact Ext.refl' _ | assumption | apply Ext.ex' | apply Ext.al | apply Ext.drN | apply Ext.dr))) (by omega) m3.out) ?_
          rintro e w1 ⟨rfl, hb1⟩
          obtain ⟨x13, rfl⟩ := hb1.get
          clear hb1
          go_wp2_with fail
          refine Calls.mono (K.out _ _ r4 _ _ (hR6.ext (by repeat (first | exact Ext.refl' _ | assumption | apply Ext.ex' | apply Ext.al | apply Ext.drN | apply Ext.dr))) (by omega) m4.out) ?_
          rintro e w1 ⟨rfl, hb1⟩
          obtain ⟨x14, rfl⟩ := hb1.get
          clear hb1
          go_wp2_with fail
          refine Calls.mono (awake_any _) ?_
          rintro e w1 ⟨rfl, hb1⟩
          obtain ⟨x15, rfl⟩ := hb1.get
          clear hb1
          go_wp2
          go_ret
          exact ⟨rfl, by repeat (first | exact Ext.refl' _ | assumption | apply Ext.ex' | apply Ext.al | apply Ext.drN | apply Ext.dr)⟩

end Go.Proofs.Ytogfageapejmpaa
