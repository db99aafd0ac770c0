/- The examples of chapter 5: awake. -/
import Derived.Test.YtcnhnbdgmfhfgaaRgJ
import Derived.Test.YtcnhnbdgmfhfgaaRgQ
set_option linter.unusedSimpArgs false
set_option linter.unusedVariables false
namespace Go.Proofs.Ytcnhnbdgmfhfgaa
open Go.RowKit


theorem rect_any (a b c d : Int) (w : World) : Calls Try.prog 35 #[.int .i64 a, .int .i64 b, .int .i64 c, .int .i64 d] w fun e w' => e = .returned (rr ((a, b), (c, d))) ∧ Ext w w' := by
  go_enter Try.func35, Try.ntmps35
  go_wp2
  refine bodyPost_ret (v := rr ((a, b), (c, d))) ?_ rfl ⟨rfl, by repeat (first | exact Ext.refl' _ | assumption | apply Ext.ex' | apply Ext.al | apply Ext.drN | apply Ext.dr)⟩
  simp [results, Try.results35, go_sem]
theorem Rd.litR (w : World) (l : List Rct) (news : Array Value) (e n : Nat) (hn : l.length = n) (hnews : news.toList = rcl l) {b : Nat} (hb : b = w.heap.size) : Rd (w.alloc (.cells news e)) 4 (some ⟨b, 0, none⟩) l.length (rcl l) := by
  rw [← hnews]
  refine Rd.lit w news e l.length 4 ?_ hb
  have := congrArg List.length hnews
  rw [rcl_length] at this
  simpa using this
theorem Rd.litP (w : World) (l : List (Int × Int)) (news : Array Value) (e n : Nat) (hn : l.length = n) (hnews : news.toList = pc l) {b : Nat} (hb : b = w.heap.size) : Rd (w.alloc (.cells news e)) 2 (some ⟨b, 0, none⟩) l.length (pc l) := by
  rw [← hnews]
  refine Rd.lit w news e l.length 2 ?_ hb
  have := congrArg List.length hnews
  rw [pc_length] at this
  simpa using this
theorem gof_lit (l r : List Rct) (hr : regF ofK l [] = r) (hl : l.length ≤ 50000) (n b : Nat) (hn : l.length = n) (w : World) (news : Array Value) (e : Nat) (hnews : news.toList = rcl l) (hb : b = w.heap.size) :
    Calls Try.prog 18 #[.slice (some ⟨b, 0, none⟩) n n] (w.alloc (.cells news e)) (RdP 4 r.length (rcl r) (w.alloc (.cells news e))) := by
  subst hr
  have h := gofR_any (some ⟨b, 0, none⟩) n l _ (Rd.litR w l news e n hn hnews hb) hl
  rwa [hn] at h
theorem gsub_lit (l m r : List Rct) (hr : regF subK l m = r) (hl : l.length ≤ 50000) (hm : m.length ≤ 50000) (n k b c : Nat) (hn : l.length = n) (hk : m.length = k) (w : World) (x : Add) (news newt : Array Value) (e f : Nat) (hnews : news.toList = rcl l) (hnewt : newt.toList = rcl m) (hb : b = w.heap.size) (hc : c = (ext (w.alloc (.cells news e)) x).heap.size) :
    Calls Try.prog 16 #[.slice (some ⟨b, 0, none⟩) n n, .slice (some ⟨c, 0, none⟩) k k] ((ext (w.alloc (.cells news e)) x).alloc (.cells newt f)) (RdP 4 r.length (rcl r) ((ext (w.alloc (.cells news e)) x).alloc (.cells newt f))) := by
  subst hr
  have h := gSubtract_any (some ⟨b, 0, none⟩) (some ⟨c, 0, none⟩) n k l m _ ((Rd.litR w l news e n hn hnews hb).ext (Ext.al (Ext.ex _ x) (.cells newt f))) (Rd.litR (ext (w.alloc (.cells news e)) x) m newt f k hk hnewt hc) hl hm
  rwa [hn, hk] at h
theorem sameR_lit (l : List Rct) (A : Option Addr) (c n b : Nat) (hn : l.length = n) (hl : l.length ≤ 50000) (w : World) (news : Array Value) (e : Nat) (hA : Rd (w.alloc (.cells news e)) 4 A l.length (rcl l)) (hnews : news.toList = rcl l) (hb : b = w.heap.size) :
    Calls Try.prog 11 #[.slice A l.length c, .slice (some ⟨b, 0, none⟩) n n] (w.alloc (.cells news e)) fun e' w' => e' = .returned (.bool true) ∧ Ext (w.alloc (.cells news e)) w' := by
  have h := sameR_any A (some ⟨b, 0, none⟩) c n l l _ hA (Rd.litR w l news e n hn hnews hb) (by omega) (by omega)
  rw [hn] at h ⊢
  simpa using h
theorem sameR_yes (A B : Option Addr) (c d n m : Nat) (l k : List Rct) (h : l = k) (hn : l.length = n) (hm : k.length = m) (w : World) (hA : Rd w 4 A n (rcl l)) (hB : Rd w 4 B m (rcl k)) (hl : l.length ≤ 9223372036854775807) :
    Calls Try.prog 11 #[.slice A n c, .slice B m d] w fun e w' => e = .returned (.bool true) ∧ Ext w w' := by
  subst hn hm h
  have := sameR_any A B c d l l w hA hB hl hl
  simpa using this
theorem sameP_lit (l : List (Int × Int)) (A : Option Addr) (c n b : Nat) (hn : l.length = n) (hl : l.length ≤ 50000) (w : World) (news : Array Value) (e : Nat) (hA : Rd (w.alloc (.cells news e)) 2 A l.length (pc l)) (hnews : news.toList = pc l) (hb : b = w.heap.size) :
    Calls Try.prog 20 #[.slice A l.length c, .slice (some ⟨b, 0, none⟩) n n] (w.alloc (.cells news e)) fun e' w' => e' = .returned (.bool true) ∧ Ext (w.alloc (.cells news e)) w' := by
  have h := same_any A (some ⟨b, 0, none⟩) c n l l _ hA (Rd.litP w l news e n hn hnews hb) (by omega) (by omega)
  rw [hn] at h ⊢
  simpa using h
theorem same_yesP (A B : Option Addr) (c d n m : Nat) (l k : List (Int × Int)) (h : l = k) (hn : l.length = n) (hm : k.length = m) (w : World) (hA : Rd w 2 A n (pc l)) (hB : Rd w 2 B m (pc k)) (hl : l.length ≤ 9223372036854775807) :
    Calls Try.prog 20 #[.slice A n c, .slice B m d] w fun e w' => e = .returned (.bool true) ∧ Ext w w' := by
  subst hn hm h
  have := same_any A B c d l l w hA hB hl hl
  simpa using this
theorem ex_R1 : regF subK [((0, 6), (0, 4))] [((2, 3), (1, 2))] = [((0, 6), (0, 1)), ((0, 2), (1, 2)), ((3, 6), (1, 2)), ((0, 6), (2, 4))] := by decide +kernel
theorem ex_R2 : regF ofK [((0, 4), (0, 5)), ((4, 6), (0, 5))] [] = [((0, 6), (0, 5))] := by decide +kernel
theorem ex_R3 : regF ofK [((0, 4), (0, 5)), ((2, 6), (3, 8))] [] = [((0, 4), (0, 3)), ((0, 6), (3, 5)), ((2, 6), (5, 8))] := by decide +kernel
theorem ex_R4 : ofF (secR [((0, 6), (0, 1)), ((0, 2), (1, 2)), ((3, 6), (1, 2)), ((0, 6), (2, 4))] 2) = [(0, 1), (2, 4)] := by decide +kernel


set_option maxRecDepth 100000 in
set_option maxHeartbeats 8000000 in
theorem awakeR_any (w : World) : Calls Try.prog 10 #[] w fun e w' => e = .returned (.bool true) ∧ Ext w w' := by
  obtain ⟨rd, hrd⟩ : ∃ r : List Rct, r = [((0, 6), (0, 1)), ((0, 2), (1, 2)), ((3, 6), (1, 2)), ((0, 6), (2, 4))] := ⟨_, rfl⟩
  obtain ⟨r1, hr1⟩ : ∃ r : List Rct, r = [((0, 6), (0, 5))] := ⟨_, rfl⟩
  obtain ⟨r2, hr2⟩ : ∃ r : List Rct, r = [((0, 4), (0, 3)), ((0, 6), (3, 5)), ((2, 6), (5, 8))] := ⟨_, rfl⟩
  obtain ⟨rs, hrs⟩ : ∃ r : List (Int × Int), r = [(0, 1), (2, 4)] := ⟨_, rfl⟩
  have HD : Hid (regF subK [((0, 6), (0, 4))] [((2, 3), (1, 2))] = rd) := Lib.hid (by rw [hrd]; exact ex_R1)
  have H1 : Hid (regF ofK [((0, 4), (0, 5)), ((4, 6), (0, 5))] [] = r1) := Lib.hid (by rw [hr1]; exact ex_R2)
  have H2 : Hid (regF ofK [((0, 4), (0, 5)), ((2, 6), (3, 8))] [] = r2) := Lib.hid (by rw [hr2]; exact ex_R3)
  have HS : Hid (ofF (secR rd 2) = rs) := Lib.hid (by rw [hrd, hrs]; exact ex_R4)
  have ED := Lib.hid hrd
  have E1 := Lib.hid hr1
  have E2 := Lib.hid hr2
  have ES := Lib.hid hrs
  have bd : rd.length ≤ 100 := by rw [hrd]; decide
  have GS := Lib.hid (fun A c w h => gsection_any A c rd 2 w h (by omega))
  rw [HS.out] at GS
  clear hrd hr1 hr2 hrs HS
  go_enter Try.func10, Try.ntmps10
  go_wp2_with (go_at_call 35; refine (rect_any _ _ _ _ _).mono ?_; rintro e w1 ⟨rfl, hb1⟩; obtain ⟨xr, rfl⟩ := hb1.get; clear hb1)
  refine Calls.mono (gsub_lit [((0, 6), (0, 4))] [((2, 3), (1, 2))] rd HD.out (by decide) (by decide) 1 1 _ _ rfl rfl _ _ #[.int .i64 0, .int .i64 6, .int .i64 0, .int .i64 4] #[.int .i64 2, .int .i64 3, .int .i64 1, .int .i64 2] _ _ rfl rfl ?hb1 ?hc1) ?_
  case hb1 => simp [size_ext]
  case hc1 => simp [size_ext]
  rintro e w1 ⟨A1, c1, rfl, hb1, hR1⟩
  obtain ⟨x1, rfl⟩ := hb1.get
  clear hb1
  go_wp2_with (go_at_call 35; refine (rect_any _ _ _ _ _).mono ?_; rintro e w1 ⟨rfl, hb1⟩; obtain ⟨xr, rfl⟩ := hb1.get; clear hb1)
  refine Calls.mono (gof_lit [((0, 4), (0, 5)), ((4, 6), (0, 5))] r1 H1.out (by decide) 2 _ rfl _ #[.int .i64 0, .int .i64 4, .int .i64 0, .int .i64 5, .int .i64 4, .int .i64 6, .int .i64 0, .int .i64 5] _ rfl ?hb2) ?_
  case hb2 => simp [size_ext]
  rintro e w1 ⟨A2, c2, rfl, hb1, hR2⟩
  obtain ⟨x2, rfl⟩ := hb1.get
  clear hb1
  go_wp2_with (go_at_call 35; refine (rect_any _ _ _ _ _).mono ?_; rintro e w1 ⟨rfl, hb1⟩; obtain ⟨xr, rfl⟩ := hb1.get; clear hb1)
  refine Calls.mono (sameR_lit r1 _ _ 1 _ (by rw [E1.out]; rfl) (by rw [E1.out]; decide) _ #[.int .i64 0, .int .i64 6, .int .i64 0, .int .i64 5] _ (hR2.ext (by repeat (first | exact Ext.refl' _ | assumption | apply Ext.ex' | apply Ext.al | apply Ext.drN | apply Ext.dr))) (by rw [E1.out]; rfl) ?hb3) ?_
  case hb3 => simp [size_ext]
  rintro e w1 ⟨rfl, hb1⟩
  obtain ⟨x3, rfl⟩ := hb1.get
  clear hb1
  go_wp2_with (go_at_call 35; refine (rect_any _ _ _ _ _).mono ?_; rintro e w1 ⟨rfl, hb1⟩; obtain ⟨xr, rfl⟩ := hb1.get; clear hb1)
  refine Calls.mono (gof_lit [((0, 4), (0, 5)), ((2, 6), (3, 8))] r2 H2.out (by decide) 2 _ rfl _ #[.int .i64 0, .int .i64 4, .int .i64 0, .int .i64 5, .int .i64 2, .int .i64 6, .int .i64 3, .int .i64 8] _ rfl ?hb4) ?_
  case hb4 => simp [size_ext]
  rintro e w1 ⟨A4, c4, rfl, hb1, hR4⟩
  obtain ⟨x4, rfl⟩ := hb1.get
  clear hb1
  go_wp2_with (go_at_call 35; refine (rect_any _ _ _ _ _).mono ?_; rintro e w1 ⟨rfl, hb1⟩; obtain ⟨xr, rfl⟩ := hb1.get; clear hb1)
  refine Calls.mono (sameR_lit r2 _ _ 3 _ (by rw [E2.out]; rfl) (by rw [E2.out]; decide) _ #[.int .i64 0, .int .i64 4, .int .i64 0, .int .i64 3, .int .i64 0, .int .i64 6, .int .i64 3, .int .i64 5, .int .i64 2, .int .i64 6, .int .i64 5, .int .i64 8] _ (hR4.ext (by repeat (first | exact Ext.refl' _ | assumption | apply Ext.ex' | apply Ext.al | apply Ext.drN | apply Ext.dr))) (by rw [E2.out]; rfl) ?hb5) ?_
  case hb5 => simp [size_ext]
  rintro e w1 ⟨rfl, hb1⟩
  obtain ⟨x5, rfl⟩ := hb1.get
  clear hb1
  go_wp2_with (go_at_call 35; refine (rect_any _ _ _ _ _).mono ?_; rintro e w1 ⟨rfl, hb1⟩; obtain ⟨xr, rfl⟩ := hb1.get; clear hb1)
  refine Calls.mono (sameR_lit rd _ _ 4 _ (by rw [ED.out]; rfl) (by rw [ED.out]; decide) _ #[.int .i64 0, .int .i64 6, .int .i64 0, .int .i64 1, .int .i64 0, .int .i64 2, .int .i64 1, .int .i64 2, .int .i64 3, .int .i64 6, .int .i64 1, .int .i64 2, .int .i64 0, .int .i64 6, .int .i64 2, .int .i64 4] _ (hR1.ext (by repeat (first | exact Ext.refl' _ | assumption | apply Ext.ex' | apply Ext.al | apply Ext.drN | apply Ext.dr))) (by rw [ED.out]; rfl) ?hb6) ?_
  case hb6 => simp [size_ext]
  rintro e w1 ⟨rfl, hb1⟩
  obtain ⟨x6, rfl⟩ := hb1.get
  clear hb1
  go_wp2_with (go_at_call 35; refine (rect_any _ _ _ _ _).mono ?_; rintro e w1 ⟨rfl, hb1⟩; obtain ⟨xr, rfl⟩ := hb1.get; clear hb1)
  refine Calls.mono (GS.out _ _ _ (hR1.ext (by repeat (first | exact Ext.refl' _ | assumption | apply Ext.ex' | apply Ext.al | apply Ext.drN | apply Ext.dr)))) ?_
  rintro e w1 ⟨A7, c7, rfl, hb1, hR7⟩
  obtain ⟨x7, rfl⟩ := hb1.get
  clear hb1
  go_wp2_with (go_at_call 35; refine (rect_any _ _ _ _ _).mono ?_; rintro e w1 ⟨rfl, hb1⟩; obtain ⟨xr, rfl⟩ := hb1.get; clear hb1)
  refine Calls.mono (sameP_lit rs _ _ 2 _ (by rw [ES.out]; rfl) (by rw [ES.out]; decide) _ #[.int .i64 0, .int .i64 1, .int .i64 2, .int .i64 4] _ (hR7.ext (by repeat (first | exact Ext.refl' _ | assumption | apply Ext.ex' | apply Ext.al | apply Ext.drN | apply Ext.dr))) (by rw [ES.out]; rfl) ?hb8) ?_
  case hb8 => simp [size_ext]
  rintro e w1 ⟨rfl, hb1⟩
  obtain ⟨x8, rfl⟩ := hb1.get
  clear hb1
  go_wp2
  go_ret
  exact ⟨rfl, by repeat (first | exact Ext.refl' _ | assumption | apply Ext.ex' | apply Ext.al | apply Ext.drN | apply Ext.dr)⟩

end Go.Proofs.Ytcnhnbdgmfhfgaa
