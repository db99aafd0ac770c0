/- The examples of chapter 5: awake. -/
import Derived.Test.YtimhehnmmjgeaaaGreatDoorRgJ
import Derived.Test.YtimhehnmmjgeaaaGreatDoorRgQ
set_option linter.unusedSimpArgs false
set_option linter.unusedVariables false
namespace Go.Proofs.YtimhehnmmjgeaaaGreatDoor
open Go.RowKit


theorem Rd.litR (w : World) (l : List Rct) (news : Array Value) (e n : Nat) (hn : l.length = n) (hnews : news.toList = rcl l) {b : Nat} (hb : b = w.heap.size) : Rd (w.alloc (.cells news e)) 4 (some ⟨b, 0, none⟩) l.length (rcl l) := by
  rw [← hnews]
  refine Rd.lit w news e l.length 4 ?_ hb
  have := congrArg List.length hnews
  rw [rcl_length] at this
  simpa using this
theorem Rd.litP (w : World) (l : List (Int × Int)) (news : Array Value) (e n : Nat) (hn : l.length = n) (hnews : news.toList = pc l) {b : Nat} (hb : b = w.heap.size) : Rd (w.alloc (.cells news e)) 2 (some ⟨b, 0, none⟩) l.length (pc l) := by
  rw [← hnews]
  refine Rd.lit w news e l.length 2 ?_ hb
  have := congrArg List.length hnews
  rw [pc_length] at this
  simpa using this
theorem gsub_lit (l m r : List Rct) (hr : regF subK l m = r) (hl : l.length ≤ 50000) (hm : m.length ≤ 50000) (n k b c : Nat) (hn : l.length = n) (hk : m.length = k) (w : World) (x : Add) (news newt : Array Value) (e f : Nat) (hnews : news.toList = rcl l) (hnewt : newt.toList = rcl m) (hb : b = w.heap.size) (hc : c = (ext (w.alloc (.cells news e)) x).heap.size) :
    Calls Tryz.prog 38 #[.slice (some ⟨b, 0, none⟩) n n, .slice (some ⟨c, 0, none⟩) k k] ((ext (w.alloc (.cells news e)) x).alloc (.cells newt f)) (RdP 4 r.length (rcl r) ((ext (w.alloc (.cells news e)) x).alloc (.cells newt f))) := by
  subst hr
  have h := gSubtract_any (some ⟨b, 0, none⟩) (some ⟨c, 0, none⟩) n k l m _ ((Rd.litR w l news e n hn hnews hb).ext (Ext.al (Ext.ex _ x) (.cells newt f))) (Rd.litR (ext (w.alloc (.cells news e)) x) m newt f k hk hnewt hc) hl hm
  rwa [hn, hk] at h
theorem ex_R1 : regF subK [((0, 6), (0, 4))] [((2, 3), (1, 2))] = [((0, 6), (0, 1)), ((0, 2), (1, 2)), ((3, 6), (1, 2)), ((0, 6), (2, 4))] := by decide +kernel
theorem ex_R2 : regF ofK [((0, 4), (0, 5)), ((4, 6), (0, 5))] [] = [((0, 6), (0, 5))] := by decide +kernel
theorem ex_R3 : regF ofK [((0, 4), (0, 5)), ((2, 6), (3, 8))] [] = [((0, 4), (0, 3)), ((0, 6), (3, 5)), ((2, 6), (5, 8))] := by decide +kernel
theorem ex_R4 : ofF (secR [((0, 6), (0, 1)), ((0, 2), (1, 2)), ((3, 6), (1, 2)), ((0, 6), (2, 4))] 2) = [(0, 1), (2, 4)] := by decide +kernel


end Go.Proofs.YtimhehnmmjgeaaaGreatDoor
