/- The contract of the closure in clock.Shown. -/
import Derived.Test.YtfimkjponcnlmaaClkR
import Derived.Deep.RegionHeld3
set_option linter.unusedSimpArgs false
set_option linter.unusedVariables false
namespace Go.Proofs.Ytfimkjponcnlmaa
open Go.RowKit

def addF (out : List (Int × Int)) (p : Int × Int) : List (Int × Int) :=
  match out.getLast? with
  | none => [p]
  | some q => if (pmerge q p).2 then out.dropLast ++ [(pmerge q p).1] else out ++ [p]

/-- what the closure leaves -/
def AddPost (w : World) (fb : Obj) (x : Add) (v : Value) (res : List (Int × Int)) (e : Ending) (w' : World) : Prop :=
  e = .returned (.tuple #[]) ∧ ∃ v' x', w' = ext ((w.alloc (.cells #[v'] 42)).alloc fb) x' ∧ Own ((w.alloc (.cells #[v'] 42)).alloc fb) x' 49 2 v' res.length (pc res) ∧
    ∀ g o u, w.heap.size + 2 ≤ g → some g ≠ v.ownBlock → (ext ((w.alloc (.cells #[v] 42)).alloc fb) x).cell? ⟨g, o, none⟩ = some u → (extR ((w.alloc (.cells #[v'] 42)).alloc fb) x').cell? ⟨g, o, none⟩ = some u

theorem addF_merge {init : List (Int × Int)} {q p : Int × Int} (h : (pmerge q p).2 = true) : addF (init ++ [q]) p = init ++ [(pmerge q p).1] := by simp [addF, h]
theorem addF_new {init : List (Int × Int)} {q p : Int × Int} (h : (pmerge q p).2 = false) : addF (init ++ [q]) p = init ++ [q] ++ [p] := by simp [addF, h]
theorem pc_app (a b : List (Int × Int)) : pc (a ++ b) = pc a ++ pc b := by simp [pc]
theorem pc_set (init : List (Int × Int)) (q r : Int × Int) : ((pc (init ++ [q])).set (init.length * 2) (.int .i64 r.1)).set (init.length * 2 + 1) (.int .i64 r.2) = pc (init ++ [r]) := by
  have hl := pc_length init
  rw [pc_app, pc_app, List.set_append, if_neg (by omega), List.set_append, if_neg (by omega), hl]
  simp [pc]

/-- the end of the way on which the last period was turned in place -/
theorem add_set {w : World} {fb : Obj} {x xa xb : Add} {v : Value} {g : Nat} {res : List (Int × Int)} {wf : World} (hv : v.ownBlock = some g) (ha : (ext ((w.alloc (.cells #[v] 42)).alloc fb) x).grownBy (ext ((w.alloc (.cells #[v] 42)).alloc fb) xa) (some g)) (hb : (ext ((w.alloc (.cells #[v] 42)).alloc fb) xa).grownBy (ext ((w.alloc (.cells #[v] 42)).alloc fb) xb) (some g))
    (ho : Own ((w.alloc (.cells #[v] 42)).alloc fb) xb 49 2 v res.length (pc res)) (hE : Ext (ext ((w.alloc (.cells #[v] 42)).alloc fb) xb) wf) : AddPost w fb x v res (.returned (.tuple #[])) wf := by
  refine ⟨rfl, v, ?_⟩
  obtain ⟨x', hx'⟩ := ((Ext.ex ((w.alloc (.cells #[v] 42)).alloc fb) xb).tr hE).get
  obtain ⟨y, rfl⟩ := hE.get
  refine ⟨x', hx', Own.of_eq (own_ext ho y) hx', fun g' o u h1 h2 h3 => ?_⟩
  rw [hv] at h2
  show (ext _ x').cell? _ = _
  rw [← hx']
  exact cell_ex (hb.cell (ha.cell h3 h2) h2)
/-- the end of the ways on which a period was appended -/
theorem add_app {w : World} {fb : Obj} {x x' : Add} {v v' : Value} {res : List (Int × Int)} {wc : World} (hE : Ext (ext ((w.alloc (.cells #[v] 42)).alloc fb) x) wc) (hg : wc.grownBy (ext ((w.alloc (.cells #[v] 42)).alloc fb) x') v.ownBlock) (ho : Own ((w.alloc (.cells #[v] 42)).alloc fb) x' 49 2 v' res.length (pc res)) :
    AddPost w fb x v res (.returned (.tuple #[])) (ext ((w.alloc (.cells #[v'] 42)).alloc fb) x') := by
  refine ⟨rfl, v', x', rfl, own_base ho (by simp), fun g o u h1 h2 h3 => ?_⟩
  exact grown_cell' hg (by simp) (hE.cell' h3) h2 (by simp; omega)

set_option maxHeartbeats 1000000 in
theorem add_any (w : World) (fb : Obj) (x : Add) (v : Value) (out : List (Int × Int)) (p : Int × Int) (hown : Own ((w.alloc (.cells #[v] 42)).alloc fb) x 49 2 v out.length (pc out)) (hl : out.length * 16 ≤ 140737488351232) :
    Calls Try.prog 32 #[pr p, .pointer (some ⟨w.heap.size, 0, none⟩)] (ext ((w.alloc (.cells #[v] 42)).alloc fb) x) (AddPost w fb x v (addF out p)) := by
  obtain ⟨A, c, rfl, hc1, hc2⟩ := hown.form
  rcases List.eq_nil_or_concat out with rfl | ⟨init, q, rfl⟩
  · go_enter Try.func32, Try.ntmps32
    go_wp2_with (at_builtin; (refine wpList_app _ rfl (.tmp 26) (.tmp 28) rfl elPeriod ((w.alloc (.cells #[.slice A 0 c] 42)).alloc fb) (by repeat (first | exact Ext.refl' _ | assumption | apply Ext.ex' | apply Ext.al | apply Ext.drN | apply Ext.dr)) (.slice A 0 c) _ _ rfl (World.ownsRow.alloc (World.ownsRow.alloc (by exact hown) _) _) _ 1 1 [.int .i64 p.1, .int .i64 p.2] rfl (Rd.lit _ _ _ 1 2 rfl (by simp [size_ext])) (oneCell_pc [p]) (by unfold maxLen; simp) (by simp) ?_; intro v' x' hown' hg; obtain ⟨A', c', rfl, hd1, hd2⟩ := hown'.form))
    go_end0
    exact add_app (Ext.al (Ext.al1 _ _) _) hg (by simpa [addF, pc] using hown')
  · rw [List.concat_eq_append] at *
    simp only [List.length_append, List.length_cons, List.length_nil, Nat.zero_add] at hown hl hc1 ⊢
    obtain ⟨g, rfl, hg1, hg2, hgc, hgf⟩ := hown.at (by omega)
    simp at hg1 hg2
    go_enter Try.func32, Try.ntmps32
    obtain ⟨hq1, hq2⟩ := pc_get (init ++ [q]) init.length (by simp)
    simp only [List.getElem_append_right (Nat.le_refl _), Nat.sub_self, List.getElem_cons_zero] at hq1 hq2
    have hr1 := hgc _ _ hq1
    have hr2 := hgc _ _ hq2
    have HQ2 := Lib.hid hq2
    have HMX : Hid (init.length + 1 + 1 ≤ maxLen) := Lib.hid (by unfold maxLen; omega)
    have HBY : Hid ((init.length + 1 + 1) * 16 ≤ 140737488355328) := Lib.hid (by omega)
    have HNE : Hid (init.length * 2 ≠ init.length * 2 + 1) := Lib.hid (by omega)
    clear hq1 hq2 hgc
    go_wp2_with fail
    have hw1 : IntKind.i64.wrap (init.length : Int) = init.length := IntWalk.i64_in _ (by omega)
    have hw2 : IntKind.i64.wrap ((init.length : Int) + 1 - 1) = init.length := by rw [Int.add_sub_cancel]; exact hw1
    have hw3 : (0 : Int) ≤ init.length := by omega
    have hw4 : (init.length : Int) < init.length + 1 := by omega
    go_region_held3 (fun w' => w'.cell? ⟨w.heap.size, 0, none⟩ = some (.slice (some ⟨g, 0, none⟩) (init.length + 1) c) ∧ w'.cell? ⟨g, init.length * 2, none⟩ = some (.int .i64 q.1) ∧ w'.cell? ⟨g, init.length * 2 + 1, none⟩ = some (.int .i64 q.2) ∧ w'.cell? ⟨w.heap.size + 1 + 1 + x.n, 0, none⟩ = some (.int .i64 p.1) ∧ w'.cell? ⟨w.heap.size + 1 + 1 + x.n, 1, none⟩ = some (.int .i64 p.2)) (simp [go_sem, ↓IntWalk.iteOmega, *])
      (first | (go_at_call 33; refine (pmerge_any q p _).mono ?_; rintro e w1 ⟨rfl, hb1⟩; obtain ⟨x1, rfl⟩ := hb1.get; clear hb1))
    all_goals clear hw1 hw2 hw3 hw4
    all_goals rcases hm : (pmerge q p).2 with _ | _
    · have HM := Lib.hid (addF_new (init := init) hm)
      go_wp2_with (at_builtin; (refine wpList_app _ rfl (.tmp 26) (.tmp 28) rfl elPeriod ((w.alloc (.cells #[.slice (some ⟨g, 0, none⟩) (init.length + 1) c] 42)).alloc fb) (by repeat (first | exact Ext.refl' _ | assumption | apply Ext.ex' | apply Ext.al | apply Ext.drN | apply Ext.dr)) (.slice (some ⟨g, 0, none⟩) (init.length + 1) c) (init.length + 1) (pc (init ++ [q])) rfl (by repeat (first | exact hown | apply own_ext | apply World.ownsRow.alloc | apply World.ownsRow.drew)) _ 1 1 [.int .i64 p.1, .int .i64 p.2] rfl (Rd.lit _ _ _ 1 2 rfl (by simp [size_ext])) (oneCell_pc [p]) HMX.out HBY.out ?_; intro v' x' hown' hg; obtain ⟨A', c', rfl, hd1, hd2⟩ := hown'.form; have HG := Lib.hid hg; have HO := Lib.hid hown'; clear hg hown'))
      go_end0
      rw [HM.out]
      exact add_app (by repeat (first | exact Ext.refl' _ | apply Ext.ex' | apply Ext.al | apply Ext.drN | apply Ext.dr)) HG.out (by simpa [pc] using HO.out)
    · obtain ⟨xa, ha1, ha2, ha3, ha4, ha5, ha6⟩ := hown.set (init.length * 2) (.int .i64 (pmerge q p).1.1)
      obtain ⟨xb, hb1, hb2, hb3, hb4, hb5, hb6⟩ := ha3.set (init.length * 2 + 1) (.int .i64 (pmerge q p).1.2)
      have hra := ha5 (init.length * 2 + 1) (.int .i64 q.2) (by rw [List.getElem?_set_ne HNE.out]; exact HQ2.out)
      rw [pc_set] at hb3
      have HO := Lib.hid hb3
      have HA := Lib.hid ha4
      have HB := Lib.hid hb4
      have HM := Lib.hid (addF_merge (init := init) hm)
      clear ha3 ha4 ha5 hb3 hb4 hb5 hb6
      go_wp2_with fail
      refine bodyPost_ret (results_none rfl _ _ _) rfl ?_
      rw [HM.out]
      exact add_set rfl HA.out HB.out (by simpa using HO.out) (by repeat (first | exact Ext.refl' _ | apply Ext.ex' | apply Ext.al | apply Ext.drN | apply Ext.dr))
    · have HM := Lib.hid (addF_new (init := init) hm)
      go_wp2_with (at_builtin; (refine wpList_app _ rfl (.tmp 26) (.tmp 28) rfl elPeriod ((w.alloc (.cells #[.slice (some ⟨g, 0, none⟩) (init.length + 1) c] 42)).alloc fb) (by repeat (first | exact Ext.refl' _ | assumption | apply Ext.ex' | apply Ext.al | apply Ext.drN | apply Ext.dr)) (.slice (some ⟨g, 0, none⟩) (init.length + 1) c) (init.length + 1) (pc (init ++ [q])) rfl (by repeat (first | exact hown | apply own_ext | apply World.ownsRow.alloc | apply World.ownsRow.drew)) _ 1 1 [.int .i64 p.1, .int .i64 p.2] rfl (Rd.lit _ _ _ 1 2 rfl (by simp [size_ext])) (oneCell_pc [p]) HMX.out HBY.out ?_; intro v' x' hown' hg; obtain ⟨A', c', rfl, hd1, hd2⟩ := hown'.form; have HG := Lib.hid hg; have HO := Lib.hid hown'; clear hg hown'))
      go_end0
      rw [HM.out]
      exact add_app (by repeat (first | exact Ext.refl' _ | apply Ext.ex' | apply Ext.al | apply Ext.drN | apply Ext.dr)) HG.out (by simpa [pc] using HO.out)
    · obtain ⟨xa, ha1, ha2, ha3, ha4, ha5, ha6⟩ := hown.set (init.length * 2) (.int .i64 (pmerge q p).1.1)
      obtain ⟨xb, hb1, hb2, hb3, hb4, hb5, hb6⟩ := ha3.set (init.length * 2 + 1) (.int .i64 (pmerge q p).1.2)
      have hra := ha5 (init.length * 2 + 1) (.int .i64 q.2) (by rw [List.getElem?_set_ne HNE.out]; exact HQ2.out)
      rw [pc_set] at hb3
      have HO := Lib.hid hb3
      have HA := Lib.hid ha4
      have HB := Lib.hid hb4
      have HM := Lib.hid (addF_merge (init := init) hm)
      clear ha3 ha4 ha5 hb3 hb4 hb5 hb6
      go_wp2_with fail
      refine bodyPost_ret (results_none rfl _ _ _) rfl ?_
      rw [HM.out]
      exact add_set rfl HA.out HB.out (by simpa using HO.out) (by repeat (first | exact Ext.refl' _ | apply Ext.ex' | apply Ext.al | apply Ext.drN | apply Ext.dr))
theorem add_at (B : Nat) (w : World) (hB : w.heap.size = B) (fb : Obj) (x : Add) (v : Value) (out : List (Int × Int)) (p : Int × Int) (hown : Own ((w.alloc (.cells #[v] 42)).alloc fb) x 49 2 v out.length (pc out)) (hl : out.length * 16 ≤ 140737488351232) :
    Calls Try.prog 32 #[pr p, .pointer (some ⟨B, 0, none⟩)] (ext ((w.alloc (.cells #[v] 42)).alloc fb) x) (AddPost w fb x v (addF out p)) := by
  subst hB
  exact add_any w fb x v out p hown hl
end Go.Proofs.Ytfimkjponcnlmaa
