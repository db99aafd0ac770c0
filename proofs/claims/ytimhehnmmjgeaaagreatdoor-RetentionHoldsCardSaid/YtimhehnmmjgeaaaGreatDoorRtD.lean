/- The contracts of retention: copied, Large, Lost. -/
import Derived.Test.YtimhehnmmjgeaaaGreatDoorRtC
import Derived.Test.YtimhehnmmjgeaaaGreatDoorRtQ
set_option linter.unusedSimpArgs false
set_option linter.unusedVariables false
namespace Go.Proofs.YtimhehnmmjgeaaaGreatDoor
open Go.RowKit


def vcl (l : List Va) : List Value := l.flatMap vc
theorem vcl_length (l : List Va) : (vcl l).length = l.length * 3 := flatMap_len _ 3 (fun _ => rfl) l
theorem oneCell_vcl (l : List Va) : ∀ u ∈ vcl l, u.oneCell' = true := by
  intro u hu; obtain ⟨v, _, hv⟩ := List.mem_flatMap.1 hu; simp [vc] at hv; rcases hv with rfl | rfl | rfl <;> rfl
theorem elVal3 : El Tryz.prog 47 173 (.agg #[.int .i64 0, .int .i64 0, .string ⟨#[]⟩]) 3 32 := ⟨Tryz.underlying47, info_parts (by kernel_rfl), rfl, by decide⟩
/-- a version in memory and its content -/
structure VerIs (w : World) (v : Ver) (p : PV) : Prop where
  id : v.id = p.id
  sch : v.sch = p.sch
  r : v.r = p.r
  by_ : v.by_ = p.by_
  un : v.un = p.un
  rn : v.rn = p.row.length
  row : Rd w 3 v.rA v.rn (vcl p.row)
theorem VerIs.ext {w w' : World} {v : Ver} {p : PV} (h : VerIs w v p) (e : Ext w w') : VerIs w' v p := ⟨h.id, h.sch, h.r, h.by_, h.un, h.rn, h.row.ext e⟩

theorem own_lit1 (W : World) (e size : Nat) {b : Nat} (hb : b = W.heap.size) : (W.alloc (.cells #[] e)).ownsRow W.heap.size e size (.slice (some ⟨b, 0, none⟩) 0 0) 0 [] := own_lit0' W W (Ext.refl' W) e size hb
set_option maxHeartbeats 800000 in
theorem tcopied_any (v : Ver) (r : Rct) (l : List Va) (w : World) (hn : v.rn = l.length) (hr : Rd w 3 v.rA v.rn (vcl l)) (hl : l.length ≤ 1000000) :
    Calls Tryz.prog 31 #[vg v, rr r] w fun e w' => ∃ A c, e = .returned (vg { v with rA := A, rc := c, r := r }) ∧ Ext w w' ∧ Rd w' 3 A v.rn (vcl l) ∧ ∀ a, A = some a → 0 < v.rn → w.heap.size ≤ a.block := by
  obtain ⟨id, sch, rA, rn, rc, q, by_, un⟩ := v
  dsimp only at hn hr ⊢
  subst hn
  go_enter Tryz.func31, Tryz.ntmps31
  go_wp2_with (at_builtin; (refine wpList_app _ rfl (.tmp 5) (.tmp 7) rfl elVal3 _ (Ext.al1 _ _) _ 0 [] rfl (own_lit1 _ _ _ (by simp)) rA l.length rc (vcl l) rfl (hr.ext (by repeat (first | exact Ext.refl' _ | assumption | apply Ext.ex' | apply Ext.al | apply Ext.drN | apply Ext.dr))) (oneCell_vcl l) (by unfold maxLen; omega) (by omega) ?_; intro v1 x1 ho1 _; obtain ⟨A1, c1, rfl, _, _⟩ := Own.form ho1; have HO1 := Lib.hid ho1; clear ho1))
  go_region
  all_goals go_wp2
  all_goals refine bodyPost_ret (v := vg { id := id, sch := sch, rA := A1, rn := l.length, rc := c1, r := r, by_ := by_, un := un }) ?_ rfl ⟨A1, c1, rfl, by repeat (first | exact Ext.refl' _ | assumption | apply Ext.ex' | apply Ext.al | apply Ext.drN | apply Ext.dr), ?_, ?_⟩
  all_goals first | (intro a ha _; subst ha; have := (HO1.out.lt a.block rfl).1; simp at this; omega) | (have hh := HO1.out; simp only [Nat.zero_add, List.nil_append] at hh; exact Rd.of_own (own_base hh (by simp))) | simp [results, Tryz.results31, go_sem, ↓IntWalk.iteOmega]


def largeB (l : List Ver) (h : List Rct) : Bool := decide (30 < l.length) || decide (12 < h.length) || l.any fun v => decide (20 < v.rn)
theorem rectsV_cons (v : Ver) (l : List Ver) : rectsV (v :: l) = v.r :: rectsV l := rfl
def lostF (h : Int) (l : List Ver) (H : List Rct) : List Rct := regF subK ((rectsV l).filter rvB) (keepF h H)
theorem lostF_kept (h : Int) (l : List Ver) (H : List Rct) : regF subK (rectsV l) (regF ofK (keptF h H) []) = lostF h l H := lost_eq h H _ _ fun v t => (in_valid _ v t).symm
end Go.Proofs.YtimhehnmmjgeaaaGreatDoor
