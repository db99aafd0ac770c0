/- The contracts of retention: rect, valid, keep, Retained, Complete, Horizon; the reference kept, Retained, Complete. -/
import Derived.Test.YtimhehnmmjgeaaaGreatDoorRtP
import Derived.Test.YtimhehnmmjgeaaaGreatDoorRgJ
import Derived.Deep.RegionHeld3
set_option linter.unusedSimpArgs false
set_option linter.unusedVariables false
namespace Go.Proofs.YtimhehnmmjgeaaaGreatDoor
open Go.RowKit


/-- a version: the row as a slice value -/
structure Ver where
  id : Int
  sch : Int
  rA : Option Addr
  rn : Nat
  rc : Nat
  r : Rct
  by_ : Int
  un : Int
deriving Inhabited
def encV (v : Ver) : List Value := [.int .i64 v.id, .int .i64 v.sch, .slice v.rA v.rn v.rc, .int .i64 v.r.1.1, .int .i64 v.r.1.2, .int .i64 v.r.2.1, .int .i64 v.r.2.2, .int .i64 v.by_, .int .i64 v.un]
abbrev vg (v : Ver) : Value := .agg #[.int .i64 v.id, .int .i64 v.sch, .slice v.rA v.rn v.rc, .int .i64 v.r.1.1, .int .i64 v.r.1.2, .int .i64 v.r.2.1, .int .i64 v.r.2.2, .int .i64 v.by_, .int .i64 v.un]
theorem own_lit0 (W : World) (x : Add) (e size : Nat) {b : Nat} (hb : b = W.heap.size + x.n) : ((ext W x).alloc (.cells #[] e)).ownsRow W.heap.size e size (.slice (some ⟨b, 0, none⟩) 0 0) 0 [] := by
  subst hb
  refine ⟨by simp, .inr ⟨W.heap.size + x.n, 0, #[], rfl, by omega, ?_, Nat.le_refl _, Nat.zero_le _, by simp, by simp⟩⟩
  rw [← size_ext]
  exact heap_alloc_new _ _
theorem World.ownsRow.form' {w : World} {base e size n : Nat} {v : Value} {xs : List Value} (h : w.ownsRow base e size v n xs) : ∃ A c, v = .slice A n c ∧ n ≤ c ∧ c ≤ maxLen := by
  rcases h.2 with ⟨rfl, rfl⟩ | ⟨g, cap, cur, rfl, hb, hg, hnc, hcm, hcs, htake⟩
  · exact ⟨none, 0, rfl, Nat.le_refl _, Nat.zero_le _⟩
  · exact ⟨_, _, rfl, hnc, hcm⟩
theorem own_lit0' (W w : World) (hE : Ext W w) (e size : Nat) {b : Nat} (hb : b = w.heap.size) : (w.alloc (.cells #[] e)).ownsRow W.heap.size e size (.slice (some ⟨b, 0, none⟩) 0 0) 0 [] := by
  obtain ⟨x, rfl⟩ := hE.get
  exact own_lit0 W x e size (by rw [hb, size_ext])


theorem vrect_any (v : Ver) (w : World) : Calls Tryz.prog 30 #[vg v] w fun e w' => e = .returned (rr v.r) ∧ Ext w w' := by
  go_enter Tryz.func30, Tryz.ntmps30
  go_wp2
  refine bodyPost_ret (v := rr v.r) ?_ rfl ⟨rfl, by repeat (first | exact Ext.refl' _ | assumption | apply Ext.ex' | apply Ext.al | apply Ext.drN | apply Ext.dr)⟩
  simp [results, Tryz.results30, go_sem]


set_option maxHeartbeats 400000 in
theorem tvalid_any (r : Rct) (w : World) : Calls Tryz.prog 17 #[rr r] w fun e w' => e = .returned (.bool (rvB r)) ∧ Ext w w' := by
  have H1 := Lib.hid (fun w => pvalid_any r.1 w)
  have H2 := Lib.hid (fun w => pvalid_any r.2 w)
  have HV : Hid (rvB r = (pvB r.1 && pvB r.2)) := Lib.hid rfl
  generalize pvB r.1 = p at H1 HV
  generalize pvB r.2 = q at H2 HV
  generalize rvB r = b at HV ⊢
  rcases p with _ | _ <;> rcases q with _ | _
  all_goals go_enter Tryz.func17, Tryz.ntmps17
  all_goals go_wp2_with (first | (go_at_call 27; (with_reducible refine (H1.out _).mono ?_); rintro e w1 ⟨rfl, hb1⟩; obtain ⟨x1, rfl⟩ := hb1.get; clear hb1) | (go_at_call 27; (with_reducible refine (H2.out _).mono ?_); rintro e w1 ⟨rfl, hb1⟩; obtain ⟨x2, rfl⟩ := hb1.get; clear hb1))
  all_goals go_ret
  all_goals exact ⟨by rw [HV.out]; rfl, by repeat (first | exact Ext.refl' _ | assumption | apply Ext.ex' | apply Ext.al | apply Ext.drN | apply Ext.dr)⟩


set_option maxHeartbeats 400000 in
theorem rvalid33_any (r : Rct) (w : World) : Calls Tryz.prog 29 #[rr r] w fun e w' => e = .returned (.bool (rvB r)) ∧ Ext w w' := by
  have H1 := Lib.hid (fun w => rvalid_any r.1 w)
  have H2 := Lib.hid (fun w => rvalid_any r.2 w)
  have HV : Hid (rvB r = (pvB r.1 && pvB r.2)) := Lib.hid rfl
  generalize pvB r.1 = p at H1 HV
  generalize pvB r.2 = q at H2 HV
  generalize rvB r = b at HV ⊢
  rcases p with _ | _ <;> rcases q with _ | _
  all_goals go_enter Tryz.func29, Tryz.ntmps29
  all_goals go_wp2_with (first | (go_at_call 49; (with_reducible refine (H1.out _).mono ?_); rintro e w1 ⟨rfl, hb1⟩; obtain ⟨x1, rfl⟩ := hb1.get; clear hb1) | (go_at_call 49; (with_reducible refine (H2.out _).mono ?_); rintro e w1 ⟨rfl, hb1⟩; obtain ⟨x2, rfl⟩ := hb1.get; clear hb1))
  all_goals go_ret
  all_goals exact ⟨by rw [HV.out]; rfl, by repeat (first | exact Ext.refl' _ | assumption | apply Ext.ex' | apply Ext.al | apply Ext.drN | apply Ext.dr)⟩


set_option maxHeartbeats 1000000 in
theorem tkeep_any (h : Int) (L : Option Addr) (cl : Nat) (l : List Rct) (w : World) (hl : Rd w 4 L l.length (rcl l)) (nl : l.length ≤ 40000) :
    Calls Tryz.prog 37 #[.int .i64 h, .slice L l.length cl] w (OwR 27 4 (keepF h l).length (rcl (keepF h l)) w) := by
  have HK : Hid (rcl (keepF h l) = [] ++ rcl l ++ [.int .i64 0, .int .i64 1099511627776, .int .i64 (max 0 h), .int .i64 1099511627776]) := Lib.hid (by unfold keepF; rw [rcl_append]; rfl)
  have HL : Hid ((keepF h l).length = 0 + l.length + 1) := Lib.hid (by rw [keepF_length]; omega)
  generalize keepF h l = k at HK HL ⊢
  go_enter Tryz.func37, Tryz.ntmps37
  go_wp2_with (at_builtin; first | (refine wpList_app _ rfl (.tmp 6) (.tmp 7) rfl elRect w (by repeat (first | exact Ext.refl' _ | assumption | apply Ext.ex' | apply Ext.al | apply Ext.drN | apply Ext.dr)) _ 0 [] rfl (own_lit0' w _ (by repeat (first | exact Ext.refl' _ | assumption | apply Ext.ex' | apply Ext.al | apply Ext.drN | apply Ext.dr)) _ _ (by simp)) L l.length cl (rcl l) rfl (hl.ext (by repeat (first | exact Ext.refl' _ | assumption | apply Ext.ex' | apply Ext.al | apply Ext.drN | apply Ext.dr))) (oneCell_rcl l) (by unfold maxLen; (try simp only [List.length_append, List.length_nil]); omega) (by (try simp only [List.length_append, List.length_nil]); omega) ?_; intro v1 x1 ho1 _) | (refine wpList_app _ rfl (.tmp 9) (.tmp 15) rfl elRect w (by repeat (first | exact Ext.refl' _ | assumption | apply Ext.ex' | apply Ext.al | apply Ext.drN | apply Ext.dr)) _ _ _ rfl (World.ownsRow.alloc (by exact ho1) _) _ 1 1 [.int .i64 0, .int .i64 1099511627776, .int .i64 (max 0 h), .int .i64 1099511627776] rfl (Rd.lit _ _ _ 1 4 rfl (by simp [size_ext])) (oneCell_rcl [hrR h]) (by unfold maxLen; (try simp only [List.length_append, List.length_nil]); omega) (by (try simp only [List.length_append, List.length_nil]); omega) ?_; intro v2 x2 ho2 _))
  go_ret
  exact ⟨_, rfl, Ext.ex _ _, by rw [HK.out, HL.out]; exact ho2⟩


theorem rd_rect (w : World) (b : Nat) (r : Rct) (h0 : w.cell? ⟨b, 0, none⟩ = some (.int .i64 r.1.1)) (h1 : w.cell? ⟨b, 1, none⟩ = some (.int .i64 r.1.2)) (h2 : w.cell? ⟨b, 2, none⟩ = some (.int .i64 r.2.1)) (h3 : w.cell? ⟨b, 3, none⟩ = some (.int .i64 r.2.2)) : Rd w 4 (some ⟨b, 0, none⟩) 1 (rcl [r]) := by
  refine ⟨rfl, fun _ => ⟨b, 0, rfl, cell_lt h0, fun j u hu => ?_⟩⟩
  rw [Nat.zero_add]
  match j, hu with
  | 0, hu => simp [rcl] at hu; subst hu; exact h0
  | 1, hu => simp [rcl] at hu; subst hu; exact h1
  | 2, hu => simp [rcl] at hu; subst hu; exact h2
  | 3, hu => simp [rcl] at hu; subst hu; exact h3
theorem rd_lit_ext (w : World) (x : Add) (r : Rct) (news : Array Value) (e : Nat) (hnews : news.toList = rcl [r]) {b : Nat} (hb : b = w.heap.size) : Rd (ext (w.alloc (.cells news e)) x) 4 (some ⟨b, 0, none⟩) 1 (rcl [r]) :=
  Rd.ext (by rw [← hnews]; exact Rd.lit w news e 1 4 (by have := congrArg List.length hnews; simpa [rcl] using this) hb) (Ext.ex _ x)
theorem tint_lit (r : Rct) (K R : List Rct) (hR : regF interK [r] K = R) (hK : K.length ≤ 50000) (B : Option Addr) (cb b : Nat) (w : World) (x : Add) (news : Array Value) (e : Nat) (hnews : news.toList = rcl [r]) (hb : b = w.heap.size) (hB : Rd (ext (w.alloc (.cells news e)) x) 4 B K.length (rcl K)) :
    Calls Tryz.prog 36 #[.slice (some ⟨b, 0, none⟩) 1 1, .slice B K.length cb] (ext (w.alloc (.cells news e)) x) (RdN 4 R.length (rcl R) (ext (w.alloc (.cells news e)) x)) := by
  subst hR
  exact gIntersectN_any (some ⟨b, 0, none⟩) B 1 cb [r] K _ (rd_lit_ext w x r news e hnews hb) hB (by simp) hK
def tretainedF (h : Int) (l : List Rct) (r : Rct) : List Rct := if rvB r then regF interK [r] (keepF h l) else []
set_option maxHeartbeats 1000000 in
theorem tretainedN_any (v : Ver) (h : Int) (L : Option Addr) (cl : Nat) (l : List Rct) (w : World) (hl : Rd w 4 L l.length (rcl l)) (nl : l.length ≤ 12) :
    Calls Tryz.prog 20 #[vg v, .int .i64 h, .slice L l.length cl] w (RdN 4 (tretainedF h l v.r).length (rcl (tretainedF h l v.r)) w) := by
  have HV := Lib.hid (fun w => tvalid_any v.r w)
  have HK := Lib.hid (fun w h1 => tkeep_any h L cl l w h1 (by omega))
  have hkl : (keepF h l).length ≤ 50000 := by rw [keepF_length]; omega
  rcases hv : rvB v.r with _ | _
  · have HR : Hid (tretainedF h l v.r = []) := Lib.hid (by unfold tretainedF; rw [hv]; rfl)
    generalize tretainedF h l v.r = R at HR ⊢
    rw [hv] at HV
    clear hv hkl
    go_enter Tryz.func20, Tryz.ntmps20
    go_wp2_with (first | (go_at_call 30; refine (vrect_any v _).mono ?_; rintro e w1 ⟨rfl, hb1⟩; obtain ⟨x1, rfl⟩ := hb1.get; clear hb1) | (go_at_call 17; refine (HV.out _).mono ?_; rintro e w1 ⟨rfl, hb1⟩; obtain ⟨x2, rfl⟩ := hb1.get; clear hb1))
    go_ret
    exact ⟨none, 0, by rw [HR.out]; rfl, by repeat (first | exact Ext.refl' _ | assumption | apply Ext.ex' | apply Ext.al | apply Ext.drN | apply Ext.dr), by rw [HR.out]; exact Rd.nil, by intro a ha; cases ha⟩
  · have HR : Hid (regF interK [v.r] (keepF h l) = tretainedF h l v.r) := Lib.hid (by unfold tretainedF; rw [hv]; rfl)
    generalize tretainedF h l v.r = R at HR ⊢
    rw [hv] at HV
    clear hv
    generalize (keepF h l) = kk at HR HK hkl
    go_enter Tryz.func20, Tryz.ntmps20
    go_wp2_with (first | (go_at_call 30; refine (vrect_any v _).mono ?_; rintro e w1 ⟨rfl, hb1⟩; obtain ⟨x1, rfl⟩ := hb1.get; clear hb1) | (go_at_call 17; refine (HV.out _).mono ?_; rintro e w1 ⟨rfl, hb1⟩; obtain ⟨x2, rfl⟩ := hb1.get; clear hb1) | (go_at_call 37; refine (HK.out _ (hl.ext (by repeat (first | exact Ext.refl' _ | assumption | apply Ext.ex' | apply Ext.al | apply Ext.drN | apply Ext.dr)))).mono ?_; rintro e w1 ⟨vk, rfl, hb1, hok⟩; obtain ⟨xk, rfl⟩ := hb1.get; obtain ⟨Ak, ck, rfl, _, _⟩ := World.ownsRow.form' hok; have hRk := Rd.of_own hok; clear hb1 hok))
    refine Calls.mono (tint_lit v.r kk R HR.out hkl Ak ck _ _ xk _ _ rfl ?hb hRk) ?_
    case hb => simp [size_ext]
    rintro e w1 ⟨A3, c3, rfl, hb1, hR3, hN3⟩
    obtain ⟨x3, rfl⟩ := hb1.get
    go_wp2
    go_ret
    exact ⟨A3, c3, rfl, by repeat (first | exact Ext.refl' _ | assumption | apply Ext.ex' | apply Ext.al | apply Ext.drN | apply Ext.dr), hR3, fun a ha hn => Nat.le_trans (show Ext w _ from (by repeat (first | exact Ext.refl' _ | assumption | apply Ext.ex' | apply Ext.al | apply Ext.drN | apply Ext.dr))).size (hN3 a ha hn)⟩


theorem tretained_any (v : Ver) (h : Int) (L : Option Addr) (cl : Nat) (l : List Rct) (w : World) (hl : Rd w 4 L l.length (rcl l)) (nl : l.length ≤ 12) :
    Calls Tryz.prog 20 #[vg v, .int .i64 h, .slice L l.length cl] w (RdP 4 (tretainedF h l v.r).length (rcl (tretainedF h l v.r)) w) :=
  (tretainedN_any v h L cl l w hl nl).mono fun _ _ h => h.rd


def rretainedF (h : Int) (l : List Rct) (r : Rct) : List Rct := if rvB r then regF interK [r] (regF ofK (keptF h l) []) else []
end Go.Proofs.YtimhehnmmjgeaaaGreatDoor
