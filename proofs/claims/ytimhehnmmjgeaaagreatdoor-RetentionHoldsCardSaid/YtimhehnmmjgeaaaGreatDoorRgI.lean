/- The contract of region.combine. -/
import Derived.Test.YtimhehnmmjgeaaaGreatDoorRgH
set_option linter.unusedSimpArgs false
set_option linter.unusedVariables false
namespace Go.Proofs.YtimhehnmmjgeaaaGreatDoor
open Go.RowKit


theorem emitF_tag (s : List (Int × Int)) (p : Int × Int) : emitF (s, p) = s.map (tag p.1 p.2) := rfl
/-- what holds behind j visits -/
def JI (S : Int → List (Int × Int)) (ps : List (Int × Int)) (j : Nat) (outL : List Rct) (last : List (Int × Int)) (tq : Int) : Prop :=
  last.length ≤ outL.length ∧ outL.length ≤ 200002 * j ∧ ∃ G : List Grp, outL = G.flatMap emitF ∧ prgF S G last tq (ps.drop j) = prgF S [] [] (-1) ps ∧ (last = [] ∨ ∃ G0 f, G = G0 ++ [(last, (f, tq))])
theorem JI.start (S : Int → List (Int × Int)) (ps : List (Int × Int)) : JI S ps 0 [] [] (-1) := ⟨by simp, by simp, [], rfl, by simp, .inl rfl⟩
theorem JI.step {S : Int → List (Int × Int)} {ps : List (Int × Int)} {j : Nat} {outL : List Rct} {last : List (Int × Int)} {tq : Int} (h : JI S ps j outL last tq) (hj : j < ps.length) (hS : (S ps[j].1).length ≤ 200002) :
    JI S ps (j + 1) (stepL outL last tq (S ps[j].1) ps[j]).1 (stepL outL last tq (S ps[j].1) ps[j]).2.1 (stepL outL last tq (S ps[j].1) ps[j]).2.2 := by
  obtain ⟨h1, h2, G, hG, hp, hl⟩ := h
  rw [List.drop_eq_getElem_cons hj, prgF] at hp
  generalize ps[j] = p at hS hp ⊢
  unfold stepL
  by_cases hs : S p.1 = []
  · rw [if_pos hs] at hp
    simp only [if_pos hs]
    exact ⟨h1, by omega, G, hG, hp, hl⟩
  · rw [if_neg hs] at hp
    simp only [if_neg hs]
    by_cases hc : tq = p.1 ∧ S p.1 = last
    · rw [if_pos hc] at hp
      simp only [if_pos hc]
      have hlast : last ≠ [] := by rw [← hc.2]; exact hs
      obtain ⟨G0, f, hg⟩ := hl.resolve_left hlast
      rw [hg, List.dropLast_concat, List.getLast?_concat] at hp
      have hol : outL = G0.flatMap emitF ++ last.map (tag f tq) := by rw [hG, hg, List.flatMap_append]; simp [emitF_tag]
      have hcut : outL.length - last.length = (G0.flatMap emitF).length := by rw [hol, List.length_append, List.length_map]; omega
      refine ⟨?_, ?_, G0 ++ [(last, (f, p.2))], ?_, by simpa using hp, .inr ⟨G0, f, by rw [hc.2]⟩⟩
      · rw [hc.2]; simp [setTo]; omega
      · simp [setTo]; omega
      · rw [hcut, hol, List.take_left, List.drop_left, List.flatMap_append]
        simp [emitF_tag, setTo, tag]
    · rw [if_neg hc] at hp
      simp only [if_neg hc]
      refine ⟨by simp, by simp; omega, G ++ [(S p.1, p)], ?_, hp, .inr ⟨G, p.1, rfl⟩⟩
      rw [hG, List.flatMap_append]; simp [emitF_tag]
theorem JI.fin {S : Int → List (Int × Int)} {ps : List (Int × Int)} {outL : List Rct} {last : List (Int × Int)} {tq : Int} (h : JI S ps ps.length outL last tq) : outL = (prgF S [] [] (-1) ps).flatMap emitF := by
  obtain ⟨_, _, G, hG, hp, _⟩ := h
  rw [List.drop_length, prgF] at hp
  rw [hG, hp]

theorem rd_bx {w W : World} {bo bl bt : Nat} {sz n : Nat} {A : Option Addr} {xs : List Value} (h : Rd w sz A n xs) (hE : Ext w W) (h1 : w.heap.size ≤ bo) (h2 : w.heap.size ≤ bl) (h3 : w.heap.size ≤ bt) (vo vl vt : Value) : Rd (bx W bo bl bt vo vl vt) sz A n xs := by
  refine ⟨h.1, fun hn => ?_⟩
  obtain ⟨b, o, hA, hb, hc⟩ := h.2 hn
  have := hE.size
  exact ⟨b, o, hA, by simp; omega, fun j u hu => by rw [bx_far _ _ _ _ _ (by omega) (by omega) (by omega)]; exact hE.cell' (hc j u hu)⟩
/-- a row of pairs lies in no box of one cell -/
theorem rd_one {W : World} {bo bl bt n : Nat} {A : Option Addr} {ps : List (Int × Int)} (h : Rd W 2 A n (pc ps)) (ho : ∀ o, 1 ≤ o → W.cell? ⟨bo, o, none⟩ = none) (hl : ∀ o, 1 ≤ o → W.cell? ⟨bl, o, none⟩ = none) (ht : ∀ o, 1 ≤ o → W.cell? ⟨bt, o, none⟩ = none) (vo vl vt : Value) : Rd (bx W bo bl bt vo vl vt) 2 A n (pc ps) := by
  refine ⟨h.1, fun hn => ?_⟩
  obtain ⟨b, o, hA, hb, hc⟩ := h.2 hn
  refine ⟨b, o, hA, by simpa using hb, fun j u hu => ?_⟩
  have hlen : 0 < ps.length := by have := h.1; rw [pc_length] at this; omega
  have h1 := hc 1 _ (by have := (pc_get ps 0 hlen).2; simpa using this)
  rw [bx_far _ _ _ _ _ (fun e => by subst e; rw [ho _ (by omega)] at h1; cases h1) (fun e => by subst e; rw [hl _ (by omega)] at h1; cases h1) (fun e => by subst e; rw [ht _ (by omega)] at h1; cases h1)]
  exact hc j u hu
theorem set_self {W : World} {b : Nat} {v : Value} (h : W.cell? ⟨b, 0, none⟩ = some v) : W.setCell ⟨b, 0, none⟩ v = W := by
  have hh : (W.setCell ⟨b, 0, none⟩ v).heap = W.heap := by
    apply Array.ext_getElem?
    intro i
    simp only [World.setCell]
    rw [Array.getElem?_modify]
    split
    · rename_i hi
      subst hi
      unfold World.cell? at h
      cases ho : W.heap[b]? with
      | none => rfl
      | some o =>
        rw [ho] at h
        cases o with
        | cells c e f =>
          simp at h
          obtain ⟨h0, h1⟩ := Array.getElem?_eq_some_iff.1 h
          simp only [Option.map_some, Option.isSome_none, Bool.false_eq_true, if_false]
          congr 2
          apply Array.ext_getElem?
          intro j
          rw [Array.getElem?_setIfInBounds]
          split
          · rename_i hj; subst hj; exact h.symm
          · rfl
        | _ => rfl
    · rfl
  show ({ W with heap := (W.setCell ⟨b, 0, none⟩ v).heap } : World) = W
  rw [hh]
theorem bx_self {W : World} {bo bl bt : Nat} {vo vl vt : Value} (h1 : W.cell? ⟨bo, 0, none⟩ = some vo) (h2 : W.cell? ⟨bl, 0, none⟩ = some vl) (h3 : W.cell? ⟨bt, 0, none⟩ = some vt) : bx W bo bl bt vo vl vt = W := by
  unfold bx
  rw [set_self h1, set_self h2, set_self h3]

/-- behind region.combine's visits -/
def ComP (w : World) (bo : Nat) (R : List Rct) (W' : World) : Prop := ∃ Ao co, W'.cell? ⟨bo, 0, none⟩ = some (.slice Ao R.length co) ∧ Ext w W' ∧ Rd W' 4 Ao R.length (rcl R) ∧ ∀ a, Ao = some a → 0 < R.length → w.heap.size ≤ a.block

theorem ext_bx {w W : World} {bo bl bt : Nat} (hE : Ext w W) (h1 : w.heap.size ≤ bo) (h2 : w.heap.size ≤ bl) (h3 : w.heap.size ≤ bt) (vo vl vt : Value) : Ext w (bx W bo bl bt vo vl vt) :=
  Ext.st (Ext.st (Ext.st hE (by exact h1) vo) (by exact h2) vl) (by exact h3) vt
theorem com_J (fn : Nat) (ent : ∀ args w, (callFunc fn args).run Tryz.prog w = .ok (.enter fn args) w) (K : Bool → Bool → Bool)
    (HOP : ∀ (A B : Option Addr) (ca cb : Nat) (la lb : List (Int × Int)) (w : World), Rd w 2 A la.length (pc la) → Rd w 2 B lb.length (pc lb) → la.length ≤ 50000 → lb.length ≤ 50000 → Calls Tryz.prog fn #[.slice A la.length ca, .slice B lb.length cb] w (OwR 25 2 (combF K la lb).length (pc (combF K la lb)) w))
    (A B : Option Addr) (ca cb : Nat) (a b : List Rct) (w W1 : World) (hE : Ext w W1) (hA : Rd w 4 A a.length (rcl a)) (hB : Rd w 4 B b.length (rcl b)) (ha : a.length ≤ 50000) (hb : b.length ≤ 50000)
    (ba bb bp bo bl bt : Nat) (ho : w.heap.size ≤ bo) (hl : w.heap.size ≤ bl) (ht : w.heap.size ≤ bt) (hba : ba < W1.heap.size) (hbb : bb < W1.heap.size) (hbp : bp < W1.heap.size) (ho2 : bo < W1.heap.size) (hl2 : bl < W1.heap.size) (ht2 : bt < W1.heap.size)
    (hne : bo ≠ bl ∧ bo ≠ bt ∧ bl ≠ bt ∧ ba ≠ bo ∧ ba ≠ bl ∧ ba ≠ bt ∧ bb ≠ bo ∧ bb ≠ bl ∧ bb ≠ bt ∧ bp ≠ bo ∧ bp ≠ bl ∧ bp ≠ bt)
    (ca1 : W1.cell? ⟨ba, 0, none⟩ = some (.slice A a.length ca)) (cb1 : W1.cell? ⟨bb, 0, none⟩ = some (.slice B b.length cb)) (cp1 : W1.cell? ⟨bp, 0, none⟩ = some (.func (.func fn) #[] #[]))
    (co1 : W1.cell? ⟨bo, 0, none⟩ = some (.slice none 0 0)) (cl1 : W1.cell? ⟨bl, 0, none⟩ = some (.slice none 0 0)) (ct1 : W1.cell? ⟨bt, 0, none⟩ = some (.int .i64 (-1)))
    (fo : W1.frozen? ⟨bo, 0, none⟩ = false) (fl : W1.frozen? ⟨bl, 0, none⟩ = false) (ft : W1.frozen? ⟨bt, 0, none⟩ = false)
    (no : ∀ o, 1 ≤ o → W1.cell? ⟨bo, o, none⟩ = none) (nl : ∀ o, 1 ≤ o → W1.cell? ⟨bl, o, none⟩ = none) (nt : ∀ o, 1 ≤ o → W1.cell? ⟨bt, o, none⟩ = none)
    (A1 : Option Addr) (ps : List (Int × Int)) (hps : Rd W1 2 A1 ps.length (pc ps)) (hpl : ps.length ≤ 400000) (R : List Rct) (hR : R = (prgF (sK K a b) [] [] (-1) ps).flatMap emitF) :
    ∃ J : Nat → World → Prop, J 0 W1 ∧ (∀ j W, J j W → Rd W 2 A1 ps.length (pc ps)) ∧ (∀ j W o, J j W → J j (W.alloc o)) ∧ (∀ j (hj : j < ps.length) W, J j W → Calls Tryz.prog 73 (#[pr ps[j]] ++ #[.pointer (some ⟨bp, 0, none⟩), .pointer (some ⟨ba, 0, none⟩), .pointer (some ⟨bb, 0, none⟩), .pointer (some ⟨bt, 0, none⟩), .pointer (some ⟨bl, 0, none⟩), .pointer (some ⟨bo, 0, none⟩)]) W fun e w' => e = .returned (.tuple #[]) ∧ J (j + 1) w') ∧ (∀ W, J ps.length W → ComP w bo R W) := by
  obtain ⟨n1, n2, n3, n4, n5, n6, n7, n8, n9, n10, n11, n12⟩ := hne
  have hbx : BxOk W1 bo bl bt := ⟨ho2, hl2, ht2, n1, n2, n3, by rw [co1]; rfl, by rw [cl1]; rfl, by rw [ct1]; rfl, fo, fl, ft⟩
  refine ⟨fun j W => ∃ vo vl tq x outL last, W = ext (bx W1 bo bl bt vo vl (.int .i64 tq)) x ∧ Own (bx W1 bo bl bt vo vl (.int .i64 tq)) x 27 4 vo outL.length (rcl outL) ∧ Own (bx W1 bo bl bt vo vl (.int .i64 tq)) x 25 2 vl last.length (pc last) ∧ JI (sK K a b) ps j outL last tq, ?_, ?_, ?_, ?_, ?_⟩
  · obtain ⟨x, hx⟩ := (Ext.refl' W1).get
    have hs := bx_self co1 cl1 ct1
    exact ⟨_, _, _, x, [], [], by rw [hs]; exact hx, own_nil _ _ _ _, own_nil _ _ _ _, JI.start _ _⟩
  · rintro j W ⟨vo, vl, tq, x, outL, last, rfl, h1, h2, h3⟩
    exact (rd_one hps no nl nt _ _ _).ext (Ext.ex _ _)
  · rintro j W o ⟨vo, vl, tq, x, outL, last, rfl, h1, h2, h3⟩
    obtain ⟨y, hy⟩ := (Ext.al (Ext.ex (bx W1 bo bl bt vo vl (.int .i64 tq)) x) o).get
    exact ⟨vo, vl, tq, y, outL, last, hy, by unfold Own; rw [← hy]; exact World.ownsRow.alloc h1 _, by unfold Own; rw [← hy]; exact World.ownsRow.alloc h2 _, h3⟩
  · rintro j hj W ⟨vo, vl, tq, x, outL, last, rfl, h1, h2, h3⟩
    have hM := Nat.le_trans (sK_length K a b ps[j].1) (show 2 * (a.length + b.length + 1) ≤ 200002 by omega)
    have hmul : 200002 * j ≤ 200002 * 400000 := Nat.mul_le_mul_left _ (by omega)
    refine (visit_any fn ent K HOP A B ca cb a b ha hb W1 ba bb bp bo bl bt hbx hba hbb hbp (fun _ _ _ => by rw [bx_far _ _ _ _ _ n4 n5 n6]; exact ca1) (fun _ _ _ => by rw [bx_far _ _ _ _ _ n7 n8 n9]; exact cb1) (fun _ _ _ => by rw [bx_far _ _ _ _ _ n10 n11 n12]; exact cp1) (rd_bx hA hE ho hl ht) (rd_bx hB hE ho hl ht) ps[j] vo vl tq x outL last h1 h2 h3.1 (by have := h3.2.1; omega)).mono ?_
    rintro e w' ⟨rfl, vo', vl', x', rfl, k1, k2⟩
    exact ⟨rfl, vo', vl', _, x', _, _, rfl, k1, k2, h3.step hj hM⟩
  · rintro W ⟨vo, vl, tq, x, outL, last, rfl, h1, h2, h3⟩
    have hf := h3.fin
    rw [← hR] at hf
    subst hf
    obtain ⟨Ao, co, rfl, _, _⟩ := Own.form h1
    refine ⟨Ao, co, ?_, (ext_bx hE ho hl ht _ _ _).tr (Ext.ex _ _), Rd.of_own h1, fun a ha _ => ?_⟩
    · exact (Ext.ex _ _).cell' (bx_o hbx _ _ _)
    · subst ha
      exact Nat.le_trans (ext_bx hE ho hl ht _ _ _).size (h1.lt a.block rfl).1

set_option maxHeartbeats 2000000 in
theorem combineN_any (fn : Nat) (ent : ∀ args w, (callFunc fn args).run Tryz.prog w = .ok (.enter fn args) w) (K : Bool → Bool → Bool) (hK : K false false = false)
    (HOP : ∀ (A B : Option Addr) (ca cb : Nat) (la lb : List (Int × Int)) (w : World), Rd w 2 A la.length (pc la) → Rd w 2 B lb.length (pc lb) → la.length ≤ 50000 → lb.length ≤ 50000 → Calls Tryz.prog fn #[.slice A la.length ca, .slice B lb.length cb] w (OwR 25 2 (combF K la lb).length (pc (combF K la lb)) w))
    (A B : Option Addr) (ca cb : Nat) (a b : List Rct) (w : World) (hA : Rd w 4 A a.length (rcl a)) (hB : Rd w 4 B b.length (rcl b)) (ha : a.length ≤ 50000) (hb : b.length ≤ 50000) :
    Calls Tryz.prog 52 #[.slice A a.length ca, .slice B b.length cb, .func (.func fn) #[] #[]] w (RdN 4 (regF K a b).length (rcl (regF K a b)) w) := by
  have HOP := Lib.hid HOP
  have HR : Hid (regF K a b = (prgF (sK K a b) [] [] (-1) (slcF (sysR (a ++ b)))).flatMap emitF) := Lib.hid (by rw [prg_all hK]; rfl)
  have HM := Lib.hid (fun t => Nat.le_trans (sK_length K a b t) (show 2 * (a.length + b.length + 1) ≤ 200002 by omega))
  have hsl := slcF_length (sysR (a ++ b))
  have hsy := sysR_length (a ++ b)
  simp only [List.length_append] at hsy
  generalize regF K a b = R at HR ⊢
  have HA := Lib.hid hA
  have HB := Lib.hid hB
  clear hA hB
  go_enter Tryz.func52, Tryz.ntmps52
  go_wp2_with fail
  refine Calls.mono (each_any 73 _ (enters_of Tryz.func73 (by kernel_rfl) rfl) A B ca cb a b _ (HA.out.ext (by repeat (first | exact Ext.refl' _ | assumption | apply Ext.ex' | apply Ext.al | apply Ext.drN | apply Ext.dr))) (HB.out.ext (by repeat (first | exact Ext.refl' _ | assumption | apply Ext.ex' | apply Ext.al | apply Ext.drN | apply Ext.dr))) ha hb (ComP w (w.heap.size + 1 + 1 + 1) R) _ rfl ?hJ) ?_
  case hJ =>
    intro W1 A1 hE1 hps
    have hE : Ext w W1 := Ext.tr (by repeat (first | exact Ext.refl' _ | assumption | apply Ext.ex' | apply Ext.al | apply Ext.drN | apply Ext.dr)) hE1
    have hz := hE1.size
    simp at hz
    refine com_J fn ent K HOP.out A B ca cb a b w W1 hE HA.out HB.out ha hb _ _ _ _ _ _ (by omega) (by omega) (by omega) (by omega) (by omega) (by omega) (by omega) (by omega) (by omega) (by omega) (hE1.cell' (by simp [go_sem])) (hE1.cell' (by simp [go_sem])) (hE1.cell' (by simp [go_sem])) (hE1.cell' (by simp [go_sem])) (hE1.cell' (by simp [go_sem])) (hE1.cell' (by simp [go_sem])) ?f1 ?f2 ?f3 ?g1 ?g2 ?g3 A1 _ hps (by omega) R HR.out
    case f1 => rw [(bcell hE1).2.1 _ _ (by simp)]; simp [go_sem]
    case f2 => rw [(bcell hE1).2.1 _ _ (by simp)]; simp [go_sem]
    case f3 => rw [(bcell hE1).2.1 _ _ (by simp)]; simp [go_sem]
    case g1 => intro o hoo; rw [(bcell hE1).1 _ _ (by simp)]; simp [go_sem]; omega
    case g2 => intro o hoo; rw [(bcell hE1).1 _ _ (by simp)]; simp [go_sem]; omega
    case g3 => intro o hoo; rw [(bcell hE1).1 _ _ (by simp)]; simp [go_sem]; omega
  rintro e w1 ⟨rfl, Ao, co, hc, hE, hP, hN⟩
  go_wp2
  go_ret
  exact ⟨Ao, co, rfl, hE, hP, hN⟩

end Go.Proofs.YtimhehnmmjgeaaaGreatDoor
