/- The least number of pairs restored. -/
import Derived.Test.YtdmbgimehepfaaaBtV
set_option linter.unusedSimpArgs false
set_option linter.unusedVariables false
namespace Go.Proofs.Ytdmbgimehepfaaa
open Go.RowKit


theorem me_fix (base m d i h : Nat) (t a b : MT) (w : World) (hbw : base ≤ w.heap.size) (hm2 : m ≤ 64) (hh : m / 2 = h) (hh1 : 1 ≤ h) (hG : Good base w (d + 1) t) (hnd : (foot (d + 1) t).Nodup) (hl : t.ks.length = t.ps.length + 1) (hpl : t.ps.length ≤ 64) (hia : t.ks[i]? = some a) (hib : t.ks[i + 1]? = some b)
    (hwa : KidW m d a) (hwb : KidW m d b) (hoth : ∀ j k, t.ks[j]? = some k → j ≠ i → j ≠ i + 1 → Wf m d (m / 2) m k) (hs1 : h ≤ a.ps.length + b.ps.length + 1) (hs2 : a.ps.length + b.ps.length + 1 ≤ m) :
    Calls Try.prog 68 #[pt t.r, .int .i64 i] w fun e w' => e = .returned (.tuple #[]) ∧ ∃ t', FixR base m d w w' t t' := by
  have hib1 := (List.getElem?_eq_some_iff.1 hib).1
  obtain ⟨q, hq⟩ : ∃ q, t.ps[i]? = some q := ⟨_, List.getElem?_eq_getElem (by omega)⟩
  have hap := kids_apart hnd hia hib
  have hA := (hG.2 _ (List.mem_of_getElem? hia)).node
  have hB := (hG.2 _ (List.mem_of_getElem? hib)).node
  have hal := hwa.le
  have hbl := hwb.le
  refine Calls.mono (merge_any base i t a b q w hbw hG.1 hA hB hap hia hib hq (by omega) hl (by omega) (by omega)) ?_
  rintro e w' ⟨rfl, t', a', H⟩
  exact ⟨rfl, t', H.fix hG hnd hl hia hib hq hwa hwb (by omega) hs2 hoth⟩
theorem bl_fix (base m d i h : Nat) (t a b : MT) (w : World) (hbw : base ≤ w.heap.size) (hm2 : m ≤ 64) (hh : m / 2 = h) (hh1 : 1 ≤ h) (hG : Good base w (d + 1) t) (hnd : (foot (d + 1) t).Nodup) (hl : t.ks.length = t.ps.length + 1) (hpl : t.ps.length ≤ 64) (hia : t.ks[i]? = some a) (hib : t.ks[i + 1]? = some b)
    (hwa : KidW m d a) (hwb : KidW m d b) (hoth : ∀ j k, t.ks[j]? = some k → j ≠ i → j ≠ i + 1 → Wf m d (m / 2) m k) (ha : h < a.ps.length) (ha2 : a.ps.length ≤ m) (hb : b.ps.length + 1 = h) :
    Calls Try.prog 66 #[pt t.r, .int .i64 ((i : Int) + 1)] w fun e w' => e = .returned (.tuple #[]) ∧ ∃ t', FixR base m d w w' t t' := by
  have hib1 := (List.getElem?_eq_some_iff.1 hib).1
  obtain ⟨q, hq⟩ : ∃ q, t.ps[i]? = some q := ⟨_, List.getElem?_eq_getElem (by omega)⟩
  have hap := kids_apart hnd hia hib
  have hA := (hG.2 _ (List.mem_of_getElem? hia)).node
  have hB := (hG.2 _ (List.mem_of_getElem? hib)).node
  have hal := hwa.le
  have hbl := hwb.le
  obtain ⟨la, hla⟩ : ∃ la, a.ps.length = la + 1 := ⟨a.ps.length - 1, by omega⟩
  obtain ⟨q', hq'⟩ : ∃ q', a.ps[la]? = some q' := ⟨_, List.getElem?_eq_getElem (by omega)⟩
  refine Calls.mono (borrowLeft_any base i t a b q q' la w hbw hG.1 hA hB hap hia hib hq hla hq' (by omega) hl (by omega) (by omega) (by
    cases d with
    | zero => exact .inl ⟨hwa, hwb⟩
    | succ d => exact .inr hwa.1)) ?_
  rintro e w' ⟨rfl, t', a', b', H, e1, e2, e3, e4, e5⟩
  refine ⟨rfl, t', H.fix (q := q) (q' := q') e1 ?_ ?_ hG hnd hl hia hib hq hwa hwb ?_ ?_ ?_ ?_ ?_ ?_ hoth⟩
  · rw [e2, e3]
    have e : a.ps = a.ps.take la ++ [q'] := by
      have := one_at hq'
      rwa [List.drop_eq_nil_of_le (by omega)] at this
    conv => rhs; rw [e]
    simp
  · rw [e4, e5, ← List.append_assoc, List.take_append_drop]
  · cases d with
    | zero => show a'.ks = []; rw [e4, show a.ks = [] from hwa]; rfl
    | succ d => exact ⟨by rw [e4, e2]; have := hwa.1; simp; omega, fun k hk => by rw [e4] at hk; exact hwa.2 k (List.mem_of_mem_take hk)⟩
  · cases d with
    | zero => show b'.ks = []; rw [e5, show a.ks = [] from hwa, show b.ks = [] from hwb]; rfl
    | succ d =>
      refine ⟨by rw [e5, e3]; have := hwa.1; have := hwb.1; simp; omega, fun k hk => ?_⟩
      rw [e5] at hk
      rcases List.mem_append.1 hk with hk | hk
      · exact hwa.2 k (List.mem_of_mem_drop hk)
      · exact hwb.2 k hk
  · rw [e2, hh]; simp; omega
  · rw [e2]; simp; omega
  · rw [e3, hh]; simp; omega
  · rw [e3]; simp; omega
theorem br_fix (base m d i h : Nat) (t a b : MT) (w : World) (hbw : base ≤ w.heap.size) (hm2 : m ≤ 64) (hh : m / 2 = h) (hh1 : 1 ≤ h) (hG : Good base w (d + 1) t) (hnd : (foot (d + 1) t).Nodup) (hl : t.ks.length = t.ps.length + 1) (hpl : t.ps.length ≤ 64) (hia : t.ks[i]? = some a) (hib : t.ks[i + 1]? = some b)
    (hwa : KidW m d a) (hwb : KidW m d b) (hoth : ∀ j k, t.ks[j]? = some k → j ≠ i → j ≠ i + 1 → Wf m d (m / 2) m k) (hb : h < b.ps.length) (hb2 : b.ps.length ≤ m) (ha : a.ps.length + 1 = h) :
    Calls Try.prog 67 #[pt t.r, .int .i64 i] w fun e w' => e = .returned (.tuple #[]) ∧ ∃ t', FixR base m d w w' t t' := by
  have hib1 := (List.getElem?_eq_some_iff.1 hib).1
  obtain ⟨q, hq⟩ : ∃ q, t.ps[i]? = some q := ⟨_, List.getElem?_eq_getElem (by omega)⟩
  have hap := kids_apart hnd hia hib
  have hA := (hG.2 _ (List.mem_of_getElem? hia)).node
  have hB := (hG.2 _ (List.mem_of_getElem? hib)).node
  have hal := hwa.le
  have hbl := hwb.le
  obtain ⟨q', hq'⟩ : ∃ q', b.ps[0]? = some q' := ⟨_, List.getElem?_eq_getElem (by omega)⟩
  refine Calls.mono (borrowRight_any base i t a b q q' w hbw hG.1 hA hB hap hia hib hq hq' (by omega) hl (by omega) (by omega) (by
    cases d with
    | zero => exact .inl ⟨hwa, hwb⟩
    | succ d => exact .inr ⟨by have := hwa.1; omega, by have := hwb.1; omega⟩)) ?_
  rintro e w' ⟨rfl, t', a', b', H, e1, e2, e3, e4, e5⟩
  refine ⟨rfl, t', H.fix (q := q) (q' := q') e1 ?_ ?_ hG hnd hl hia hib hq hwa hwb ?_ ?_ ?_ ?_ ?_ ?_ hoth⟩
  · rw [e2, e3]
    have e : b.ps = q' :: b.ps.drop 1 := by simpa using one_at hq'
    conv => rhs; rw [e]
    simp
  · rw [e4, e5, List.append_assoc, List.take_append_drop]
  · cases d with
    | zero => show a'.ks = []; rw [e4, show a.ks = [] from hwa, show b.ks = [] from hwb]; rfl
    | succ d =>
      refine ⟨by rw [e4, e2]; have := hwa.1; have := hwb.1; simp; omega, fun k hk => ?_⟩
      rw [e4] at hk
      rcases List.mem_append.1 hk with hk | hk
      · exact hwa.2 k hk
      · exact hwb.2 k (List.mem_of_mem_take hk)
  · cases d with
    | zero => show b'.ks = []; rw [e5, show b.ks = [] from hwb]; rfl
    | succ d => exact ⟨by rw [e5, e3]; have := hwb.1; simp; omega, fun k hk => by rw [e5] at hk; exact hwb.2 k (List.mem_of_mem_drop hk)⟩
  · rw [e2, hh]; simp; omega
  · rw [e2]; simp; omega
  · rw [e3, hh]; simp; omega
  · rw [e3]; simp; omega
/-- what is read of a kid -/
theorem kid_reads {base : Nat} {w : World} {t k : MT} {j kb c : Nat} (hT : NodeOk base w t) (hv : t.vk = .slice (some ⟨kb, 0, none⟩) t.ks.length c) (hk : t.ks[j]? = some k) (hK : NodeOk base w k) : ∃ A n' c', w.cell? ⟨kb, j, none⟩ = some (pt k.r) ∧ w.cell? ⟨k.r, 0, none⟩ = some (.slice A n' c') ∧ Hid (k.ps.length = n') := by
  have hop := hT.ok
  rw [hv] at hop
  obtain ⟨_, h1⟩ := ownQ_at hop hk
  obtain ⟨A, c', h2, _⟩ := own_form2 hK.op
  have h3 := (two_cells hK.hp).2.1
  rw [h2] at h3
  exact ⟨A, k.ps.length, c', h1, h3, Lib.hid rfl⟩


set_option maxRecDepth 100000 in
set_option maxHeartbeats 8000000 in
theorem fix_any (base m d tb i : Nat) (t : MT) (w : World) (hbw : base ≤ w.heap.size) (hm : 2 ≤ m) (hm2 : m ≤ 64) (htb : w.cell? ⟨tb, 1, none⟩ = some (.int .i64 m)) (hG : Good base w (d + 1) t) (hnd : (foot (d + 1) t).Nodup) (hl : t.ks.length = t.ps.length + 1) (hi : i < t.ks.length) (hps : 1 ≤ t.ps.length) (hpl : t.ps.length ≤ 64)
    (hw : ∀ j k, t.ks[j]? = some k → Wf m d (if j = i then m / 2 - 1 else m / 2) m k) : Calls Try.prog 55 #[pt tb, pt t.r, .int .i64 i] w fun e w' => e = .returned (.tuple #[]) ∧ ∃ t', FixR base m d w w' t t' := by
  obtain ⟨h, hh⟩ : ∃ h, m / 2 = h := ⟨_, rfl⟩
  have hdiv : (m : Int) / 2 = (h : Int) := by omega
  have hwh : IntKind.i64.wrap (h : Int) = (h : Int) := IntWalk.i64_in _ (by omega)
  have hh1 : 1 ≤ h := by omega
  obtain ⟨x, hx⟩ : ∃ x, t.ks[i]? = some x := ⟨_, List.getElem?_eq_getElem hi⟩
  obtain ⟨kb, c, hvk, _, _⟩ := own_ne0 hG.1.ok (by omega)
  have hGk : ∀ {k : MT} {j : Nat}, t.ks[j]? = some k → NodeOk base w k := fun hj => (hG.2 _ (List.mem_of_getElem? hj)).node
  have hwx := wf_iff.1 (hw i x hx)
  rw [if_pos rfl, hh] at hwx
  have hwo : ∀ {j : Nat} {k : MT}, t.ks[j]? = some k → j ≠ i → KidW m d k ∧ h ≤ k.ps.length ∧ k.ps.length ≤ m := fun {j} {k} hj hne => by
    have := wf_iff.1 (hw j k hj)
    rw [if_neg hne, hh] at this
    exact this
  obtain ⟨Ax, nx, cx, x0, x1, HX⟩ := kid_reads hG.1 hvk hx (hGk hx)
  have hp := hG.1.hp
  obtain ⟨n, hn⟩ : ∃ n, t.ks.length = n := ⟨_, rfl⟩
  rw [hvk, hn] at hp
  obtain ⟨rt, _, t1, _, _⟩ := two_cells hp
  have hin : (i : Int) < (n : Int) := by omega
  have hoth : ∀ j k, t.ks[j]? = some k → j ≠ i → Wf m d (m / 2) m k := fun j k hj hne => by have := hw j k hj; rwa [if_neg hne] at this
  have hxl := HX.out
  by_cases h1 : h ≤ nx
  · have h1z : (h : Int) ≤ (nx : Int) := by omega
    have HF : Hid (FixR base m d w w t t) := Lib.hid ⟨Upd.refl hG hnd (Ext.refl' _), rfl, hl, fun k hk => by
      obtain ⟨j, hj, rfl⟩ := List.getElem_of_mem hk
      have hj2 : t.ks[j]? = some t.ks[j] := List.getElem?_eq_getElem hj
      by_cases hji : j = i
      · subst hji
        have : x = t.ks[j] := Option.some.inj (hx.symm.trans hj2)
        rw [← this]
        exact wf_iff.2 ⟨hwx.1, by rw [hh]; omega, hwx.2.2⟩
      · exact hoth j _ hj2 hji, Nat.le_refl _, Nat.le_succ _⟩
    clear hw hG hnd hl hx hwx hwo hGk hvk hp hbw hh hn hps hpl hi hxl hoth
    go_enter Try.func55, Try.ntmps55
    go_wp2
    refine bodyPost_end (v := .tuple #[]) ?_ rfl ⟨rfl, t, HF.out⟩
    simp [results, Try.results55]
  · have hxs : nx + 1 = h := by omega
    have h1z : ¬ ((h : Int) ≤ (nx : Int)) := by omega
    by_cases hi0 : 0 < i
    · obtain ⟨j, rfl⟩ : ∃ j, i = j + 1 := ⟨i - 1, by omega⟩
      obtain ⟨y, hy⟩ : ∃ y, t.ks[j]? = some y := ⟨_, List.getElem?_eq_getElem (by omega)⟩
      obtain ⟨Ay, ny, cy, y0, y1, HY⟩ := kid_reads hG.1 hvk hy (hGk hy)
      have hwy := hwo hy (by omega)
      have hcl : (((j + 1 : Nat) : Int)) = (j : Int) + 1 := by omega
      have hw1 : IntKind.i64.wrap (j : Int) = (j : Int) := IntWalk.i64_in _ (by omega)
      have hw2 : IntKind.i64.wrap ((j : Int) + 1) = (j : Int) + 1 := IntWalk.i64_in _ (by omega)
      have hw3 : IntKind.i64.wrap ((j : Int) + 2) = (j : Int) + 2 := IntWalk.i64_in _ (by omega)
      have hw4 : IntKind.i64.wrap ((j : Int) + 1 + 1) = (j : Int) + 2 := (IntWalk.i64_in _ (by omega)).trans (by omega)
      have hj0 : (0 : Int) < (j : Int) + 1 := by omega
      have hj00 : (0 : Int) ≤ (j : Int) + 1 := by omega
      have hjn : (j : Int) < (n : Int) := by omega
      have hyl := HY.out
      have hboth : ∀ j' k, t.ks[j']? = some k → j' ≠ j → j' ≠ j + 1 → Wf m d (m / 2) m k := fun j' k hk h1 h2 => hoth j' k hk h2
      by_cases h2 : h < ny
      · have h2z : (h : Int) < (ny : Int) := by omega
        have HC := Lib.hid (bl_fix base m d j h t y x w hbw hm2 hh hh1 hG hnd hl hpl hy hx hwy.1 hwx.1 hboth (by omega) (by omega) (by omega))
        clear hw hG hnd hl hx hwx hwo hGk hvk hp hbw hh hn hps hpl hi hxl hoth hy hwy hyl hboth
        rw [hcl] at hin
        rw [hcl]
        go_enter Try.func55, Try.ntmps55
        go_wp2_with (go_at_call 66; refine Calls.mono HC.out ?_; rintro e w1 ⟨rfl, t', hR⟩; have HR := Lib.hid hR; clear hR HC)
        refine bodyPost_end (v := .tuple #[]) ?_ rfl ⟨rfl, t', HR.out⟩
        simp [results, Try.results55]
      · have h2z : ¬ ((h : Int) < (ny : Int)) := by omega
        have HM := Lib.hid (me_fix base m d j h t y x w hbw hm2 hh hh1 hG hnd hl hpl hy hx hwy.1 hwx.1 hboth (by omega) (by omega))
        by_cases h3 : j + 2 < n
        · have h3z : (j : Int) + 2 < (n : Int) := by omega
          have h30 : (0 : Int) ≤ (j : Int) + 2 := by omega
          obtain ⟨z, hz⟩ : ∃ z, t.ks[j + 1 + 1]? = some z := ⟨_, List.getElem?_eq_getElem (by omega)⟩
          obtain ⟨Az, nz, cz, z0, z1, HZ⟩ := kid_reads hG.1 hvk hz (hGk hz)
          have hwz := hwo hz (by omega)
          have hzl := HZ.out
          have z0 : w.cell? ⟨kb, j + 2, none⟩ = some (pt z.r) := z0
          by_cases h4 : h < nz
          · have h4z : (h : Int) < (nz : Int) := by omega
            have HC := br_fix base m d (j + 1) h t x z w hbw hm2 hh hh1 hG hnd hl hpl hx hz hwx.1 hwz.1 (fun j' k hk h1 h2 => hoth j' k hk h1) (by omega) (by omega) (by omega)
            rw [hcl] at HC
            have HC := Lib.hid HC
            clear hw hG hnd hl hx hwx hwo hGk hvk hp hbw hh hn hps hpl hi hxl hoth hy hwy hyl hboth hz hwz hzl HM
            rw [hcl] at hin
            rw [hcl]
            go_enter Try.func55, Try.ntmps55
            go_wp2_with (go_at_call 67; refine Calls.mono HC.out ?_; rintro e w1 ⟨rfl, t', hR⟩; have HR := Lib.hid hR; clear hR HC)
            refine bodyPost_end (v := .tuple #[]) ?_ rfl ⟨rfl, t', HR.out⟩
            simp [results, Try.results55]
          · have h4z : ¬ ((h : Int) < (nz : Int)) := by omega
            have HC := Lib.hid HM.out
            clear hw hG hnd hl hx hwx hwo hGk hvk hp hbw hh hn hps hpl hi hxl hoth hy hwy hyl hboth hz hwz hzl HM
            rw [hcl] at hin
            rw [hcl]
            go_enter Try.func55, Try.ntmps55
            go_wp2_with (go_at_call 68; refine Calls.mono HC.out ?_; rintro e w1 ⟨rfl, t', hR⟩; have HR := Lib.hid hR; clear hR HC)
            refine bodyPost_end (v := .tuple #[]) ?_ rfl ⟨rfl, t', HR.out⟩
            simp [results, Try.results55]
        · have h3z : ¬ ((j : Int) + 2 < (n : Int)) := by omega
          have HC := Lib.hid HM.out
          clear hw hG hnd hl hx hwx hwo hGk hvk hp hbw hh hn hps hpl hi hxl hoth hy hwy hyl hboth HM
          rw [hcl] at hin
          rw [hcl]
          go_enter Try.func55, Try.ntmps55
          go_wp2_with (go_at_call 68; refine Calls.mono HC.out ?_; rintro e w1 ⟨rfl, t', hR⟩; have HR := Lib.hid hR; clear hR HC)
          refine bodyPost_end (v := .tuple #[]) ?_ rfl ⟨rfl, t', HR.out⟩
          simp [results, Try.results55]
    · obtain rfl : i = 0 := by omega
      have h3z : (1 : Int) < (n : Int) := by omega
      obtain ⟨z, hz⟩ : ∃ z, t.ks[0 + 1]? = some z := ⟨_, List.getElem?_eq_getElem (by omega)⟩
      obtain ⟨Az, nz, cz, z0, z1, HZ⟩ := kid_reads hG.1 hvk hz (hGk hz)
      have hwz := hwo hz (by omega)
      have hzl := HZ.out
      have h0z : (0 : Int) < (n : Int) := by omega
      by_cases h4 : h < nz
      · have h4z : (h : Int) < (nz : Int) := by omega
        have HC := Lib.hid (br_fix base m d 0 h t x z w hbw hm2 hh hh1 hG hnd hl hpl hx hz hwx.1 hwz.1 (fun j' k hk h1 h2 => hoth j' k hk h1) (by omega) (by omega) (by omega))
        clear hw hG hnd hl hx hwx hwo hGk hvk hp hbw hh hn hps hpl hi hxl hoth hz hwz hzl
        go_enter Try.func55, Try.ntmps55
        go_wp2_with (go_at_call 67; refine Calls.mono HC.out ?_; rintro e w1 ⟨rfl, t', hR⟩; have HR := Lib.hid hR; clear hR HC)
        refine bodyPost_end (v := .tuple #[]) ?_ rfl ⟨rfl, t', HR.out⟩
        simp [results, Try.results55]
      · have h4z : ¬ ((h : Int) < (nz : Int)) := by omega
        have HC := Lib.hid (me_fix base m d 0 h t x z w hbw hm2 hh hh1 hG hnd hl hpl hx hz hwx.1 hwz.1 (fun j' k hk h1 h2 => hoth j' k hk h1) (by omega) (by omega))
        clear hw hG hnd hl hx hwx hwo hGk hvk hp hbw hh hn hps hpl hi hxl hoth hz hwz hzl
        go_enter Try.func55, Try.ntmps55
        go_wp2_with (go_at_call 68; refine Calls.mono HC.out ?_; rintro e w1 ⟨rfl, t', hR⟩; have HR := Lib.hid hR; clear hR HC)
        refine bodyPost_end (v := .tuple #[]) ?_ rfl ⟨rfl, t', HR.out⟩
        simp [results, Try.results55]

end Go.Proofs.Ytdmbgimehepfaaa
