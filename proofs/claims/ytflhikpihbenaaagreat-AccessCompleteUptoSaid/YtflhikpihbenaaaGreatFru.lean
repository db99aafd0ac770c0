/- The reference of schemas: constraints, Check; chosen of the law: each returns something. -/
import Derived.Test.YtflhikpihbenaaaGreatFrt
import Derived.Test.YtflhikpihbenaaaGreatCho
set_option linter.unusedSimpArgs false
set_option linter.unusedVariables false
namespace Go.Proofs.YtflhikpihbenaaaGreat
open Go.RowKit


/-- a table in memory -/
structure TabOk (w : World) (A1 K A3 A4 : Option Addr) (n1 n2 n3 n4 : Nat) (cl : List Col) (ks : List Int) (fl : List Fo) (es : List Ex) (css : List (List Value)) : Prop where
  cn : cl.length = n1
  kn : ks.length = n2
  fn : fl.length = n3
  en : es.length = n4
  c : Rd w 3 A1 n1 (cl.flatMap colc)
  k : Rd w 1 K n2 (ic ks)
  f : Rd w 2 A3 n3 (fl.flatMap foc)
  e : Rd w 7 A4 n4 css.flatten
  re : REs w es css
  cs : ∀ c ∈ cl, c.nm.size ≤ 9223372036854775807
  fs : ∀ f ∈ fl, f.tb.size ≤ 9223372036854775807 ∧ f.c.l.length ≤ 1048576 ∧ Rd w 1 f.c.A f.c.l.length (ic f.c.l)
  cb : n1 ≤ 1048576
  kb : n2 ≤ 1048576
  fb : n3 ≤ 1048576
  eb : szs es ≤ 1048576
theorem TabOk.ext {w w' : World} {A1 K A3 A4 : Option Addr} {n1 n2 n3 n4 : Nat} {cl : List Col} {ks : List Int} {fl : List Fo} {es : List Ex} {css : List (List Value)} (h : TabOk w A1 K A3 A4 n1 n2 n3 n4 cl ks fl es css) (e : Ext w w') : TabOk w' A1 K A3 A4 n1 n2 n3 n4 cl ks fl es css :=
  ⟨h.cn, h.kn, h.fn, h.en, h.c.ext e, h.k.ext e, h.f.ext e, h.e.ext e, REs.ext e h.re, h.cs, fun f hf => ⟨(h.fs f hf).1, (h.fs f hf).2.1, (h.fs f hf).2.2.ext e⟩, h.cb, h.kb, h.fb, h.eb⟩
theorem checkE_n (K : Option Addr) (kc n : Nat) (ks : List Int) (hn : ks.length = n) (nk : n ≤ 1048576) (o i : Int) (v : Va) (nm : ByteArray) (A : Option Addr) (args : List Ex) (c : Nat) (css : List (List Value)) (w : World) (hsz : szs args ≤ 1048576) (hvt : v.t.size ≤ 9223372036854775807) (hR : Rd w 7 A args.length css.flatten) (hs : REs w args css) (hK : Rd w 1 K n (ic ks)) :
    Calls Tryz.prog 12 #[exag o i v nm A args.length c, .slice K n kc] w fun e w' => RKI e ∧ Ext w w' := by
  subst hn
  exact checkE_any K kc ks nk o i v nm A args c css w hsz hvt hR hs hK
set_option maxRecDepth 100000 in
set_option maxHeartbeats 4000000 in
theorem constraints_any (s0 : ByteArray) (A1 K A3 A4 : Option Addr) (n1 m1 n2 kc n3 m3 n4 m4 : Nat) (cl : List Col) (ks : List Int) (fl : List Fo) (es : List Ex) (css : List (List Value)) (w : World) (hT : TabOk w A1 K A3 A4 n1 n2 n3 n4 cl ks fl es css) : Calls Tryz.prog 30 #[.agg #[.string s0, .slice A1 n1 m1, .slice K n2 kc, .slice A3 n3 m3, .slice A4 n4 m4]] w fun e w' => RF e ∧ Ext w w' := by
  have HT := Lib.hid hT
  clear hT
  by_cases h1 : 4 < n3
  · have h1z : 4 < (n3 : Int) := by omega
    go_enter Tryz.func30, Tryz.ntmps30
    go_wp2
    go_ret
    exact ⟨RF.mk _, by repeat (first | exact Ext.refl' _ | assumption | apply Ext.ex' | apply Ext.al | apply Ext.drN | apply Ext.dr)⟩
  have h1z : ¬ 4 < (n3 : Int) := by omega
  go_enter Tryz.func30, Tryz.ntmps30
  go_wp2
  go_loopg [3, 4] n3 (fun g ix v4 wr => ∃ k : Nat, ix = .int .i64 k ∧ k ≤ n3 ∧ n3 - k ≤ g ∧ Ext (w.alloc (.cells #[.string s0, .slice A1 n1 m1, .slice K n2 kc, .slice A3 n3 m3, .slice A4 n4 m4] 27)) wr)
  case atStart => exact ⟨0, rfl, by omega, by omega, by repeat (first | exact Ext.refl' _ | assumption | apply Ext.ex' | apply Ext.al | apply Ext.drN | apply Ext.dr)⟩
  case round =>
    obtain ⟨k, rfl, hk, hg, hE⟩ := hrel
    have HE := Lib.hid hE
    obtain ⟨x, rfl⟩ := hE.get
    clear hE
    have HG := Lib.hid hg
    clear hg
    by_cases hlt : k < n3
    · have hkz : (k : Int) < (n3 : Int) := by omega
      obtain ⟨fv, b, oo, hfv, hA3, hb, q0, q1⟩ := HT.out.f.fo HT.out.fn hlt
      have HFO : Hid (∀ W, Ext w W → Calls Tryz.prog 57 #[.agg #[.string s0, .slice A1 n1 m1, .slice K n2 kc, .slice A3 n3 m3, .slice A4 n4 m4], .agg #[.slice fv.c.A fv.c.l.length fv.c.c, .string fv.tb]] W fun e w' => RF e ∧ Ext W w') := Lib.hid fun W e => by
        have h := HT.out.fs fv (List.mem_of_getElem? hfv)
        exact foreign_any s0 A1 K A3 A4 n1 m1 n2 kc n3 m3 n4 m4 fv.c.A fv.c.l.length fv.c.c fv.tb fv.c.l W rfl (h.2.2.ext e) h.2.1 HT.out.cb h.1
      clear hfv
      subst hA3
      go_wp2_with fail
      refine wp_region_held_drew (S := (fun w' => w'.cell? ⟨w.heap.size, 0, none⟩ = some (.string s0) ∧ w'.cell? ⟨w.heap.size, 1, none⟩ = some (.slice A1 n1 m1) ∧ w'.cell? ⟨w.heap.size, 2, none⟩ = some (.slice K n2 kc) ∧ w'.cell? ⟨w.heap.size, 3, none⟩ = some (.slice (some ⟨b, oo, none⟩) n3 m3) ∧ w'.cell? ⟨w.heap.size, 4, none⟩ = some (.slice A4 n4 m4) ∧ w'.cell? ⟨b, oo + k * 2, none⟩ = some (.slice fv.c.A fv.c.l.length fv.c.c) ∧ w'.cell? ⟨b, oo + k * 2 + 1, none⟩ = some (.string fv.tb))) (by kernel_rfl) (by simp [go_sem, ↓IntWalk.iteOmega, *]) (fun hHeld => ?_)
      refine wpAnyH_take (i := 0) (oi := ?oi1) (v := ?v1) ?hi1 (by kernel_rfl) (by kernel_rfl) (by kernel_rfl) ?hQ1 ?hy1 (by assumption) ?_
      case hi1 => (simp only [List.getElem?_toArray, List.getElem?_cons_succ, List.getElem?_cons_zero]; try rfl)
      case hQ1 => exact fun _ _ _ h => h
      case hy1 => (refine Or.inl ⟨by rfl, ?_⟩; intro wq hSw; (try dsimp only at hSw); go_simp; (try with_reducible rfl))
      (try simp only [Act.put, List.setIfInBounds_toArray, List.set_cons_zero, List.set_cons_succ])
      refine wpAnyH_take (i := 1) (oi := ?oi2) (v := ?v2) ?hi2 (by kernel_rfl) (by kernel_rfl) (by kernel_rfl) ?hQ2 ?hy2 (by assumption) ?_
      case hi2 => (simp only [List.getElem?_toArray, List.getElem?_cons_succ, List.getElem?_cons_zero]; try rfl)
      case hQ2 => exact fun _ _ _ h => h
      case hy2 => (refine Or.inl ⟨by rfl, ?_⟩; intro wq hSw; (try dsimp only at hSw); go_simp; (try with_reducible rfl))
      (try simp only [Act.put, List.setIfInBounds_toArray, List.set_cons_zero, List.set_cons_succ])
      refine wpAnyH_take (i := 2) (oi := ?oi3) (v := ?v3) ?hi3 (by kernel_rfl) (by kernel_rfl) (by kernel_rfl) ?hQ3 ?hy3 (by assumption) ?_
      case hi3 => (simp only [List.getElem?_toArray, List.getElem?_cons_succ, List.getElem?_cons_zero]; try rfl)
      case hQ3 => exact fun _ _ _ h => h
      case hy3 => (refine Or.inl ⟨by rfl, ?_⟩; intro wq hSw; (try dsimp only at hSw); go_simp; (try with_reducible rfl))
      (try simp only [Act.put, List.setIfInBounds_toArray, List.set_cons_zero, List.set_cons_succ])
      refine wpAnyH_take (i := 3) (oi := ?oi4) (v := ?v4) ?hi4 (by kernel_rfl) (by kernel_rfl) (by kernel_rfl) ?hQ4 ?hy4 (by assumption) ?_
      case hi4 => (simp only [List.getElem?_toArray, List.getElem?_cons_succ, List.getElem?_cons_zero]; try rfl)
      case hQ4 => exact fun _ _ _ h => h
      case hy4 => (refine Or.inl ⟨by rfl, ?_⟩; intro wq hSw; (try dsimp only at hSw); go_simp; (try with_reducible rfl))
      (try simp only [Act.put, List.setIfInBounds_toArray, List.set_cons_zero, List.set_cons_succ])
      refine wpAnyH_take (i := 4) (oi := ?oi5) (v := ?v5) ?hi5 (by kernel_rfl) (by kernel_rfl) (by kernel_rfl) ?hQ5 ?hy5 (by assumption) ?_
      case hi5 => (simp only [List.getElem?_toArray, List.getElem?_cons_succ, List.getElem?_cons_zero]; try rfl)
      case hQ5 => exact fun _ _ _ h => h
      case hy5 => (refine Or.inl ⟨by rfl, ?_⟩; intro wq hSw; (try dsimp only at hSw); go_simp; (try with_reducible rfl))
      (try simp only [Act.put, List.setIfInBounds_toArray, List.set_cons_zero, List.set_cons_succ])
      refine wpAnyH_take (i := 5) (oi := ?oi6) (v := ?v6) ?hi6 (by kernel_rfl) (by kernel_rfl) (by kernel_rfl) ?hQ6 ?hy6 (by assumption) ?_
      case hi6 => (simp only [List.getElem?_toArray, List.getElem?_cons_succ, List.getElem?_cons_zero]; try rfl)
      case hQ6 => exact fun _ _ _ h => h
      case hy6 => (refine Or.inl ⟨by rfl, ?_⟩; intro wq hSw; (try dsimp only at hSw); go_simp; (try with_reducible rfl))
      (try simp only [Act.put, List.setIfInBounds_toArray, List.set_cons_zero, List.set_cons_succ])
      refine wpAnyH_ready (rs := [6]) (by kernel_rfl) (by simp) ?_
      refine AllReadyH.cons (o := ?oi7) ?hi7 ?ti7 AllReadyH.nil
      case hi7 => (simp only [List.getElem?_toArray, List.getElem?_cons_succ, List.getElem?_cons_zero]; try rfl)
      case ti7 =>
        intro KQ hKQ
        go_simp
        go_at_call 57
        refine Calls.mono (HFO.out _ (by repeat (first | exact Ext.refl' _ | assumption | apply Ext.ex' | apply Ext.al | apply Ext.drN | apply Ext.dr))) ?_
        rintro e w1 ⟨⟨f, rfl⟩, hb1⟩
        obtain ⟨x1, rfl⟩ := hb1.get
        clear hb1
        refine hKQ.out _ _ (by simp [go_sem, ↓IntWalk.iteOmega, *]) (fun hHeld2 => ?_)
        clear hHeld hKQ KQ; have hHeld := hHeld2; clear hHeld2
        (try simp only [Act.put, List.setIfInBounds_toArray, List.set_cons_zero, List.set_cons_succ])
        refine wpAnyH_take (i := 7) (oi := ?oi8) (v := ?v8) ?hi8 (by kernel_rfl) (by kernel_rfl) (by kernel_rfl) ?hQ8 ?hy8 (by assumption) ?_
        case hi8 => (simp only [List.getElem?_toArray, List.getElem?_cons_succ, List.getElem?_cons_zero]; try rfl)
        case hQ8 => exact fun _ _ _ h => h
        case hy8 => (refine Or.inl ⟨by rfl, ?_⟩; intro wq hSw; (try dsimp only at hSw); go_simp; (try with_reducible rfl))
        (try simp only [Act.put, List.setIfInBounds_toArray, List.set_cons_zero, List.set_cons_succ])
        refine wpAnyH_done (by kernel_rfl) ?_ _
        by_cases hf : f = 0
        · subst hf
          go_wp2
          go_roundg (gk - 1)
          case rel => exact ⟨k + 1, by go_num, by omega, by have := HG.out; omega, by repeat (first | exact Ext.refl' _ | assumption | apply Ext.ex' | apply Ext.al | apply Ext.drN | apply Ext.dr)⟩
          case measure => have := HG.out; omega
        · go_wp2
          go_ret
          exact ⟨RF.mk _, by repeat (first | exact Ext.refl' _ | assumption | apply Ext.ex' | apply Ext.al | apply Ext.drN | apply Ext.dr)⟩
    · have hkz : ¬ ((k : Int) < (n3 : Int)) := by omega
      by_cases h2 : 4 < n4
      · have h2z : 4 < (n4 : Int) := by omega
        go_wp2
        go_ret
        exact ⟨RF.mk _, by repeat (first | exact Ext.refl' _ | assumption | apply Ext.ex' | apply Ext.al | apply Ext.drN | apply Ext.dr)⟩
      have h2z : ¬ 4 < (n4 : Int) := by omega
      clear HG HE
      go_wp2
      go_loopg [5, 6, 7] n4 (fun g ix v6 v7 wr => ∃ k : Nat, ix = .int .i64 k ∧ k ≤ n4 ∧ n4 - k ≤ g ∧ Ext (w.alloc (.cells #[.string s0, .slice A1 n1 m1, .slice K n2 kc, .slice A3 n3 m3, .slice A4 n4 m4] 27)) wr)
      case atStart => exact ⟨0, rfl, by omega, by omega, by repeat (first | exact Ext.refl' _ | assumption | apply Ext.ex' | apply Ext.al | apply Ext.drN | apply Ext.dr)⟩
      case round =>
        obtain ⟨k, rfl, hk, hg, hE⟩ := hrel
        have HE := Lib.hid hE
        obtain ⟨x, rfl⟩ := hE.get
        clear hE
        have HG := Lib.hid hg
        clear hg
        by_cases hlt : k < n4
        · have hkz : (k : Int) < (n4 : Int) := by omega
          obtain ⟨b, oo, hA4, hb, Ae, ce, cse, p0, p1, p2, p3, p4, p5, p6, p7, p8, p9, p10, p11, p12⟩ := RE.arg (by have h := HT.out.e; rw [← HT.out.en] at h; exact h) HT.out.re (show k < es.length by have := HT.out.en; omega)
          have hsz := szs_get es k (by have := HT.out.en; omega)
          obtain ⟨ev, hev⟩ : ∃ ev, es[k]'(by have := HT.out.en; omega) = ev := ⟨_, rfl⟩
          rw [hev] at p0 p1 p2 p3 p4 p5 p6 p7 p8 p9 p10 p11 p12 hsz
          have HCH : Hid (∀ W, Ext w W → ∀ (Ak : Option Addr) (ck nk : Nat) (lk : List Int), lk.length = nk → nk ≤ 1048576 → Rd W 1 Ak nk (ic lk) → Calls Tryz.prog 12 #[exag ev.op ev.i ev.v ev.nm Ae ev.args.length ce, .slice Ak nk ck] W fun e w' => RKI e ∧ Ext W w') := Lib.hid fun W e Ak ck nk lk h1 h2 h3 =>
            checkE_n Ak ck nk lk h1 h2 ev.op ev.i ev.v ev.nm Ae ev.args ce cse W (by have := HT.out.eb; omega) p7 (p11.ext e) (REs.ext e p12) h3
          have HKI : Hid (∀ W, Ext w W → Calls Tryz.prog 13 #[.agg #[.string s0, .slice A1 n1 m1, .slice K n2 kc, .slice A3 n3 m3, .slice A4 n4 m4]] W fun e w' => KP e w' ∧ Ext W w') := Lib.hid fun W e => kinds_any s0 A1 K A3 A4 n1 m1 n2 kc n3 m3 n4 m4 cl W HT.out.cn (HT.out.c.ext e) HT.out.cb
          clear hev hsz p7 p8 p9 p10 p11 p12
          subst hA4
          go_wp2_with fail
          refine wp_region_held_drew (S := (fun w' => w'.cell? ⟨w.heap.size, 0, none⟩ = some (.string s0) ∧ w'.cell? ⟨w.heap.size, 1, none⟩ = some (.slice A1 n1 m1) ∧ w'.cell? ⟨w.heap.size, 2, none⟩ = some (.slice K n2 kc) ∧ w'.cell? ⟨w.heap.size, 3, none⟩ = some (.slice A3 n3 m3) ∧ w'.cell? ⟨w.heap.size, 4, none⟩ = some (.slice (some ⟨b, oo, none⟩) n4 m4) ∧ w'.cell? ⟨b, oo + k * 7, none⟩ = some (.int .i64 ev.op) ∧ w'.cell? ⟨b, oo + k * 7 + 1, none⟩ = some (.int .i64 ev.i) ∧ w'.cell? ⟨b, oo + k * 7 + 2, none⟩ = some (.int .i64 ev.v.k) ∧ w'.cell? ⟨b, oo + k * 7 + 3, none⟩ = some (.int .i64 ev.v.i) ∧ w'.cell? ⟨b, oo + k * 7 + 4, none⟩ = some (.string ev.v.t) ∧ w'.cell? ⟨b, oo + k * 7 + 5, none⟩ = some (.string ev.nm) ∧ w'.cell? ⟨b, oo + k * 7 + 6, none⟩ = some (.slice Ae ev.args.length ce))) (by kernel_rfl) (by simp [go_sem, ↓IntWalk.iteOmega, *]) (fun hHeld => ?_)
          refine wpAnyH_take (i := 0) (oi := ?oi301) (v := ?v301) ?hi301 (by kernel_rfl) (by kernel_rfl) (by kernel_rfl) ?hQ301 ?hy301 (by assumption) ?_
          case hi301 => (simp only [List.getElem?_toArray, List.getElem?_cons_succ, List.getElem?_cons_zero]; try rfl)
          case hQ301 => exact fun _ _ _ h => h
          case hy301 => (refine Or.inl ⟨by rfl, ?_⟩; intro wq hSw; (try dsimp only at hSw); go_simp; (try with_reducible rfl))
          (try simp only [Act.put, List.setIfInBounds_toArray, List.set_cons_zero, List.set_cons_succ])
          refine wpAnyH_take (i := 1) (oi := ?oi302) (v := ?v302) ?hi302 (by kernel_rfl) (by kernel_rfl) (by kernel_rfl) ?hQ302 ?hy302 (by assumption) ?_
          case hi302 => (simp only [List.getElem?_toArray, List.getElem?_cons_succ, List.getElem?_cons_zero]; try rfl)
          case hQ302 => exact fun _ _ _ h => h
          case hy302 => (refine Or.inl ⟨by rfl, ?_⟩; intro wq hSw; (try dsimp only at hSw); go_simp; (try with_reducible rfl))
          (try simp only [Act.put, List.setIfInBounds_toArray, List.set_cons_zero, List.set_cons_succ])
          refine wpAnyH_take (i := 2) (oi := ?oi303) (v := ?v303) ?hi303 (by kernel_rfl) (by kernel_rfl) (by kernel_rfl) ?hQ303 ?hy303 (by assumption) ?_
          case hi303 => (simp only [List.getElem?_toArray, List.getElem?_cons_succ, List.getElem?_cons_zero]; try rfl)
          case hQ303 => exact fun _ _ _ h => h
          case hy303 => (refine Or.inl ⟨by rfl, ?_⟩; intro wq hSw; (try dsimp only at hSw); go_simp; (try with_reducible rfl))
          (try simp only [Act.put, List.setIfInBounds_toArray, List.set_cons_zero, List.set_cons_succ])
          refine wpAnyH_take (i := 3) (oi := ?oi304) (v := ?v304) ?hi304 (by kernel_rfl) (by kernel_rfl) (by kernel_rfl) ?hQ304 ?hy304 (by assumption) ?_
          case hi304 => (simp only [List.getElem?_toArray, List.getElem?_cons_succ, List.getElem?_cons_zero]; try rfl)
          case hQ304 => exact fun _ _ _ h => h
          case hy304 => (refine Or.inl ⟨by rfl, ?_⟩; intro wq hSw; (try dsimp only at hSw); go_simp; (try with_reducible rfl))
          (try simp only [Act.put, List.setIfInBounds_toArray, List.set_cons_zero, List.set_cons_succ])
          refine wpAnyH_take (i := 4) (oi := ?oi305) (v := ?v305) ?hi305 (by kernel_rfl) (by kernel_rfl) (by kernel_rfl) ?hQ305 ?hy305 (by assumption) ?_
          case hi305 => (simp only [List.getElem?_toArray, List.getElem?_cons_succ, List.getElem?_cons_zero]; try rfl)
          case hQ305 => exact fun _ _ _ h => h
          case hy305 => (refine Or.inl ⟨by rfl, ?_⟩; intro wq hSw; (try dsimp only at hSw); go_simp; (try with_reducible rfl))
          (try simp only [Act.put, List.setIfInBounds_toArray, List.set_cons_zero, List.set_cons_succ])
          refine wpAnyH_take (i := 5) (oi := ?oi306) (v := ?v306) ?hi306 (by kernel_rfl) (by kernel_rfl) (by kernel_rfl) ?hQ306 ?hy306 (by assumption) ?_
          case hi306 => (simp only [List.getElem?_toArray, List.getElem?_cons_succ, List.getElem?_cons_zero]; try rfl)
          case hQ306 => exact fun _ _ _ h => h
          case hy306 => (refine Or.inl ⟨by rfl, ?_⟩; intro wq hSw; (try dsimp only at hSw); go_simp; (try with_reducible rfl))
          (try simp only [Act.put, List.setIfInBounds_toArray, List.set_cons_zero, List.set_cons_succ])
          refine wpAnyH_ready (rs := [6]) (by kernel_rfl) (by simp) ?_
          refine AllReadyH.cons (o := ?oi307) ?hi307 ?ti307 AllReadyH.nil
          case hi307 => (simp only [List.getElem?_toArray, List.getElem?_cons_succ, List.getElem?_cons_zero]; try rfl)
          case ti307 =>
            intro KQ hKQ
            go_simp
            go_at_call 13
            refine Calls.mono (HKI.out _ (by repeat (first | exact Ext.refl' _ | assumption | apply Ext.ex' | apply Ext.al | apply Ext.drN | apply Ext.dr))) ?_
            rintro e w1 ⟨⟨nk, ck, Ak, lk, rfl, HLK, hnk, HRK⟩, hb1⟩
            obtain ⟨x1, rfl⟩ := hb1.get
            clear hb1
            refine hKQ.out _ _ (by simp [go_sem, ↓IntWalk.iteOmega, *]) (fun hHeld2 => ?_)
            clear hHeld hKQ KQ; have hHeld := hHeld2; clear hHeld2
            (try simp only [Act.put, List.setIfInBounds_toArray, List.set_cons_zero, List.set_cons_succ])
            refine wpAnyH_ready (rs := [7]) (by kernel_rfl) (by simp) ?_
            refine AllReadyH.cons (o := ?oi308) ?hi308 ?ti308 AllReadyH.nil
            case hi308 => (simp only [List.getElem?_toArray, List.getElem?_cons_succ, List.getElem?_cons_zero]; try rfl)
            case ti308 =>
              intro KQ hKQ
              go_simp
              go_at_call 12
              refine Calls.mono (HCH.out _ (by repeat (first | exact Ext.refl' _ | assumption | apply Ext.ex' | apply Ext.al | apply Ext.drN | apply Ext.dr)) Ak ck nk lk HLK.out hnk (HRK.out.ext (by repeat (first | exact Ext.refl' _ | assumption | apply Ext.ex' | apply Ext.al | apply Ext.drN | apply Ext.dr)))) ?_
              rintro e w1 ⟨⟨ek1, ef, rfl⟩, hb1⟩
              obtain ⟨x2, rfl⟩ := hb1.get
              clear hb1
              refine hKQ.out _ _ (by simp [go_sem, ↓IntWalk.iteOmega, *]) (fun hHeld2 => ?_)
              clear hHeld hKQ KQ; have hHeld := hHeld2; clear hHeld2
              (try simp only [Act.put, List.setIfInBounds_toArray, List.set_cons_zero, List.set_cons_succ])
              refine wpAnyH_take (i := 8) (oi := ?oi309) (v := ?v309) ?hi309 (by kernel_rfl) (by kernel_rfl) (by kernel_rfl) ?hQ309 ?hy309 (by assumption) ?_
              case hi309 => (simp only [List.getElem?_toArray, List.getElem?_cons_succ, List.getElem?_cons_zero]; try rfl)
              case hQ309 => exact fun _ _ _ h => h
              case hy309 => (refine Or.inl ⟨by rfl, ?_⟩; intro wq hSw; (try dsimp only at hSw); go_simp; (try with_reducible rfl))
              (try simp only [Act.put, List.setIfInBounds_toArray, List.set_cons_zero, List.set_cons_succ])
              refine wpAnyH_take (i := 9) (oi := ?oi310) (v := ?v310) ?hi310 (by kernel_rfl) (by kernel_rfl) (by kernel_rfl) ?hQ310 ?hy310 (by assumption) ?_
              case hi310 => (simp only [List.getElem?_toArray, List.getElem?_cons_succ, List.getElem?_cons_zero]; try rfl)
              case hQ310 => exact fun _ _ _ h => h
              case hy310 => (refine Or.inl ⟨by rfl, ?_⟩; intro wq hSw; (try dsimp only at hSw); go_simp; (try with_reducible rfl))
              (try simp only [Act.put, List.setIfInBounds_toArray, List.set_cons_zero, List.set_cons_succ])
              refine wpAnyH_take (i := 10) (oi := ?oi311) (v := ?v311) ?hi311 (by kernel_rfl) (by kernel_rfl) (by kernel_rfl) ?hQ311 ?hy311 (by assumption) ?_
              case hi311 => (simp only [List.getElem?_toArray, List.getElem?_cons_succ, List.getElem?_cons_zero]; try rfl)
              case hQ311 => exact fun _ _ _ h => h
              case hy311 => (refine Or.inl ⟨by rfl, ?_⟩; intro wq hSw; (try dsimp only at hSw); go_simp; (try with_reducible rfl))
              (try simp only [Act.put, List.setIfInBounds_toArray, List.set_cons_zero, List.set_cons_succ])
              refine wpAnyH_take (i := 11) (oi := ?oi312) (v := ?v312) ?hi312 (by kernel_rfl) (by kernel_rfl) (by kernel_rfl) ?hQ312 ?hy312 (by assumption) ?_
              case hi312 => (simp only [List.getElem?_toArray, List.getElem?_cons_succ, List.getElem?_cons_zero]; try rfl)
              case hQ312 => exact fun _ _ _ h => h
              case hy312 => (refine Or.inl ⟨by rfl, ?_⟩; intro wq hSw; (try dsimp only at hSw); go_simp; (try with_reducible rfl))
              (try simp only [Act.put, List.setIfInBounds_toArray, List.set_cons_zero, List.set_cons_succ])
              refine wpAnyH_take (i := 12) (oi := ?oi313) (v := ?v313) ?hi313 (by kernel_rfl) (by kernel_rfl) (by kernel_rfl) ?hQ313 ?hy313 (by assumption) ?_
              case hi313 => (simp only [List.getElem?_toArray, List.getElem?_cons_succ, List.getElem?_cons_zero]; try rfl)
              case hQ313 => exact fun _ _ _ h => h
              case hy313 => (refine Or.inl ⟨by rfl, ?_⟩; intro wq hSw; (try dsimp only at hSw); go_simp; (try with_reducible rfl))
              (try simp only [Act.put, List.setIfInBounds_toArray, List.set_cons_zero, List.set_cons_succ])
              refine wpAnyH_done (by kernel_rfl) ?_ _
              by_cases hf : ef = 0
              · subst hf
                by_cases hk3 : ek1 = 3
                · subst hk3
                  go_wp2
                  go_roundg (gk - 1)
                  case rel => exact ⟨k + 1, by go_num, by omega, by have := HG.out; omega, by repeat (first | exact Ext.refl' _ | assumption | apply Ext.ex' | apply Ext.al | apply Ext.drN | apply Ext.dr)⟩
                  case measure => have := HG.out; omega
                · by_cases hk0 : ek1 = 0
                  · subst hk0
                    go_wp2
                    go_roundg (gk - 1)
                    case rel => exact ⟨k + 1, by go_num, by omega, by have := HG.out; omega, by repeat (first | exact Ext.refl' _ | assumption | apply Ext.ex' | apply Ext.al | apply Ext.drN | apply Ext.dr)⟩
                    case measure => have := HG.out; omega
                  · have g3 : (ek1 != 3) = true := bne_iff_ne.2 hk3
                    have g0 : (ek1 != 0) = true := bne_iff_ne.2 hk0
                    go_wp2
                    go_ret
                    exact ⟨RF.mk _, by repeat (first | exact Ext.refl' _ | assumption | apply Ext.ex' | apply Ext.al | apply Ext.drN | apply Ext.dr)⟩
              · go_wp2
                go_ret
                exact ⟨RF.mk _, by repeat (first | exact Ext.refl' _ | assumption | apply Ext.ex' | apply Ext.al | apply Ext.drN | apply Ext.dr)⟩
        · have hkz : ¬ ((k : Int) < (n4 : Int)) := by omega
          go_wp2
          go_ret
          exact ⟨RF.mk _, by repeat (first | exact Ext.refl' _ | assumption | apply Ext.ex' | apply Ext.al | apply Ext.drN | apply Ext.dr)⟩


set_option maxRecDepth 100000 in
set_option maxHeartbeats 4000000 in
theorem tcheck_any (s0 : ByteArray) (A1 K A3 A4 : Option Addr) (n1 m1 n2 kc n3 m3 n4 m4 : Nat) (cl : List Col) (ks : List Int) (fl : List Fo) (es : List Ex) (css : List (List Value)) (w : World) (hs0 : s0.size ≤ 9223372036854775807) (hT : TabOk w A1 K A3 A4 n1 n2 n3 n4 cl ks fl es css) : Calls Tryz.prog 14 #[.agg #[.string s0, .slice A1 n1 m1, .slice K n2 kc, .slice A3 n3 m3, .slice A4 n4 m4]] w fun e w' => RF e ∧ Ext w w' := by
  have HNM := Lib.hid fun W => name_any s0 W hs0
  have HCO := Lib.hid fun W (e : Ext w W) => columns_any s0 A1 K A3 A4 n1 m1 n2 kc n3 m3 n4 m4 cl W hT.cn (hT.c.ext e) hT.cb hT.cs
  have HKY := Lib.hid fun W (e : Ext w W) => key_any s0 A1 K A3 A4 n1 m1 n2 kc n3 m3 n4 m4 cl ks W hT.cn hT.kn (hT.c.ext e) (hT.k.ext e) hT.cb hT.kb
  have HCN := Lib.hid fun W (e : Ext w W) => constraints_any s0 A1 K A3 A4 n1 m1 n2 kc n3 m3 n4 m4 cl ks fl es css W (hT.ext e)
  clear hT hs0
  go_enter Tryz.func14, Tryz.ntmps14
  go_wp2_with fail
  refine (HNM.out _).mono ?_
  rintro e w1 ⟨⟨nb, rfl⟩, hb1⟩
  obtain ⟨x1, rfl⟩ := hb1.get
  clear hb1
  cases nb
  · go_wp2
    go_ret
    exact ⟨RF.mk _, by repeat (first | exact Ext.refl' _ | assumption | apply Ext.ex' | apply Ext.al | apply Ext.drN | apply Ext.dr)⟩
  go_wp2_with fail
  refine (HCO.out _ (by repeat (first | exact Ext.refl' _ | assumption | apply Ext.ex' | apply Ext.al | apply Ext.drN | apply Ext.dr))).mono ?_
  rintro e w1 ⟨⟨f1, rfl⟩, hb1⟩
  obtain ⟨x2, rfl⟩ := hb1.get
  clear hb1
  by_cases h1 : f1 = 0
  · subst h1
    go_wp2_with fail
    refine (HKY.out _ (by repeat (first | exact Ext.refl' _ | assumption | apply Ext.ex' | apply Ext.al | apply Ext.drN | apply Ext.dr))).mono ?_
    rintro e w1 ⟨⟨f2, rfl⟩, hb1⟩
    obtain ⟨x3, rfl⟩ := hb1.get
    clear hb1
    by_cases h2 : f2 = 0
    · subst h2
      go_wp2_with fail
      refine (HCN.out _ (by repeat (first | exact Ext.refl' _ | assumption | apply Ext.ex' | apply Ext.al | apply Ext.drN | apply Ext.dr))).mono ?_
      rintro e w1 ⟨⟨f3, rfl⟩, hb1⟩
      obtain ⟨x4, rfl⟩ := hb1.get
      clear hb1
      go_wp2
      go_ret
      exact ⟨RF.mk _, by repeat (first | exact Ext.refl' _ | assumption | apply Ext.ex' | apply Ext.al | apply Ext.drN | apply Ext.dr)⟩
    · go_wp2
      go_ret
      exact ⟨RF.mk _, by repeat (first | exact Ext.refl' _ | assumption | apply Ext.ex' | apply Ext.al | apply Ext.drN | apply Ext.dr)⟩
  · go_wp2
    go_ret
    exact ⟨RF.mk _, by repeat (first | exact Ext.refl' _ | assumption | apply Ext.ex' | apply Ext.al | apply Ext.drN | apply Ext.dr)⟩
set_option maxHeartbeats 400000 in
theorem rvalid_any (p : Int × Int) (w : World) : Calls Tryz.prog 15 #[pr p] w fun e w' => e = .returned (.bool (pvB p)) ∧ Ext w w' := by
  go_enter Tryz.func15, Tryz.ntmps15
  go_wp2
  all_goals go_ret
  all_goals refine ⟨?_, Ext.al1 _ _⟩
  all_goals simp_all [pvB]
  all_goals omega
set_option maxRecDepth 100000 in
set_option maxHeartbeats 4000000 in
theorem chosen_any (s0 : ByteArray) (A1 K A3 A4 : Option Addr) (n1 m1 n2 kc n3 m3 n4 m4 : Nat) (cl : List Col) (ks : List Int) (fl : List Fo) (es : List Ex) (css : List (List Value)) (o i : Int) (v : Va) (nm : ByteArray) (A : Option Addr) (args : List Ex) (c : Nat) (css2 : List (List Value)) (d : Int × Int) (w : World) (hs0 : s0.size ≤ 9223372036854775807) (hT : TabOk w A1 K A3 A4 n1 n2 n3 n4 cl ks fl es css)
    (hsz : szs args ≤ 1048576) (hvt : v.t.size ≤ 9223372036854775807) (hR : Rd w 7 A args.length css2.flatten) (hs : REs w args css2) :
    Calls Tryz.prog 4 #[.agg #[.string s0, .slice A1 n1 m1, .slice K n2 kc, .slice A3 n3 m3, .slice A4 n4 m4], exag o i v nm A args.length c, .agg #[.int .i64 d.1, .int .i64 d.2]] w fun e w' => RB e ∧ Ext w w' := by
  have HKI : Hid (∀ W, Ext w W → Calls Tryz.prog 13 #[.agg #[.string s0, .slice A1 n1 m1, .slice K n2 kc, .slice A3 n3 m3, .slice A4 n4 m4]] W fun e w' => KP e w' ∧ Ext W w') := Lib.hid fun W e => kinds_any s0 A1 K A3 A4 n1 m1 n2 kc n3 m3 n4 m4 cl W hT.cn (hT.c.ext e) hT.cb
  have HCH : Hid (∀ W, Ext w W → ∀ (Ak : Option Addr) (ck nk : Nat) (lk : List Int), lk.length = nk → nk ≤ 1048576 → Rd W 1 Ak nk (ic lk) → Calls Tryz.prog 12 #[exag o i v nm A args.length c, .slice Ak nk ck] W fun e w' => RKI e ∧ Ext W w') := Lib.hid fun W e Ak ck nk lk h1 h2 h3 =>
    checkE_n Ak ck nk lk h1 h2 o i v nm A args c css2 W hsz hvt (hR.ext e) (REs.ext e hs) h3
  have HTC := Lib.hid fun W (e : Ext w W) => tcheck_any s0 A1 K A3 A4 n1 m1 n2 kc n3 m3 n4 m4 cl ks fl es css W hs0 (hT.ext e)
  clear hT hs0 hsz hvt hR hs
  go_enter Tryz.func4, Tryz.ntmps4
  go_wp2_with fail
  refine wp_region_held_drew (S := (fun w' => w'.cell? ⟨w.heap.size, 0, none⟩ = some (.string s0) ∧ w'.cell? ⟨w.heap.size, 1, none⟩ = some (.slice A1 n1 m1) ∧ w'.cell? ⟨w.heap.size, 2, none⟩ = some (.slice K n2 kc) ∧ w'.cell? ⟨w.heap.size, 3, none⟩ = some (.slice A3 n3 m3) ∧ w'.cell? ⟨w.heap.size, 4, none⟩ = some (.slice A4 n4 m4) ∧ w'.cell? ⟨w.heap.size + 1, 0, none⟩ = some (.int .i64 o) ∧ w'.cell? ⟨w.heap.size + 1, 1, none⟩ = some (.int .i64 i) ∧ w'.cell? ⟨w.heap.size + 1, 2, none⟩ = some (.int .i64 v.k) ∧ w'.cell? ⟨w.heap.size + 1, 3, none⟩ = some (.int .i64 v.i) ∧ w'.cell? ⟨w.heap.size + 1, 4, none⟩ = some (.string v.t) ∧ w'.cell? ⟨w.heap.size + 1, 5, none⟩ = some (.string nm) ∧ w'.cell? ⟨w.heap.size + 1, 6, none⟩ = some (.slice A args.length c))) (by kernel_rfl) (by simp [go_sem, ↓IntWalk.iteOmega, *]) (fun hHeld => ?_)
  refine wpAnyH_take (i := 0) (oi := ?oi601) (v := ?v601) ?hi601 (by kernel_rfl) (by kernel_rfl) (by kernel_rfl) ?hQ601 ?hy601 (by assumption) ?_
  case hi601 => (simp only [List.getElem?_toArray, List.getElem?_cons_succ, List.getElem?_cons_zero]; try rfl)
  case hQ601 => exact fun _ _ _ h => h
  case hy601 => (refine Or.inl ⟨by rfl, ?_⟩; intro wq hSw; (try dsimp only at hSw); go_simp; (try with_reducible rfl))
  (try simp only [Act.put, List.setIfInBounds_toArray, List.set_cons_zero, List.set_cons_succ])
  refine wpAnyH_take (i := 1) (oi := ?oi602) (v := ?v602) ?hi602 (by kernel_rfl) (by kernel_rfl) (by kernel_rfl) ?hQ602 ?hy602 (by assumption) ?_
  case hi602 => (simp only [List.getElem?_toArray, List.getElem?_cons_succ, List.getElem?_cons_zero]; try rfl)
  case hQ602 => exact fun _ _ _ h => h
  case hy602 => (refine Or.inl ⟨by rfl, ?_⟩; intro wq hSw; (try dsimp only at hSw); go_simp; (try with_reducible rfl))
  (try simp only [Act.put, List.setIfInBounds_toArray, List.set_cons_zero, List.set_cons_succ])
  refine wpAnyH_ready (rs := [2]) (by kernel_rfl) (by simp) ?_
  refine AllReadyH.cons (o := ?oi603) ?hi603 ?ti603 AllReadyH.nil
  case hi603 => (simp only [List.getElem?_toArray, List.getElem?_cons_succ, List.getElem?_cons_zero]; try rfl)
  case ti603 =>
    intro KQ hKQ
    go_simp
    go_at_call 13
    refine Calls.mono (HKI.out _ (by repeat (first | exact Ext.refl' _ | assumption | apply Ext.ex' | apply Ext.al | apply Ext.drN | apply Ext.dr))) ?_
    rintro e w1 ⟨⟨nk, ck, Ak, lk, rfl, HLK, hnk, HRK⟩, hb1⟩
    obtain ⟨x1, rfl⟩ := hb1.get
    clear hb1
    refine hKQ.out _ _ (by simp [go_sem, ↓IntWalk.iteOmega, *]) (fun hHeld2 => ?_)
    clear hHeld hKQ KQ; have hHeld := hHeld2; clear hHeld2
    (try simp only [Act.put, List.setIfInBounds_toArray, List.set_cons_zero, List.set_cons_succ])
    refine wpAnyH_ready (rs := [3]) (by kernel_rfl) (by simp) ?_
    refine AllReadyH.cons (o := ?oi604) ?hi604 ?ti604 AllReadyH.nil
    case hi604 => (simp only [List.getElem?_toArray, List.getElem?_cons_succ, List.getElem?_cons_zero]; try rfl)
    case ti604 =>
      intro KQ hKQ
      go_simp
      go_at_call 12
      refine Calls.mono (HCH.out _ (by repeat (first | exact Ext.refl' _ | assumption | apply Ext.ex' | apply Ext.al | apply Ext.drN | apply Ext.dr)) Ak ck nk lk HLK.out hnk (HRK.out.ext (by repeat (first | exact Ext.refl' _ | assumption | apply Ext.ex' | apply Ext.al | apply Ext.drN | apply Ext.dr)))) ?_
      rintro e w1 ⟨⟨k1, f, rfl⟩, hb1⟩
      obtain ⟨x2, rfl⟩ := hb1.get
      clear hb1
      refine hKQ.out _ _ (by simp [go_sem, ↓IntWalk.iteOmega, *]) (fun hHeld2 => ?_)
      clear hHeld hKQ KQ; have hHeld := hHeld2; clear hHeld2
      (try simp only [Act.put, List.setIfInBounds_toArray, List.set_cons_zero, List.set_cons_succ])
      refine wpAnyH_take (i := 4) (oi := ?oi605) (v := ?v605) ?hi605 (by kernel_rfl) (by kernel_rfl) (by kernel_rfl) ?hQ605 ?hy605 (by assumption) ?_
      case hi605 => (simp only [List.getElem?_toArray, List.getElem?_cons_succ, List.getElem?_cons_zero]; try rfl)
      case hQ605 => exact fun _ _ _ h => h
      case hy605 => (refine Or.inl ⟨by rfl, ?_⟩; intro wq hSw; (try dsimp only at hSw); go_simp; (try with_reducible rfl))
      (try simp only [Act.put, List.setIfInBounds_toArray, List.set_cons_zero, List.set_cons_succ])
      refine wpAnyH_take (i := 5) (oi := ?oi606) (v := ?v606) ?hi606 (by kernel_rfl) (by kernel_rfl) (by kernel_rfl) ?hQ606 ?hy606 (by assumption) ?_
      case hi606 => (simp only [List.getElem?_toArray, List.getElem?_cons_succ, List.getElem?_cons_zero]; try rfl)
      case hQ606 => exact fun _ _ _ h => h
      case hy606 => (refine Or.inl ⟨by rfl, ?_⟩; intro wq hSw; (try dsimp only at hSw); go_simp; (try with_reducible rfl))
      (try simp only [Act.put, List.setIfInBounds_toArray, List.set_cons_zero, List.set_cons_succ])
      refine wpAnyH_take (i := 6) (oi := ?oi607) (v := ?v607) ?hi607 (by kernel_rfl) (by kernel_rfl) (by kernel_rfl) ?hQ607 ?hy607 (by assumption) ?_
      case hi607 => (simp only [List.getElem?_toArray, List.getElem?_cons_succ, List.getElem?_cons_zero]; try rfl)
      case hQ607 => exact fun _ _ _ h => h
      case hy607 => (refine Or.inl ⟨by rfl, ?_⟩; intro wq hSw; (try dsimp only at hSw); go_simp; (try with_reducible rfl))
      (try simp only [Act.put, List.setIfInBounds_toArray, List.set_cons_zero, List.set_cons_succ])
      refine wpAnyH_take (i := 7) (oi := ?oi608) (v := ?v608) ?hi608 (by kernel_rfl) (by kernel_rfl) (by kernel_rfl) ?hQ608 ?hy608 (by assumption) ?_
      case hi608 => (simp only [List.getElem?_toArray, List.getElem?_cons_succ, List.getElem?_cons_zero]; try rfl)
      case hQ608 => exact fun _ _ _ h => h
      case hy608 => (refine Or.inl ⟨by rfl, ?_⟩; intro wq hSw; (try dsimp only at hSw); go_simp; (try with_reducible rfl))
      (try simp only [Act.put, List.setIfInBounds_toArray, List.set_cons_zero, List.set_cons_succ])
      refine wpAnyH_take (i := 8) (oi := ?oi609) (v := ?v609) ?hi609 (by kernel_rfl) (by kernel_rfl) (by kernel_rfl) ?hQ609 ?hy609 (by assumption) ?_
      case hi609 => (simp only [List.getElem?_toArray, List.getElem?_cons_succ, List.getElem?_cons_zero]; try rfl)
      case hQ609 => exact fun _ _ _ h => h
      case hy609 => (refine Or.inl ⟨by rfl, ?_⟩; intro wq hSw; (try dsimp only at hSw); go_simp; (try with_reducible rfl))
      (try simp only [Act.put, List.setIfInBounds_toArray, List.set_cons_zero, List.set_cons_succ])
      refine wpAnyH_done (by kernel_rfl) ?_ _
      by_cases hf : f = 0
      · subst hf
        go_wp2_with fail
        refine (HTC.out _ (by repeat (first | exact Ext.refl' _ | assumption | apply Ext.ex' | apply Ext.al | apply Ext.drN | apply Ext.dr))).mono ?_
        rintro e w1 ⟨⟨f2, rfl⟩, hb1⟩
        obtain ⟨x3, rfl⟩ := hb1.get
        clear hb1
        by_cases hf2 : f2 = 0
        · subst hf2
          go_wp2_with fail
          refine (rvalid_any d _).mono ?_
          rintro e w1 ⟨rfl, hb1⟩
          obtain ⟨x4, rfl⟩ := hb1.get
          clear hb1
          go_wp2
          go_ret
          exact ⟨RB.mk _, by repeat (first | exact Ext.refl' _ | assumption | apply Ext.ex' | apply Ext.al | apply Ext.drN | apply Ext.dr)⟩
        · have g2 : (f2 == 0) = false := beq_eq_false_iff_ne.2 hf2
          go_wp2
          go_ret
          exact ⟨RB.mk _, by repeat (first | exact Ext.refl' _ | assumption | apply Ext.ex' | apply Ext.al | apply Ext.drN | apply Ext.dr)⟩
      · have g2 : (f == 0) = false := beq_eq_false_iff_ne.2 hf
        go_wp2
        go_ret
        exact ⟨RB.mk _, by repeat (first | exact Ext.refl' _ | assumption | apply Ext.ex' | apply Ext.al | apply Ext.drN | apply Ext.dr)⟩

end Go.Proofs.YtflhikpihbenaaaGreat
