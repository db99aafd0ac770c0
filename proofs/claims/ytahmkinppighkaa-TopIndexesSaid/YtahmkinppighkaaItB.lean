/- The interval tree: fix, rotate. -/
import Derived.Test.YtahmkinppighkaaItA
import Derived.Test.YtahmkinppighkaaHld
set_option linter.unusedSimpArgs false
set_option linter.unusedVariables false
namespace Go.Proofs.Ytahmkinppighkaa
open Go.RowKit


theorem LvI.chg {w w' : World} {p : Value} {h e : Int} {S : List Nat} (k : LvI w p h e) (c : Chg S w w') (hn : ∀ b ∈ S, p ≠ ptI b) : LvI w' p h e := by
  rcases k with k | ⟨b, h1, h2, h3, h4⟩
  · exact .inl k
  · have hb : b ∉ S := fun hb => hn b hb h1
    have e := c.same b h2 hb
    exact .inr ⟨b, h1, Nat.lt_of_lt_of_le h2 c.size, (World.cell?_of_block e).trans h3, (World.cell?_of_block e).trans h4⟩
set_option maxRecDepth 100000 in
set_option maxHeartbeats 8000000 in
theorem fix_any (b : Nat) (x : It) (L R : Value) (h e hl el hr er : Int) (w : World) (k : NdI w b x L R h e) (kl : LvI w L hl el) (kr : LvI w R hr er) (bl : 0 ≤ hl ∧ hl ≤ 1000001) (br : 0 ≤ hr ∧ hr ≤ 1000001) (nl : L ≠ ptI b) (nr : R ≠ ptI b) :
    Calls Try.prog 77 #[ptI b] w fun en w' => en = .returned (.tuple #[]) ∧ NdI w' b x L R (1 + max hl hr) (max x.1.2 (max el er)) ∧ Chg [b] w w' := by
  have HM1 := Lib.hid fun W (e : Ext w W) => meas_levels b L R hl el hr er W (k.ext e).f.lt (k.ext e).f.c3 (k.ext e).f.c4 (kl.ext e) (kr.ext e)
  obtain ⟨m1, hm1⟩ : ∃ m, max hl hr = m := ⟨_, rfl⟩
  obtain ⟨m2, hm2⟩ : ∃ m, max el er = m := ⟨_, rfl⟩
  have hmb : 0 ≤ m1 ∧ m1 ≤ 4611686018427387904 := by omega
  obtain ⟨w2, s5, k2, g2⟩ := k.set5 (1 + m1)
  have HM2 := Lib.hid fun W (e : Ext w2 W) => meas_last b L R hl el hr er W (k2.ext e).f.lt (k2.ext e).f.c3 (k2.ext e).f.c4 ((kl.chg g2 (by simpa using nl)).ext e) ((kr.chg g2 (by simpa using nr)).ext e)
  rw [hm1] at HM1 ⊢
  rw [hm2] at HM2 ⊢
  obtain ⟨hlt0, -, -, -, -, -, d5, -, -, -, z5, -⟩ := k.f
  obtain ⟨hlt2, -, c1, -, -, -, -, d6, -, -, -, z6⟩ := k2.f
  have hw : wrap64 (1 + m1) = 1 + m1 := IntWalk.wrap64_in _ ⟨by omega, by omega⟩
  by_cases hx : x.1.2 < m2
  · obtain ⟨w3, s6, k3, g3⟩ := k2.set6 m2
    have HMX : Hid (max x.1.2 m2 = m2) := Lib.hid (by omega)
    have HK3 := Lib.hid k3
    have HG3 := Lib.hid (g2.tr g3)
    clear k kl kr nl nr hm1 hm2 k2 g2 k3 g3
    unfold ptI
    go_enter Try.func77, Try.ntmps77
    go_wp2_with fail
    refine (HM1.out _ (by repeat (first | exact Ext.refl' _ | assumption | apply Ext.ex' | apply Ext.al | apply Ext.drN | apply Ext.dr))).mono ?_
    rintro e1 w1 ⟨rfl, hb1⟩
    obtain ⟨x1, rfl⟩ := hb1.get
    clear hb1
    go_wp2_with fail
    refine wp_region_T 12 (S := (fun w' => w'.cell? ⟨b, 1, none⟩ = some (.int .i64 x.1.2))) (by kernel_rfl) (by simp [go_sem, ↓IntWalk.iteOmega, *]) (fun hHeld => ?_)
    refine wpAnyT_take (i := 0) (oi := ?oi101) (v := ?v101) ?hi101 (by kernel_rfl) (by kernel_rfl) (by kernel_rfl) (by kernel_rfl) (by kernel_rfl) ?hQ101 ?hy101 (by assumption) ?_
    case hi101 => (simp only [List.getElem?_toArray, List.getElem?_cons_succ, List.getElem?_cons_zero]; try rfl)
    case hQ101 => exact fun _ _ _ h => h
    case hy101 => (refine Or.inl ⟨by rfl, ?_⟩; intro wq hSw; (try dsimp only at hSw); go_simp; (try simp only [if_pos hx]); (try with_reducible rfl))
    (try simp only [Act.put, List.setIfInBounds_toArray, List.set_cons_zero, List.set_cons_succ])
    refine wpAnyT_take (i := 1) (oi := ?oi102) (v := ?v102) ?hi102 (by kernel_rfl) (by kernel_rfl) (by kernel_rfl) (by kernel_rfl) (by kernel_rfl) ?hQ102 ?hy102 (by assumption) ?_
    case hi102 => (simp only [List.getElem?_toArray, List.getElem?_cons_succ, List.getElem?_cons_zero]; try rfl)
    case hQ102 => exact fun _ _ _ h => h
    case hy102 => (refine Or.inl ⟨by rfl, ?_⟩; intro wq hSw; (try dsimp only at hSw); go_simp; (try simp only [if_pos hx]); (try with_reducible rfl))
    (try simp only [Act.put, List.setIfInBounds_toArray, List.set_cons_zero, List.set_cons_succ])
    refine wpAnyT_take (i := 2) (oi := ?oi103) (v := ?v103) ?hi103 (by kernel_rfl) (by kernel_rfl) (by kernel_rfl) (by kernel_rfl) (by kernel_rfl) ?hQ103 ?hy103 (by assumption) ?_
    case hi103 => (simp only [List.getElem?_toArray, List.getElem?_cons_succ, List.getElem?_cons_zero]; try rfl)
    case hQ103 => exact fun _ _ _ h => h
    case hy103 => (refine Or.inl ⟨by rfl, ?_⟩; intro wq hSw; (try dsimp only at hSw); go_simp; (try simp only [if_pos hx]); (try with_reducible rfl))
    (try simp only [Act.put, List.setIfInBounds_toArray, List.set_cons_zero, List.set_cons_succ])
    refine wpAnyT_take (i := 3) (oi := ?oi104) (v := ?v104) ?hi104 (by kernel_rfl) (by kernel_rfl) (by kernel_rfl) (by kernel_rfl) (by kernel_rfl) ?hQ104 ?hy104 (by assumption) ?_
    case hi104 => (simp only [List.getElem?_toArray, List.getElem?_cons_succ, List.getElem?_cons_zero]; try rfl)
    case hQ104 => exact fun _ _ _ h => h
    case hy104 => (refine Or.inl ⟨by rfl, ?_⟩; intro wq hSw; (try dsimp only at hSw); go_simp; (try simp only [if_pos hx]); (try with_reducible rfl))
    (try simp only [Act.put, List.setIfInBounds_toArray, List.set_cons_zero, List.set_cons_succ])
    refine wpAnyT_take (i := 4) (oi := ?oi105) (v := ?v105) ?hi105 (by kernel_rfl) (by kernel_rfl) (by kernel_rfl) (by kernel_rfl) (by kernel_rfl) ?hQ105 ?hy105 (by assumption) ?_
    case hi105 => (simp only [List.getElem?_toArray, List.getElem?_cons_succ, List.getElem?_cons_zero]; try rfl)
    case hQ105 => exact fun _ _ _ h => h
    case hy105 => (refine Or.inl ⟨by rfl, ?_⟩; intro wq hSw; (try dsimp only at hSw); go_simp; (try simp only [if_pos hx]); (try with_reducible rfl))
    (try simp only [Act.put, List.setIfInBounds_toArray, List.set_cons_zero, List.set_cons_succ])
    refine wpAnyT_take (i := 5) (oi := ?oi106) (v := ?v106) ?hi106 (by kernel_rfl) (by kernel_rfl) (by kernel_rfl) (by kernel_rfl) (by kernel_rfl) ?hQ106 ?hy106 (by assumption) ?_
    case hi106 => (simp only [List.getElem?_toArray, List.getElem?_cons_succ, List.getElem?_cons_zero]; try rfl)
    case hQ106 => exact fun _ _ _ h => h
    case hy106 => (refine Or.inl ⟨by rfl, ?_⟩; intro wq hSw; (try dsimp only at hSw); go_simp; (try simp only [if_pos hx]); (try with_reducible rfl))
    (try simp only [Act.put, List.setIfInBounds_toArray, List.set_cons_zero, List.set_cons_succ])
    refine wpAnyT_take (i := 6) (oi := ?oi107) (v := ?v107) ?hi107 (by kernel_rfl) (by kernel_rfl) (by kernel_rfl) (by kernel_rfl) (by kernel_rfl) ?hQ107 ?hy107 (by assumption) ?_
    case hi107 => (simp only [List.getElem?_toArray, List.getElem?_cons_succ, List.getElem?_cons_zero]; try rfl)
    case hQ107 => exact fun _ _ _ h => h
    case hy107 => (refine Or.inl ⟨by rfl, ?_⟩; intro wq hSw; (try dsimp only at hSw); go_simp; (try simp only [if_pos hx]); (try with_reducible rfl))
    (try simp only [Act.put, List.setIfInBounds_toArray, List.set_cons_zero, List.set_cons_succ])
    refine wpAnyT_take (i := 7) (oi := ?oi108) (v := ?v108) ?hi108 (by kernel_rfl) (by kernel_rfl) (by kernel_rfl) (by kernel_rfl) (by kernel_rfl) ?hQ108 ?hy108 (by assumption) ?_
    case hi108 => (simp only [List.getElem?_toArray, List.getElem?_cons_succ, List.getElem?_cons_zero]; try rfl)
    case hQ108 => exact fun _ _ _ h => h
    case hy108 => (refine Or.inl ⟨by rfl, ?_⟩; intro wq hSw; (try dsimp only at hSw); go_simp; (try simp only [if_pos hx]); (try with_reducible rfl))
    (try simp only [Act.put, List.setIfInBounds_toArray, List.set_cons_zero, List.set_cons_succ])
    refine wpAnyT_ready (rs := [8]) (by kernel_rfl) (by simp) ?_
    refine AllReadyT.cons (o := ?oi109) ?hi109 ?ti109 AllReadyT.nil
    case hi109 => (simp only [List.getElem?_toArray, List.getElem?_cons_succ, List.getElem?_cons_zero]; try rfl)
    case ti109 =>
      intro KQ hKQ
      go_simp
      go_at_call 104
      refine Calls.mono (HM2.out _ (by repeat (first | exact Ext.refl' _ | assumption | apply Ext.ex' | apply Ext.al | apply Ext.drN | apply Ext.dr))) ?_
      rintro e w4 ⟨rfl, hb4⟩
      obtain ⟨x4, rfl⟩ := hb4.get
      clear hb4
      refine hKQ.out _ _ (by simp [go_sem, ↓IntWalk.iteOmega, *]) (fun hHeld2 => ?_)
      clear hHeld hKQ KQ; have hHeld := hHeld2; clear hHeld2
      (try simp only [Act.put, List.setIfInBounds_toArray, List.set_cons_zero, List.set_cons_succ])
      refine wpAnyT_take (i := 9) (oi := ?oi110) (v := ?v110) ?hi110 (by kernel_rfl) (by kernel_rfl) (by kernel_rfl) (by kernel_rfl) (by kernel_rfl) ?hQ110 ?hy110 (by assumption) ?_
      case hi110 => (simp only [List.getElem?_toArray, List.getElem?_cons_succ, List.getElem?_cons_zero]; try rfl)
      case hQ110 => exact fun _ _ _ h => h
      case hy110 => (refine Or.inl ⟨by rfl, ?_⟩; intro wq hSw; (try dsimp only at hSw); go_simp; (try simp only [if_pos hx]); (try with_reducible rfl))
      (try simp only [Act.put, List.setIfInBounds_toArray, List.set_cons_zero, List.set_cons_succ])
      refine wpAnyT_take (i := 10) (oi := ?oi111) (v := ?v111) ?hi111 (by kernel_rfl) (by kernel_rfl) (by kernel_rfl) (by kernel_rfl) (by kernel_rfl) ?hQ111 ?hy111 (by assumption) ?_
      case hi111 => (simp only [List.getElem?_toArray, List.getElem?_cons_succ, List.getElem?_cons_zero]; try rfl)
      case hQ111 => exact fun _ _ _ h => h
      case hy111 => (refine Or.inl ⟨by rfl, ?_⟩; intro wq hSw; (try dsimp only at hSw); go_simp; (try simp only [if_pos hx]); (try with_reducible rfl))
      (try simp only [Act.put, List.setIfInBounds_toArray, List.set_cons_zero, List.set_cons_succ])
      refine wpAnyT_take (i := 11) (oi := ?oi112) (v := ?v112) ?hi112 (by kernel_rfl) (by kernel_rfl) (by kernel_rfl) (by kernel_rfl) (by kernel_rfl) ?hQ112 ?hy112 (by assumption) ?_
      case hi112 => (simp only [List.getElem?_toArray, List.getElem?_cons_succ, List.getElem?_cons_zero]; try rfl)
      case hQ112 => exact fun _ _ _ h => h
      case hy112 => (refine Or.inl ⟨by rfl, ?_⟩; intro wq hSw; (try dsimp only at hSw); go_simp; (try simp only [if_pos hx]); (try with_reducible rfl))
      (try simp only [Act.put, List.setIfInBounds_toArray, List.set_cons_zero, List.set_cons_succ])
      refine wpAnyT_ready (rs := [12]) (by kernel_rfl) (by simp) ?_
      refine AllReadyT.last (o := ?oi113) ?hi113 ?ti113
      case hi113 => (simp only [List.getElem?_toArray, List.getElem?_cons_succ, List.getElem?_cons_zero]; try rfl)
      case ti113 =>
        intro KQ hKQ
        go_simp
        (repeat (simp only [go_sem, ↓IntWalk.iteOmega, ↓reduceIte, Bool.false_eq_true]; (try go_simp)))
        refine hKQ.out _ _ ?_
        clear hKQ KQ hHeld
        (try simp only [Act.put, List.setIfInBounds_toArray, List.set_cons_zero, List.set_cons_succ])
        refine wpAnyT_done (by kernel_rfl) ?_ _
        go_wp2
        refine bodyPost_end (v := .tuple #[]) ?_ rfl ⟨rfl, ?_, ?_⟩
        · simp [results, Try.results77, go_sem]
        · rw [HMX.out]
          exact HK3.out.ext (by repeat (first | exact Ext.refl' _ | assumption | apply Ext.ex' | apply Ext.al | apply Ext.drN | apply Ext.dr))
        · exact HG3.out.tr (Chg.of_ext (by repeat (first | exact Ext.refl' _ | assumption | apply Ext.ex' | apply Ext.al | apply Ext.drN | apply Ext.dr)))
  · obtain ⟨w3, s6, k3, g3⟩ := k2.set6 x.1.2
    have HMX : Hid (max x.1.2 m2 = x.1.2) := Lib.hid (by omega)
    have HK3 := Lib.hid k3
    have HG3 := Lib.hid (g2.tr g3)
    clear k kl kr nl nr hm1 hm2 k2 g2 k3 g3
    unfold ptI
    go_enter Try.func77, Try.ntmps77
    go_wp2_with fail
    refine (HM1.out _ (by repeat (first | exact Ext.refl' _ | assumption | apply Ext.ex' | apply Ext.al | apply Ext.drN | apply Ext.dr))).mono ?_
    rintro e1 w1 ⟨rfl, hb1⟩
    obtain ⟨x1, rfl⟩ := hb1.get
    clear hb1
    go_wp2_with fail
    refine wp_region_T 12 (S := (fun w' => w'.cell? ⟨b, 1, none⟩ = some (.int .i64 x.1.2))) (by kernel_rfl) (by simp [go_sem, ↓IntWalk.iteOmega, *]) (fun hHeld => ?_)
    refine wpAnyT_take (i := 0) (oi := ?oi301) (v := ?v301) ?hi301 (by kernel_rfl) (by kernel_rfl) (by kernel_rfl) (by kernel_rfl) (by kernel_rfl) ?hQ301 ?hy301 (by assumption) ?_
    case hi301 => (simp only [List.getElem?_toArray, List.getElem?_cons_succ, List.getElem?_cons_zero]; try rfl)
    case hQ301 => exact fun _ _ _ h => h
    case hy301 => (refine Or.inl ⟨by rfl, ?_⟩; intro wq hSw; (try dsimp only at hSw); go_simp; (try simp only [if_neg hx]); (try with_reducible rfl))
    (try simp only [Act.put, List.setIfInBounds_toArray, List.set_cons_zero, List.set_cons_succ])
    refine wpAnyT_take (i := 1) (oi := ?oi302) (v := ?v302) ?hi302 (by kernel_rfl) (by kernel_rfl) (by kernel_rfl) (by kernel_rfl) (by kernel_rfl) ?hQ302 ?hy302 (by assumption) ?_
    case hi302 => (simp only [List.getElem?_toArray, List.getElem?_cons_succ, List.getElem?_cons_zero]; try rfl)
    case hQ302 => exact fun _ _ _ h => h
    case hy302 => (refine Or.inl ⟨by rfl, ?_⟩; intro wq hSw; (try dsimp only at hSw); go_simp; (try simp only [if_neg hx]); (try with_reducible rfl))
    (try simp only [Act.put, List.setIfInBounds_toArray, List.set_cons_zero, List.set_cons_succ])
    refine wpAnyT_take (i := 2) (oi := ?oi303) (v := ?v303) ?hi303 (by kernel_rfl) (by kernel_rfl) (by kernel_rfl) (by kernel_rfl) (by kernel_rfl) ?hQ303 ?hy303 (by assumption) ?_
    case hi303 => (simp only [List.getElem?_toArray, List.getElem?_cons_succ, List.getElem?_cons_zero]; try rfl)
    case hQ303 => exact fun _ _ _ h => h
    case hy303 => (refine Or.inl ⟨by rfl, ?_⟩; intro wq hSw; (try dsimp only at hSw); go_simp; (try simp only [if_neg hx]); (try with_reducible rfl))
    (try simp only [Act.put, List.setIfInBounds_toArray, List.set_cons_zero, List.set_cons_succ])
    refine wpAnyT_take (i := 3) (oi := ?oi304) (v := ?v304) ?hi304 (by kernel_rfl) (by kernel_rfl) (by kernel_rfl) (by kernel_rfl) (by kernel_rfl) ?hQ304 ?hy304 (by assumption) ?_
    case hi304 => (simp only [List.getElem?_toArray, List.getElem?_cons_succ, List.getElem?_cons_zero]; try rfl)
    case hQ304 => exact fun _ _ _ h => h
    case hy304 => (refine Or.inl ⟨by rfl, ?_⟩; intro wq hSw; (try dsimp only at hSw); go_simp; (try simp only [if_neg hx]); (try with_reducible rfl))
    (try simp only [Act.put, List.setIfInBounds_toArray, List.set_cons_zero, List.set_cons_succ])
    refine wpAnyT_take (i := 4) (oi := ?oi305) (v := ?v305) ?hi305 (by kernel_rfl) (by kernel_rfl) (by kernel_rfl) (by kernel_rfl) (by kernel_rfl) ?hQ305 ?hy305 (by assumption) ?_
    case hi305 => (simp only [List.getElem?_toArray, List.getElem?_cons_succ, List.getElem?_cons_zero]; try rfl)
    case hQ305 => exact fun _ _ _ h => h
    case hy305 => (refine Or.inl ⟨by rfl, ?_⟩; intro wq hSw; (try dsimp only at hSw); go_simp; (try simp only [if_neg hx]); (try with_reducible rfl))
    (try simp only [Act.put, List.setIfInBounds_toArray, List.set_cons_zero, List.set_cons_succ])
    refine wpAnyT_take (i := 5) (oi := ?oi306) (v := ?v306) ?hi306 (by kernel_rfl) (by kernel_rfl) (by kernel_rfl) (by kernel_rfl) (by kernel_rfl) ?hQ306 ?hy306 (by assumption) ?_
    case hi306 => (simp only [List.getElem?_toArray, List.getElem?_cons_succ, List.getElem?_cons_zero]; try rfl)
    case hQ306 => exact fun _ _ _ h => h
    case hy306 => (refine Or.inl ⟨by rfl, ?_⟩; intro wq hSw; (try dsimp only at hSw); go_simp; (try simp only [if_neg hx]); (try with_reducible rfl))
    (try simp only [Act.put, List.setIfInBounds_toArray, List.set_cons_zero, List.set_cons_succ])
    refine wpAnyT_take (i := 6) (oi := ?oi307) (v := ?v307) ?hi307 (by kernel_rfl) (by kernel_rfl) (by kernel_rfl) (by kernel_rfl) (by kernel_rfl) ?hQ307 ?hy307 (by assumption) ?_
    case hi307 => (simp only [List.getElem?_toArray, List.getElem?_cons_succ, List.getElem?_cons_zero]; try rfl)
    case hQ307 => exact fun _ _ _ h => h
    case hy307 => (refine Or.inl ⟨by rfl, ?_⟩; intro wq hSw; (try dsimp only at hSw); go_simp; (try simp only [if_neg hx]); (try with_reducible rfl))
    (try simp only [Act.put, List.setIfInBounds_toArray, List.set_cons_zero, List.set_cons_succ])
    refine wpAnyT_take (i := 7) (oi := ?oi308) (v := ?v308) ?hi308 (by kernel_rfl) (by kernel_rfl) (by kernel_rfl) (by kernel_rfl) (by kernel_rfl) ?hQ308 ?hy308 (by assumption) ?_
    case hi308 => (simp only [List.getElem?_toArray, List.getElem?_cons_succ, List.getElem?_cons_zero]; try rfl)
    case hQ308 => exact fun _ _ _ h => h
    case hy308 => (refine Or.inl ⟨by rfl, ?_⟩; intro wq hSw; (try dsimp only at hSw); go_simp; (try simp only [if_neg hx]); (try with_reducible rfl))
    (try simp only [Act.put, List.setIfInBounds_toArray, List.set_cons_zero, List.set_cons_succ])
    refine wpAnyT_ready (rs := [8]) (by kernel_rfl) (by simp) ?_
    refine AllReadyT.cons (o := ?oi309) ?hi309 ?ti309 AllReadyT.nil
    case hi309 => (simp only [List.getElem?_toArray, List.getElem?_cons_succ, List.getElem?_cons_zero]; try rfl)
    case ti309 =>
      intro KQ hKQ
      go_simp
      go_at_call 104
      refine Calls.mono (HM2.out _ (by repeat (first | exact Ext.refl' _ | assumption | apply Ext.ex' | apply Ext.al | apply Ext.drN | apply Ext.dr))) ?_
      rintro e w4 ⟨rfl, hb4⟩
      obtain ⟨x4, rfl⟩ := hb4.get
      clear hb4
      refine hKQ.out _ _ (by simp [go_sem, ↓IntWalk.iteOmega, *]) (fun hHeld2 => ?_)
      clear hHeld hKQ KQ; have hHeld := hHeld2; clear hHeld2
      (try simp only [Act.put, List.setIfInBounds_toArray, List.set_cons_zero, List.set_cons_succ])
      refine wpAnyT_take (i := 9) (oi := ?oi310) (v := ?v310) ?hi310 (by kernel_rfl) (by kernel_rfl) (by kernel_rfl) (by kernel_rfl) (by kernel_rfl) ?hQ310 ?hy310 (by assumption) ?_
      case hi310 => (simp only [List.getElem?_toArray, List.getElem?_cons_succ, List.getElem?_cons_zero]; try rfl)
      case hQ310 => exact fun _ _ _ h => h
      case hy310 => (refine Or.inl ⟨by rfl, ?_⟩; intro wq hSw; (try dsimp only at hSw); go_simp; (try simp only [if_neg hx]); (try with_reducible rfl))
      (try simp only [Act.put, List.setIfInBounds_toArray, List.set_cons_zero, List.set_cons_succ])
      refine wpAnyT_take (i := 10) (oi := ?oi311) (v := ?v311) ?hi311 (by kernel_rfl) (by kernel_rfl) (by kernel_rfl) (by kernel_rfl) (by kernel_rfl) ?hQ311 ?hy311 (by assumption) ?_
      case hi311 => (simp only [List.getElem?_toArray, List.getElem?_cons_succ, List.getElem?_cons_zero]; try rfl)
      case hQ311 => exact fun _ _ _ h => h
      case hy311 => (refine Or.inl ⟨by rfl, ?_⟩; intro wq hSw; (try dsimp only at hSw); go_simp; (try simp only [if_neg hx]); (try with_reducible rfl))
      (try simp only [Act.put, List.setIfInBounds_toArray, List.set_cons_zero, List.set_cons_succ])
      refine wpAnyT_take (i := 11) (oi := ?oi312) (v := ?v312) ?hi312 (by kernel_rfl) (by kernel_rfl) (by kernel_rfl) (by kernel_rfl) (by kernel_rfl) ?hQ312 ?hy312 (by assumption) ?_
      case hi312 => (simp only [List.getElem?_toArray, List.getElem?_cons_succ, List.getElem?_cons_zero]; try rfl)
      case hQ312 => exact fun _ _ _ h => h
      case hy312 => (refine Or.inl ⟨by rfl, ?_⟩; intro wq hSw; (try dsimp only at hSw); go_simp; (try simp only [if_neg hx]); (try with_reducible rfl))
      (try simp only [Act.put, List.setIfInBounds_toArray, List.set_cons_zero, List.set_cons_succ])
      refine wpAnyT_ready (rs := [12]) (by kernel_rfl) (by simp) ?_
      refine AllReadyT.last (o := ?oi313) ?hi313 ?ti313
      case hi313 => (simp only [List.getElem?_toArray, List.getElem?_cons_succ, List.getElem?_cons_zero]; try rfl)
      case ti313 =>
        intro KQ hKQ
        go_simp
        (repeat (simp only [go_sem, ↓IntWalk.iteOmega, ↓reduceIte, Bool.false_eq_true]; (try go_simp)))
        refine hKQ.out _ _ ?_
        clear hKQ KQ hHeld
        (try simp only [Act.put, List.setIfInBounds_toArray, List.set_cons_zero, List.set_cons_succ])
        refine wpAnyT_done (by kernel_rfl) ?_ _
        go_wp2
        refine bodyPost_end (v := .tuple #[]) ?_ rfl ⟨rfl, ?_, ?_⟩
        · simp [results, Try.results77, go_sem]
        · rw [HMX.out]
          exact HK3.out.ext (by repeat (first | exact Ext.refl' _ | assumption | apply Ext.ex' | apply Ext.al | apply Ext.drN | apply Ext.dr))
        · exact HG3.out.tr (Chg.of_ext (by repeat (first | exact Ext.refl' _ | assumption | apply Ext.ex' | apply Ext.al | apply Ext.drN | apply Ext.dr)))


theorem ptI_ne {b c : Nat} (h : b ≠ c) : ptI b ≠ ptI c := by
  unfold ptI
  intro e
  injection e with e
  injection e with e
  injection e with e
  exact h e
theorem p_form (t : AT) : ∃ a, t.p = .pointer a := by cases t <;> exact ⟨_, rfl⟩
theorem p_ne : ∀ {t : AT} {b : Nat}, b ∉ t.foot → t.p ≠ ptI b
  | .nil, b, _ => by unfold ptI; simp [AT.p]
  | .node c x l r h e, b, hn => by
    unfold ptI
    simp only [AT.p, ne_eq, Value.pointer.injEq, Option.some.injEq, Addr.mk.injEq, and_true]
    rintro rfl
    exact hn (by simp [AT.foot])
theorem AT.Ok.bd {t : AT} (h : t.Ok) (k : t.flat.length ≤ 1000000) : 0 ≤ t.ht ∧ t.ht ≤ 1000000 := by
  have := h.ht0
  omega


set_option maxRecDepth 100000 in
set_option maxHeartbeats 8000000 in
theorem rotL_any (b c : Nat) (x y : It) (p q r : AT) (hc ec h e : Int) (w : World) (g : Gd w (.node b x (.node c y p q hc ec) r h e)) (nd : (AT.foot (.node b x (.node c y p q hc ec) r h e)).Nodup) (op : p.Ok) (oq : q.Ok) (or_ : r.Ok) (sz : p.flat.length + q.flat.length + r.flat.length ≤ 900000) :
    Calls Try.prog 79 #[ptI b, .bool true] w fun en w' => ∃ h1 e1 h2 e2, en = .returned (ptI c) ∧ Gd w' (.node c y p (.node b x q r h1 e1) h2 e2) ∧ AT.Ok (.node c y p (.node b x q r h1 e1) h2 e2) ∧ Chg [b, c] w w' := by
  simp only [AT.foot, List.nodup_cons, List.nodup_append, List.mem_cons, List.mem_append, not_or] at nd
  have nbc : b ≠ c := by grind
  have nbp : b ∉ p.foot := by grind
  have nbq : b ∉ q.foot := by grind
  have nbr : b ∉ r.foot := by grind
  have ncp : c ∉ p.foot := by grind
  have ncq : c ∉ q.foot := by grind
  have ncr : c ∉ r.foot := by grind
  obtain ⟨kb, ⟨kc, gp, gq⟩, gr⟩ := g
  have kb : NdI w b x (ptI c) r.p h e := kb
  obtain ⟨W1, s1, k1, g1⟩ := kb.set3 q.p
  have kc1 := kc.chg g1 (by simpa using fun h => nbc h.symm)
  obtain ⟨W2, s2, k2, g2⟩ := kc1.set4 (ptI b)
  have kb2 := k1.chg g2 (by simpa using nbc)
  have g12 : Chg [b, c] w W2 := (g1.mono (by simp)).tr (g2.mono (by simp))
  have gp2 := gp.chg g12 (by simp; grind)
  have gq2 := gq.chg g12 (by simp; grind)
  have gr2 := gr.chg g12 (by simp; grind)
  have bp := op.bd (by omega)
  have bq := oq.bd (by omega)
  have br := or_.bd (by omega)
  have HF1 := Lib.hid (fix_any b x q.p r.p h e _ _ _ _ W2 kb2 gq2.lev gr2.lev (by omega) (by omega) (p_ne nbq) (p_ne nbr))
  obtain ⟨hltb, -, -, -, cb3, cb4, -, -, fb3, fb4, -, -⟩ := kb.f
  obtain ⟨hltc, -, -, -, cc3, cc4, -, -, -, -, -, -⟩ := kc.f
  obtain ⟨hltc1, -, -, -, dc3, dc4, -, -, fc3, fc4, -, -⟩ := kc1.f
  have HK2 := Lib.hid k2
  have HG := Lib.hid (And.intro gp2 (And.intro gq2 gr2))
  have HG12 := Lib.hid g12
  have HN := Lib.hid (And.intro nbc (And.intro nbp (And.intro nbq (And.intro nbr (And.intro ncp (And.intro ncq ncr))))))
  have HO := Lib.hid (And.intro op (And.intro oq or_))
  have HB := Lib.hid (And.intro bp (And.intro bq br))
  clear nd nbp nbq nbr ncp ncq ncr kb kc gp gq gr k1 g1 kc1 k2 g2 kb2 g12 gp2 gq2 gr2 bp bq br op oq or_ sz
  obtain ⟨qa, hqa⟩ := p_form q
  rw [hqa] at s1 cc4 dc4
  have HQ := Lib.hid hqa
  clear hqa
  unfold ptI at *
  go_enter Try.func79, Try.ntmps79
  go_wp2_with fail
  refine Calls.mono HF1.out ?_
  rintro e1 w3 ⟨rfl, k3, g3⟩
  have HK3 := Lib.hid k3
  have HG3 := Lib.hid g3
  have HF2 := Lib.hid (by
    have kc3 := HK2.out.chg g3 (by simpa using fun h => HN.out.1 h.symm)
    exact fix_any c y p.p (ptI b) hc ec _ _ _ _ w3 kc3 (HG.out.1.chg g3 (by simp; exact fun k hk h => HN.out.2.1 (h ▸ hk))).lev (.inr ⟨b, rfl, k3.f.lt, k3.f.c5, k3.f.c6⟩) (by have := HB.out; omega) (by have := HB.out; omega) (p_ne HN.out.2.2.2.2.1) (ptI_ne HN.out.1))
  unfold ptI at HF2
  clear k3 g3
  go_wp2_with fail
  refine Calls.mono HF2.out ?_
  rintro e2 w4 ⟨rfl, k4, g4⟩
  have HK4 := Lib.hid k4
  have HG4 := Lib.hid g4
  clear k4 g4
  go_wp2
  go_ret
  obtain ⟨n1, n2, n3, n4, n5, n6, n7⟩ := HN.out
  obtain ⟨o1, o2, o3⟩ := HO.out
  obtain ⟨u1, u2, u3⟩ := HG.out
  have g34 : Chg [b, c] W2 w4 := (HG3.out.mono (by simp)).tr (HG4.out.mono (by simp))
  have v1 := u1.chg g34 (by simp; grind)
  have v2 := u2.chg g34 (by simp; grind)
  have v3 := u3.chg g34 (by simp; grind)
  have kb4 := HK3.out.chg HG4.out (by simpa using n1)
  exact ⟨_, _, _, _, rfl, ⟨HK4.out, v1, kb4, v2, v3⟩, ⟨o1, ⟨o2, o3, rfl, rfl⟩, rfl, rfl⟩, HG12.out.tr g34⟩


set_option maxRecDepth 100000 in
set_option maxHeartbeats 8000000 in
theorem rotR_any (b c : Nat) (x y : It) (p q r : AT) (hc ec h e : Int) (w : World) (g : Gd w (.node b x r (.node c y q p hc ec) h e)) (nd : (AT.foot (.node b x r (.node c y q p hc ec) h e)).Nodup) (op : p.Ok) (oq : q.Ok) (or_ : r.Ok) (sz : p.flat.length + q.flat.length + r.flat.length ≤ 900000) :
    Calls Try.prog 79 #[ptI b, .bool false] w fun en w' => ∃ h1 e1 h2 e2, en = .returned (ptI c) ∧ Gd w' (.node c y (.node b x r q h1 e1) p h2 e2) ∧ AT.Ok (.node c y (.node b x r q h1 e1) p h2 e2) ∧ Chg [b, c] w w' := by
  simp only [AT.foot, List.nodup_cons, List.nodup_append, List.mem_cons, List.mem_append, not_or] at nd
  have nbc : b ≠ c := by grind
  have nbp : b ∉ p.foot := by grind
  have nbq : b ∉ q.foot := by grind
  have nbr : b ∉ r.foot := by grind
  have ncp : c ∉ p.foot := by grind
  have ncq : c ∉ q.foot := by grind
  have ncr : c ∉ r.foot := by grind
  obtain ⟨kb, gr, ⟨kc, gq, gp⟩⟩ := g
  have kb : NdI w b x r.p (ptI c) h e := kb
  obtain ⟨W1, s1, k1, g1⟩ := kb.set4 q.p
  have kc1 := kc.chg g1 (by simpa using fun h => nbc h.symm)
  obtain ⟨W2, s2, k2, g2⟩ := kc1.set3 (ptI b)
  have kb2 := k1.chg g2 (by simpa using nbc)
  have g12 : Chg [b, c] w W2 := (g1.mono (by simp)).tr (g2.mono (by simp))
  have gp2 := gp.chg g12 (by simp; grind)
  have gq2 := gq.chg g12 (by simp; grind)
  have gr2 := gr.chg g12 (by simp; grind)
  have bp := op.bd (by omega)
  have bq := oq.bd (by omega)
  have br := or_.bd (by omega)
  have HF1 := Lib.hid (fix_any b x r.p q.p h e _ _ _ _ W2 kb2 gr2.lev gq2.lev (by omega) (by omega) (p_ne nbr) (p_ne nbq))
  obtain ⟨hltb, -, -, -, cb3, cb4, -, -, fb3, fb4, -, -⟩ := kb.f
  obtain ⟨hltc, -, -, -, cc3, cc4, -, -, -, -, -, -⟩ := kc.f
  obtain ⟨hltc1, -, -, -, dc3, dc4, -, -, fc3, fc4, -, -⟩ := kc1.f
  have HK2 := Lib.hid k2
  have HG := Lib.hid (And.intro gp2 (And.intro gq2 gr2))
  have HG12 := Lib.hid g12
  have HN := Lib.hid (And.intro nbc (And.intro nbp (And.intro nbq (And.intro nbr (And.intro ncp (And.intro ncq ncr))))))
  have HO := Lib.hid (And.intro op (And.intro oq or_))
  have HB := Lib.hid (And.intro bp (And.intro bq br))
  clear nd nbp nbq nbr ncp ncq ncr kb kc gp gq gr k1 g1 kc1 k2 g2 kb2 g12 gp2 gq2 gr2 bp bq br op oq or_ sz
  obtain ⟨qa, hqa⟩ := p_form q
  rw [hqa] at s1 cc3 dc3
  have HQ := Lib.hid hqa
  clear hqa
  unfold ptI at *
  go_enter Try.func79, Try.ntmps79
  go_wp2_with fail
  refine Calls.mono HF1.out ?_
  rintro e1 w3 ⟨rfl, k3, g3⟩
  have HK3 := Lib.hid k3
  have HG3 := Lib.hid g3
  have HF2 := Lib.hid (by
    have kc3 := HK2.out.chg g3 (by simpa using fun h => HN.out.1 h.symm)
    exact fix_any c y (ptI b) p.p hc ec _ _ _ _ w3 kc3 (.inr ⟨b, rfl, k3.f.lt, k3.f.c5, k3.f.c6⟩) (HG.out.1.chg g3 (by simp; exact fun k hk h => HN.out.2.1 (h ▸ hk))).lev (by have := HB.out; omega) (by have := HB.out; omega) (ptI_ne HN.out.1) (p_ne HN.out.2.2.2.2.1))
  unfold ptI at HF2
  clear k3 g3
  go_wp2_with fail
  refine Calls.mono HF2.out ?_
  rintro e2 w4 ⟨rfl, k4, g4⟩
  have HK4 := Lib.hid k4
  have HG4 := Lib.hid g4
  clear k4 g4
  go_wp2
  go_ret
  obtain ⟨n1, n2, n3, n4, n5, n6, n7⟩ := HN.out
  obtain ⟨o1, o2, o3⟩ := HO.out
  obtain ⟨u1, u2, u3⟩ := HG.out
  have g34 : Chg [b, c] W2 w4 := (HG3.out.mono (by simp)).tr (HG4.out.mono (by simp))
  have v1 := u1.chg g34 (by simp; grind)
  have v2 := u2.chg g34 (by simp; grind)
  have v3 := u3.chg g34 (by simp; grind)
  have kb4 := HK3.out.chg HG4.out (by simpa using n1)
  exact ⟨_, _, _, _, rfl, ⟨HK4.out, ⟨kb4, v3, v2⟩, v1⟩, ⟨⟨o3, o2, rfl, rfl⟩, o1, rfl, rfl⟩, HG12.out.tr g34⟩

end Go.Proofs.Ytahmkinppighkaa
