/- Lemmas for the rows: ItB ItC ItD. -/
import Derived.Test.YtdiaecgpjgdkdaaGreatThS09
import Derived.Test.YtdiaecgpjgdkdaaGreatThS07
set_option linter.unusedSimpArgs false
set_option linter.unusedVariables false
namespace Go.Proofs.YtdiaecgpjgdkdaaGreat
open Go.RowKit

theorem LvI.chg {w w' : World} {p : Value} {h e : Int} {S : List Nat} (k : LvI w p h e) (c : Chg S w w') (hn : ∀ b ∈ S, p ≠ ptI b) : LvI w' p h e := by
 rcases k with k | ⟨b, h1, h2, h3, h4⟩
 ·
  exact .inl k
 ·
  have hb : b ∉ S := fun hb => hn b hb h1
  have e := c.same b h2 hb
  exact .inr ⟨b, h1, Nat.lt_of_lt_of_le h2 c.size, (World.cell?_of_block e).trans h3, (World.cell?_of_block e).trans h4⟩
set_option maxRecDepth 100000 in
set_option maxHeartbeats 8000000 in
theorem fix_any (b : Nat) (x : It) (L R : Value) (h e hl el hr er : Int) (w : World) (k : NdI w b x L R h e) (kl : LvI w L hl el) (kr : LvI w R hr er) (bl : 0 ≤ hl ∧ hl ≤ 1000001) (br : 0 ≤ hr ∧ hr ≤ 1000001) (nl : L ≠ ptI b) (nr : R ≠ ptI b) :
  Calls Tryz.prog 124 #[ptI b] w fun en w' => en = .returned (.tuple #[]) ∧ NdI w' b x L R (1 + max hl hr) (max x.1.2 (max el er)) ∧ Chg [b] w w' := by
 have HM1 := Lib.hid fun W (e : Ext w W) => meas_levels b L R hl el hr er W (k.ext e).f.lt (k.ext e).f.c3 (k.ext e).f.c4 (kl.ext e) (kr.ext e)
 obtain ⟨m1, hm1⟩ : ∃ m, max hl hr = m := ⟨_, rfl⟩
 obtain ⟨m2, hm2⟩ : ∃ m, max el er = m := ⟨_, rfl⟩
 have hmb : 0 ≤ m1 ∧ m1 ≤ 4611686018427387904 := by omega
 obtain ⟨w2, s5, k2, g2⟩ := k.set5 (1 + m1)
 have HM2 := Lib.hid fun W (e : Ext w2 W) => meas_last b L R hl el hr er W (k2.ext e).f.lt (k2.ext e).f.c3 (k2.ext e).f.c4 ((kl.chg g2 (by simpa using nl)).ext e) ((kr.chg g2 (by simpa using nr)).ext e)
 rw [hm1] at HM1 ⊢
 rw [hm2] at HM2 ⊢
 obtain ⟨hlt0, -, -, -, -, -, d5, -, -, -, z5, -⟩ := k.f
 obtain ⟨hlt2, -, c1, -, -, -, -, d6, -, -, -, z6⟩ := k2.f
 have hw : wrap64 (1 + m1) = 1 + m1 := IntWalk.wrap64_in _ ⟨by omega, by omega⟩
 by_cases hx : x.1.2 < m2
 ·
  obtain ⟨w3, s6, k3, g3⟩ := k2.set6 m2
  have HMX : Hid (max x.1.2 m2 = m2) := Lib.hid (by omega)
  have HK3 := Lib.hid k3
  have HG3 := Lib.hid (g2.tr g3)
  clear k kl kr nl nr hm1 hm2 k2 g2 k3 g3
  unfold ptI
  go_enter Tryz.func124, Tryz.ntmps124
  go_wp2_with fail
  refine (HM1.out _ (ex_)).mono ?_
  rintro e1 w1 ⟨rfl, hb1⟩
  obtain ⟨x1, rfl⟩ := hb1.get
  clear hb1
  go_wp2_with fail
  refine wp_region_T 12 (S := (fun w' => w'.cell? ⟨b, 1, none⟩ = some (.int .i64 x.1.2))) (by kernel_rfl) (by simp [go_sem, ↓IntWalk.iteOmega, *]) (fun hHeld => ?_)
  refine tkT 0 ?oi101 (?v101) ?hi101 ?hy101 ?_
  case hi101 => (simp only [gA, gS, gZ]; try rfl)
  case hy101 => (refine Or.inl ⟨by rfl, ?_⟩; intro wq hSw; (try dsimp only at hSw); go_simp; (try simp only [if_pos hx]); (try with_reducible rfl))
  (try simp only [Act.put, pA, pZ, pS])
  refine tkT 1 ?oi102 (?v102) ?hi102 ?hy102 ?_
  case hi102 => (simp only [gA, gS, gZ]; try rfl)
  case hy102 => (refine Or.inl ⟨by rfl, ?_⟩; intro wq hSw; (try dsimp only at hSw); go_simp; (try simp only [if_pos hx]); (try with_reducible rfl))
  (try simp only [Act.put, pA, pZ, pS])
  refine tkT 2 ?oi103 (?v103) ?hi103 ?hy103 ?_
  case hi103 => (simp only [gA, gS, gZ]; try rfl)
  case hy103 => (refine Or.inl ⟨by rfl, ?_⟩; intro wq hSw; (try dsimp only at hSw); go_simp; (try simp only [if_pos hx]); (try with_reducible rfl))
  (try simp only [Act.put, pA, pZ, pS])
  refine tkT 3 ?oi104 (?v104) ?hi104 ?hy104 ?_
  case hi104 => (simp only [gA, gS, gZ]; try rfl)
  case hy104 => (refine Or.inl ⟨by rfl, ?_⟩; intro wq hSw; (try dsimp only at hSw); go_simp; (try simp only [if_pos hx]); (try with_reducible rfl))
  (try simp only [Act.put, pA, pZ, pS])
  refine tkT 4 ?oi105 (?v105) ?hi105 ?hy105 ?_
  case hi105 => (simp only [gA, gS, gZ]; try rfl)
  case hy105 => (refine Or.inl ⟨by rfl, ?_⟩; intro wq hSw; (try dsimp only at hSw); go_simp; (try simp only [if_pos hx]); (try with_reducible rfl))
  (try simp only [Act.put, pA, pZ, pS])
  refine tkT 5 ?oi106 (?v106) ?hi106 ?hy106 ?_
  case hi106 => (simp only [gA, gS, gZ]; try rfl)
  case hy106 => (refine Or.inl ⟨by rfl, ?_⟩; intro wq hSw; (try dsimp only at hSw); go_simp; (try simp only [if_pos hx]); (try with_reducible rfl))
  (try simp only [Act.put, pA, pZ, pS])
  refine tkT 6 ?oi107 (?v107) ?hi107 ?hy107 ?_
  case hi107 => (simp only [gA, gS, gZ]; try rfl)
  case hy107 => (refine Or.inl ⟨by rfl, ?_⟩; intro wq hSw; (try dsimp only at hSw); go_simp; (try simp only [if_pos hx]); (try with_reducible rfl))
  (try simp only [Act.put, pA, pZ, pS])
  refine tkT 7 ?oi108 (?v108) ?hi108 ?hy108 ?_
  case hi108 => (simp only [gA, gS, gZ]; try rfl)
  case hy108 => (refine Or.inl ⟨by rfl, ?_⟩; intro wq hSw; (try dsimp only at hSw); go_simp; (try simp only [if_pos hx]); (try with_reducible rfl))
  (try simp only [Act.put, pA, pZ, pS])
  refine wpAnyT_ready (rs := [8]) (by kernel_rfl) (by simp) ?_
  refine AllReadyT.cons (o := ?oi109) ?hi109 ?ti109 AllReadyT.nil
  case hi109 => (simp only [gA, gS, gZ]; try rfl)
  case ti109 =>
   intro KQ hKQ
   go_simp
   go_at_call 149
   refine Calls.mono (HM2.out _ (ex_)) ?_
   rintro e w4 ⟨rfl, hb4⟩
   obtain ⟨x4, rfl⟩ := hb4.get
   clear hb4
   refine hKQ.out _ _ (by simp [go_sem, ↓IntWalk.iteOmega, *]) (fun hHeld2 => ?_)
   clear hHeld hKQ KQ; have hHeld := hHeld2; clear hHeld2
   (try simp only [Act.put, pA, pZ, pS])
   refine tkT 9 ?oi110 (?v110) ?hi110 ?hy110 ?_
   case hi110 => (simp only [gA, gS, gZ]; try rfl)
   case hy110 => (refine Or.inl ⟨by rfl, ?_⟩; intro wq hSw; (try dsimp only at hSw); go_simp; (try simp only [if_pos hx]); (try with_reducible rfl))
   (try simp only [Act.put, pA, pZ, pS])
   refine tkT 10 ?oi111 (?v111) ?hi111 ?hy111 ?_
   case hi111 => (simp only [gA, gS, gZ]; try rfl)
   case hy111 => (refine Or.inl ⟨by rfl, ?_⟩; intro wq hSw; (try dsimp only at hSw); go_simp; (try simp only [if_pos hx]); (try with_reducible rfl))
   (try simp only [Act.put, pA, pZ, pS])
   refine tkT 11 ?oi112 (?v112) ?hi112 ?hy112 ?_
   case hi112 => (simp only [gA, gS, gZ]; try rfl)
   case hy112 => (refine Or.inl ⟨by rfl, ?_⟩; intro wq hSw; (try dsimp only at hSw); go_simp; (try simp only [if_pos hx]); (try with_reducible rfl))
   (try simp only [Act.put, pA, pZ, pS])
   refine wpAnyT_ready (rs := [12]) (by kernel_rfl) (by simp) ?_
   refine AllReadyT.last (o := ?oi113) ?hi113 ?ti113
   case hi113 => (simp only [gA, gS, gZ]; try rfl)
   case ti113 =>
    intro KQ hKQ
    go_simp
    (repeat (simp only [go_sem, ↓IntWalk.iteOmega, ↓reduceIte, Bool.false_eq_true]; (try go_simp)))
    refine hKQ.out _ _ ?_
    clear hKQ KQ hHeld
    (try simp only [Act.put, pA, pZ, pS])
    refine wpAnyT_done (by kernel_rfl) ?_ _
    go_wp2
    refine bodyPost_end (v := .tuple #[]) ?_ rfl ⟨rfl, ?_, ?_⟩
    ·
     simp [results, Tryz.results124, go_sem]
    ·
     rw [HMX.out]
     exact HK3.out.ext (ex_)
    ·
     exact HG3.out.tr (Chg.of_ext (ex_))
 ·
  obtain ⟨w3, s6, k3, g3⟩ := k2.set6 x.1.2
  have HMX : Hid (max x.1.2 m2 = x.1.2) := Lib.hid (by omega)
  have HK3 := Lib.hid k3
  have HG3 := Lib.hid (g2.tr g3)
  clear k kl kr nl nr hm1 hm2 k2 g2 k3 g3
  unfold ptI
  go_enter Tryz.func124, Tryz.ntmps124
  go_wp2_with fail
  refine (HM1.out _ (ex_)).mono ?_
  rintro e1 w1 ⟨rfl, hb1⟩
  obtain ⟨x1, rfl⟩ := hb1.get
  clear hb1
  go_wp2_with fail
  refine wp_region_T 12 (S := (fun w' => w'.cell? ⟨b, 1, none⟩ = some (.int .i64 x.1.2))) (by kernel_rfl) (by simp [go_sem, ↓IntWalk.iteOmega, *]) (fun hHeld => ?_)
  refine tkT 0 ?oi301 (?v301) ?hi301 ?hy301 ?_
  case hi301 => (simp only [gA, gS, gZ]; try rfl)
  case hy301 => (refine Or.inl ⟨by rfl, ?_⟩; intro wq hSw; (try dsimp only at hSw); go_simp; (try simp only [if_neg hx]); (try with_reducible rfl))
  (try simp only [Act.put, pA, pZ, pS])
  refine tkT 1 ?oi302 (?v302) ?hi302 ?hy302 ?_
  case hi302 => (simp only [gA, gS, gZ]; try rfl)
  case hy302 => (refine Or.inl ⟨by rfl, ?_⟩; intro wq hSw; (try dsimp only at hSw); go_simp; (try simp only [if_neg hx]); (try with_reducible rfl))
  (try simp only [Act.put, pA, pZ, pS])
  refine tkT 2 ?oi303 (?v303) ?hi303 ?hy303 ?_
  case hi303 => (simp only [gA, gS, gZ]; try rfl)
  case hy303 => (refine Or.inl ⟨by rfl, ?_⟩; intro wq hSw; (try dsimp only at hSw); go_simp; (try simp only [if_neg hx]); (try with_reducible rfl))
  (try simp only [Act.put, pA, pZ, pS])
  refine tkT 3 ?oi304 (?v304) ?hi304 ?hy304 ?_
  case hi304 => (simp only [gA, gS, gZ]; try rfl)
  case hy304 => (refine Or.inl ⟨by rfl, ?_⟩; intro wq hSw; (try dsimp only at hSw); go_simp; (try simp only [if_neg hx]); (try with_reducible rfl))
  (try simp only [Act.put, pA, pZ, pS])
  refine tkT 4 ?oi305 (?v305) ?hi305 ?hy305 ?_
  case hi305 => (simp only [gA, gS, gZ]; try rfl)
  case hy305 => (refine Or.inl ⟨by rfl, ?_⟩; intro wq hSw; (try dsimp only at hSw); go_simp; (try simp only [if_neg hx]); (try with_reducible rfl))
  (try simp only [Act.put, pA, pZ, pS])
  refine tkT 5 ?oi306 (?v306) ?hi306 ?hy306 ?_
  case hi306 => (simp only [gA, gS, gZ]; try rfl)
  case hy306 => (refine Or.inl ⟨by rfl, ?_⟩; intro wq hSw; (try dsimp only at hSw); go_simp; (try simp only [if_neg hx]); (try with_reducible rfl))
  (try simp only [Act.put, pA, pZ, pS])
  refine tkT 6 ?oi307 (?v307) ?hi307 ?hy307 ?_
  case hi307 => (simp only [gA, gS, gZ]; try rfl)
  case hy307 => (refine Or.inl ⟨by rfl, ?_⟩; intro wq hSw; (try dsimp only at hSw); go_simp; (try simp only [if_neg hx]); (try with_reducible rfl))
  (try simp only [Act.put, pA, pZ, pS])
  refine tkT 7 ?oi308 (?v308) ?hi308 ?hy308 ?_
  case hi308 => (simp only [gA, gS, gZ]; try rfl)
  case hy308 => (refine Or.inl ⟨by rfl, ?_⟩; intro wq hSw; (try dsimp only at hSw); go_simp; (try simp only [if_neg hx]); (try with_reducible rfl))
  (try simp only [Act.put, pA, pZ, pS])
  refine wpAnyT_ready (rs := [8]) (by kernel_rfl) (by simp) ?_
  refine AllReadyT.cons (o := ?oi309) ?hi309 ?ti309 AllReadyT.nil
  case hi309 => (simp only [gA, gS, gZ]; try rfl)
  case ti309 =>
   intro KQ hKQ
   go_simp
   go_at_call 149
   refine Calls.mono (HM2.out _ (ex_)) ?_
   rintro e w4 ⟨rfl, hb4⟩
   obtain ⟨x4, rfl⟩ := hb4.get
   clear hb4
   refine hKQ.out _ _ (by simp [go_sem, ↓IntWalk.iteOmega, *]) (fun hHeld2 => ?_)
   clear hHeld hKQ KQ; have hHeld := hHeld2; clear hHeld2
   (try simp only [Act.put, pA, pZ, pS])
   refine tkT 9 ?oi310 (?v310) ?hi310 ?hy310 ?_
   case hi310 => (simp only [gA, gS, gZ]; try rfl)
   case hy310 => (refine Or.inl ⟨by rfl, ?_⟩; intro wq hSw; (try dsimp only at hSw); go_simp; (try simp only [if_neg hx]); (try with_reducible rfl))
   (try simp only [Act.put, pA, pZ, pS])
   refine tkT 10 ?oi311 (?v311) ?hi311 ?hy311 ?_
   case hi311 => (simp only [gA, gS, gZ]; try rfl)
   case hy311 => (refine Or.inl ⟨by rfl, ?_⟩; intro wq hSw; (try dsimp only at hSw); go_simp; (try simp only [if_neg hx]); (try with_reducible rfl))
   (try simp only [Act.put, pA, pZ, pS])
   refine tkT 11 ?oi312 (?v312) ?hi312 ?hy312 ?_
   case hi312 => (simp only [gA, gS, gZ]; try rfl)
   case hy312 => (refine Or.inl ⟨by rfl, ?_⟩; intro wq hSw; (try dsimp only at hSw); go_simp; (try simp only [if_neg hx]); (try with_reducible rfl))
   (try simp only [Act.put, pA, pZ, pS])
   refine wpAnyT_ready (rs := [12]) (by kernel_rfl) (by simp) ?_
   refine AllReadyT.last (o := ?oi313) ?hi313 ?ti313
   case hi313 => (simp only [gA, gS, gZ]; try rfl)
   case ti313 =>
    intro KQ hKQ
    go_simp
    (repeat (simp only [go_sem, ↓IntWalk.iteOmega, ↓reduceIte, Bool.false_eq_true]; (try go_simp)))
    refine hKQ.out _ _ ?_
    clear hKQ KQ hHeld
    (try simp only [Act.put, pA, pZ, pS])
    refine wpAnyT_done (by kernel_rfl) ?_ _
    go_wp2
    refine bodyPost_end (v := .tuple #[]) ?_ rfl ⟨rfl, ?_, ?_⟩
    ·
     simp [results, Tryz.results124, go_sem]
    ·
     rw [HMX.out]
     exact HK3.out.ext (ex_)
    ·
     exact HG3.out.tr (Chg.of_ext (ex_))

theorem ptI_ne {b c : Nat} (h : b ≠ c) : ptI b ≠ ptI c := by
 unfold ptI
 intro e
 injection e with e
 injection e with e
 injection e with e
 exact h e
theorem p_form (t : AT) : ∃ a, t.p = .pointer a := by cases t <;> exact ⟨_, rfl⟩
theorem p_ne : ∀ {t : AT} {b : Nat}, b ∉ t.foot → t.p ≠ ptI b
 | .nil, b, _ => by unfold ptI; simp [AT.p]
 | .node c x l r h e, b, hn => by
  unfold ptI
  simp only [AT.p, ne_eq, Value.pointer.injEq, Option.some.injEq, Addr.mk.injEq, and_true]
  rintro rfl
  exact hn (by simp [AT.foot])
theorem AT.Ok.bd {t : AT} (h : t.Ok) (k : t.flat.length ≤ 1000000) : 0 ≤ t.ht ∧ t.ht ≤ 1000000 := by
 have := h.ht0
 omega

set_option maxRecDepth 100000 in
set_option maxHeartbeats 8000000 in
theorem rotL_any (b c : Nat) (x y : It) (p q r : AT) (hc ec h e : Int) (w : World) (g : Gd w (.node b x (.node c y p q hc ec) r h e)) (nd : (AT.foot (.node b x (.node c y p q hc ec) r h e)).Nodup) (op : p.Ok) (oq : q.Ok) (or_ : r.Ok) (sz : p.flat.length + q.flat.length + r.flat.length ≤ 900000) :
  Calls Tryz.prog 126 #[ptI b, .bool true] w fun en w' => ∃ h1 e1 h2 e2, en = .returned (ptI c) ∧ Gd w' (.node c y p (.node b x q r h1 e1) h2 e2) ∧ AT.Ok (.node c y p (.node b x q r h1 e1) h2 e2) ∧ Chg [b, c] w w' := by
 simp only [AT.foot, List.nodup_cons, List.nodup_append, List.mem_cons, List.mem_append, not_or] at nd
 have nbc : b ≠ c := by grind
 have nbp : b ∉ p.foot := by grind
 have nbq : b ∉ q.foot := by grind
 have nbr : b ∉ r.foot := by grind
 have ncp : c ∉ p.foot := by grind
 have ncq : c ∉ q.foot := by grind
 have ncr : c ∉ r.foot := by grind
 obtain ⟨kb, ⟨kc, gp, gq⟩, gr⟩ := g
 have kb : NdI w b x (ptI c) r.p h e := kb
 obtain ⟨W1, s1, k1, g1⟩ := kb.set3 q.p
 have kc1 := kc.chg g1 (by simpa using fun h => nbc h.symm)
 obtain ⟨W2, s2, k2, g2⟩ := kc1.set4 (ptI b)
 have kb2 := k1.chg g2 (by simpa using nbc)
 have g12 : Chg [b, c] w W2 := (g1.mono (by simp)).tr (g2.mono (by simp))
 have gp2 := gp.chg g12 (by simp; grind)
 have gq2 := gq.chg g12 (by simp; grind)
 have gr2 := gr.chg g12 (by simp; grind)
 have bp := op.bd (by omega)
 have bq := oq.bd (by omega)
 have br := or_.bd (by omega)
 have HF1 := Lib.hid (fix_any b x q.p r.p h e _ _ _ _ W2 kb2 gq2.lev gr2.lev (by omega) (by omega) (p_ne nbq) (p_ne nbr))
 obtain ⟨hltb, -, -, -, cb3, cb4, -, -, fb3, fb4, -, -⟩ := kb.f
 obtain ⟨hltc, -, -, -, cc3, cc4, -, -, -, -, -, -⟩ := kc.f
 obtain ⟨hltc1, -, -, -, dc3, dc4, -, -, fc3, fc4, -, -⟩ := kc1.f
 have HK2 := Lib.hid k2
 have HG := Lib.hid (And.intro gp2 (And.intro gq2 gr2))
 have HG12 := Lib.hid g12
 have HN := Lib.hid (And.intro nbc (And.intro nbp (And.intro nbq (And.intro nbr (And.intro ncp (And.intro ncq ncr))))))
 have HO := Lib.hid (And.intro op (And.intro oq or_))
 have HB := Lib.hid (And.intro bp (And.intro bq br))
 clear nd nbp nbq nbr ncp ncq ncr kb kc gp gq gr k1 g1 kc1 k2 g2 kb2 g12 gp2 gq2 gr2 bp bq br op oq or_ sz
 obtain ⟨qa, hqa⟩ := p_form q
 rw [hqa] at s1 cc4 dc4
 have HQ := Lib.hid hqa
 clear hqa
 unfold ptI at *
 go_enter Tryz.func126, Tryz.ntmps126
 go_wp2_with fail
 refine Calls.mono HF1.out ?_
 rintro e1 w3 ⟨rfl, k3, g3⟩
 have HK3 := Lib.hid k3
 have HG3 := Lib.hid g3
 have HF2 := Lib.hid (by
  have kc3 := HK2.out.chg g3 (by simpa using fun h => HN.out.1 h.symm)
  exact fix_any c y p.p (ptI b) hc ec _ _ _ _ w3 kc3 (HG.out.1.chg g3 (by simp; exact fun k hk h => HN.out.2.1 (h ▸ hk))).lev (.inr ⟨b, rfl, k3.f.lt, k3.f.c5, k3.f.c6⟩) (by have := HB.out; omega) (by have := HB.out; omega) (p_ne HN.out.2.2.2.2.1) (ptI_ne HN.out.1))
 unfold ptI at HF2
 clear k3 g3
 go_wp2_with fail
 refine Calls.mono HF2.out ?_
 rintro e2 w4 ⟨rfl, k4, g4⟩
 have HK4 := Lib.hid k4
 have HG4 := Lib.hid g4
 clear k4 g4
 go_wp2
 go_ret
 obtain ⟨n1, n2, n3, n4, n5, n6, n7⟩ := HN.out
 obtain ⟨o1, o2, o3⟩ := HO.out
 obtain ⟨u1, u2, u3⟩ := HG.out
 have g34 : Chg [b, c] W2 w4 := (HG3.out.mono (by simp)).tr (HG4.out.mono (by simp))
 have v1 := u1.chg g34 (by simp; grind)
 have v2 := u2.chg g34 (by simp; grind)
 have v3 := u3.chg g34 (by simp; grind)
 have kb4 := HK3.out.chg HG4.out (by simpa using n1)
 exact ⟨_, _, _, _, rfl, ⟨HK4.out, v1, kb4, v2, v3⟩, ⟨o1, ⟨o2, o3, rfl, rfl⟩, rfl, rfl⟩, HG12.out.tr g34⟩

set_option maxRecDepth 100000 in
set_option maxHeartbeats 8000000 in
theorem rotR_any (b c : Nat) (x y : It) (p q r : AT) (hc ec h e : Int) (w : World) (g : Gd w (.node b x r (.node c y q p hc ec) h e)) (nd : (AT.foot (.node b x r (.node c y q p hc ec) h e)).Nodup) (op : p.Ok) (oq : q.Ok) (or_ : r.Ok) (sz : p.flat.length + q.flat.length + r.flat.length ≤ 900000) :
  Calls Tryz.prog 126 #[ptI b, .bool false] w fun en w' => ∃ h1 e1 h2 e2, en = .returned (ptI c) ∧ Gd w' (.node c y (.node b x r q h1 e1) p h2 e2) ∧ AT.Ok (.node c y (.node b x r q h1 e1) p h2 e2) ∧ Chg [b, c] w w' := by
 simp only [AT.foot, List.nodup_cons, List.nodup_append, List.mem_cons, List.mem_append, not_or] at nd
 have nbc : b ≠ c := by grind
 have nbp : b ∉ p.foot := by grind
 have nbq : b ∉ q.foot := by grind
 have nbr : b ∉ r.foot := by grind
 have ncp : c ∉ p.foot := by grind
 have ncq : c ∉ q.foot := by grind
 have ncr : c ∉ r.foot := by grind
 obtain ⟨kb, gr, ⟨kc, gq, gp⟩⟩ := g
 have kb : NdI w b x r.p (ptI c) h e := kb
 obtain ⟨W1, s1, k1, g1⟩ := kb.set4 q.p
 have kc1 := kc.chg g1 (by simpa using fun h => nbc h.symm)
 obtain ⟨W2, s2, k2, g2⟩ := kc1.set3 (ptI b)
 have kb2 := k1.chg g2 (by simpa using nbc)
 have g12 : Chg [b, c] w W2 := (g1.mono (by simp)).tr (g2.mono (by simp))
 have gp2 := gp.chg g12 (by simp; grind)
 have gq2 := gq.chg g12 (by simp; grind)
 have gr2 := gr.chg g12 (by simp; grind)
 have bp := op.bd (by omega)
 have bq := oq.bd (by omega)
 have br := or_.bd (by omega)
 have HF1 := Lib.hid (fix_any b x r.p q.p h e _ _ _ _ W2 kb2 gr2.lev gq2.lev (by omega) (by omega) (p_ne nbr) (p_ne nbq))
 obtain ⟨hltb, -, -, -, cb3, cb4, -, -, fb3, fb4, -, -⟩ := kb.f
 obtain ⟨hltc, -, -, -, cc3, cc4, -, -, -, -, -, -⟩ := kc.f
 obtain ⟨hltc1, -, -, -, dc3, dc4, -, -, fc3, fc4, -, -⟩ := kc1.f
 have HK2 := Lib.hid k2
 have HG := Lib.hid (And.intro gp2 (And.intro gq2 gr2))
 have HG12 := Lib.hid g12
 have HN := Lib.hid (And.intro nbc (And.intro nbp (And.intro nbq (And.intro nbr (And.intro ncp (And.intro ncq ncr))))))
 have HO := Lib.hid (And.intro op (And.intro oq or_))
 have HB := Lib.hid (And.intro bp (And.intro bq br))
 clear nd nbp nbq nbr ncp ncq ncr kb kc gp gq gr k1 g1 kc1 k2 g2 kb2 g12 gp2 gq2 gr2 bp bq br op oq or_ sz
 obtain ⟨qa, hqa⟩ := p_form q
 rw [hqa] at s1 cc3 dc3
 have HQ := Lib.hid hqa
 clear hqa
 unfold ptI at *
 go_enter Tryz.func126, Tryz.ntmps126
 go_wp2_with fail
 refine Calls.mono HF1.out ?_
 rintro e1 w3 ⟨rfl, k3, g3⟩
 have HK3 := Lib.hid k3
 have HG3 := Lib.hid g3
 have HF2 := Lib.hid (by
  have kc3 := HK2.out.chg g3 (by simpa using fun h => HN.out.1 h.symm)
  exact fix_any c y (ptI b) p.p hc ec _ _ _ _ w3 kc3 (.inr ⟨b, rfl, k3.f.lt, k3.f.c5, k3.f.c6⟩) (HG.out.1.chg g3 (by simp; exact fun k hk h => HN.out.2.1 (h ▸ hk))).lev (by have := HB.out; omega) (by have := HB.out; omega) (ptI_ne HN.out.1) (p_ne HN.out.2.2.2.2.1))
 unfold ptI at HF2
 clear k3 g3
 go_wp2_with fail
 refine Calls.mono HF2.out ?_
 rintro e2 w4 ⟨rfl, k4, g4⟩
 have HK4 := Lib.hid k4
 have HG4 := Lib.hid g4
 clear k4 g4
 go_wp2
 go_ret
 obtain ⟨n1, n2, n3, n4, n5, n6, n7⟩ := HN.out
 obtain ⟨o1, o2, o3⟩ := HO.out
 obtain ⟨u1, u2, u3⟩ := HG.out
 have g34 : Chg [b, c] W2 w4 := (HG3.out.mono (by simp)).tr (HG4.out.mono (by simp))
 have v1 := u1.chg g34 (by simp; grind)
 have v2 := u2.chg g34 (by simp; grind)
 have v3 := u3.chg g34 (by simp; grind)
 have kb4 := HK3.out.chg HG4.out (by simpa using n1)
 exact ⟨_, _, _, _, rfl, ⟨HK4.out, ⟨kb4, v3, v2⟩, v1⟩, ⟨⟨o3, o2, rfl, rfl⟩, o1, rfl, rfl⟩, HG12.out.tr g34⟩

end Go.Proofs.YtdiaecgpjgdkdaaGreat

namespace Go.Proofs.YtdiaecgpjgdkdaaGreat
open Go.RowKit

theorem perm_c {l m : List Nat} (h : ∀ a, l.count a = m.count a) : l.Perm m := List.perm_iff_count.2 h
structure BalP (t0 : AT) (w : World) (en : Ending) (w' : World) (t : AT) : Prop where
 ret : en = .returned t.p
 gd : Gd w' t
 ok : t.Ok
 fl : t.flat = t0.flat
 ft : t.foot.Perm t0.foot
 ch : Chg t0.foot w w'
def BalE (t0 : AT) (w : World) (en : Ending) (w' : World) : Prop := ∃ t, BalP t0 w en w' t

set_option maxRecDepth 100000 in
set_option maxHeartbeats 8000000 in
theorem balL2 (b c : Nat) (x y : It) (p q r : AT) (hc ec h e : Int) (w : World) (g : Gd w (.node b x (.node c y p q hc ec) r h e)) (nd : (AT.foot (.node b x (.node c y p q hc ec) r h e)).Nodup) (op : p.Ok) (oq : q.Ok) (or : r.Ok) (ohv : AT.Ok (.node c y p q hc ec)) (sz : p.flat.length + q.flat.length + r.flat.length ≤ 800000) (hd1 : 1 < hc - r.ht) (hd2 : ¬ p.ht < q.ht) :
  Calls Tryz.prog 93 #[ptI b] w (BalE (.node b x (.node c y p q hc ec) r h e) w) := by
 have ND := Lib.hid nd
 simp only [AT.foot, List.nodup_cons, List.nodup_append, List.mem_cons, List.mem_append, not_or] at nd
 have nbc : b ≠ c := by grind
 have nbp : b ∉ p.foot := by grind
 have nbq : b ∉ q.foot := by grind
 have nbr : b ∉ r.foot := by grind
 have ncp : c ∉ p.foot := by grind
 have ncq : c ∉ q.foot := by grind
 have ncr : c ∉ r.foot := by grind
 obtain ⟨kb, ⟨kc, gp, gq⟩, gr⟩ := g
 have kc : NdI w c y p.p q.p hc ec := kc
 have kb : NdI w b x (ptI c) r.p h e := kb
 have bhv := AT.Ok.bd ohv (by simp only [AT.flat, List.length_append, List.length_cons]; omega)
 have bhv : 0 ≤ hc ∧ hc ≤ 1000000 := bhv
 have bp := op.bd (by omega)
 have br := or.bd (by omega)
 have bq := oq.bd (by omega)
 have ghv : Gd w (.node c y p q hc ec) := ⟨kc, gp, gq⟩
 have HF := Lib.hid (fix_any b x (ptI c) r.p h e _ _ _ _ w kb ghv.lev gr.lev (by show 0 ≤ hc ∧ hc ≤ _; omega) (by omega) (ptI_ne (Ne.symm nbc)) (p_ne nbr))
 have HNE : Hid (¬ b = c) := Lib.hid nbc
 have HGV := Lib.hid (And.intro ghv gr)
 have HKC := Lib.hid kc
 have HOHV := Lib.hid ohv
 have HOR := Lib.hid or
 obtain ⟨rh, hrh⟩ : ∃ rh, r.ht = rh := ⟨_, rfl⟩
 obtain ⟨ph, hph⟩ : ∃ ph, p.ht = ph := ⟨_, rfl⟩
 obtain ⟨qh, hqh⟩ : ∃ qh, q.ht = qh := ⟨_, rfl⟩
 obtain ⟨pr, hpr⟩ := p_form r
 obtain ⟨pp, hpp⟩ := p_form p
 obtain ⟨pq, hpq⟩ := p_form q
 have hww : wrap64 (hc - rh) = hc - rh := IntWalk.wrap64_in _ ⟨by omega, by omega⟩
 rw [hrh] at hd1
 rw [hph, hqh] at hd2
 have hlt0 := kb.f.lt
 have HFT : Hid (∀ k ∈ AT.foot (.node c y p q hc ec), k ∉ [b]) := Lib.hid (by simp only [AT.foot, List.mem_cons, List.mem_append, List.not_mem_nil, or_false]; grind)
 clear ghv kb kc nd or ohv
 unfold ptI
 go_enter Tryz.func93, Tryz.ntmps93
 go_wp2_with fail
 refine Calls.mono (show Calls _ _ _ _ _ from HF.out) ?_
 rintro en1 w1 ⟨rfl, k1, g1⟩
 obtain ⟨h1, hh1⟩ : ∃ h1, 1 + max (AT.ht (.node c y p q hc ec)) r.ht = h1 := ⟨_, rfl⟩
 obtain ⟨e1, he1⟩ : ∃ e1, max x.1.2 (max (AT.en (.node c y p q hc ec)) r.en) = e1 := ⟨_, rfl⟩
 rw [hh1, he1] at k1
 have ghv1 := HGV.out.1.chg g1 HFT.out
 have gr1 := HGV.out.2.chg g1 (by simp; exact fun k hk h => nbr (h ▸ hk))
 have kc1 : NdI w1 c y p.p q.p hc ec := HKC.out.chg g1 (by simpa using fun h => nbc h.symm)
 have HLV := Lib.hid fun W (e : Ext w1 W) => levels_any _ _ _ W (ghv1.ext e).lev
 have HLR := Lib.hid fun W (e : Ext w1 W) => levels_any _ _ _ W (gr1.ext e).lev
 have HLP := Lib.hid fun W (e : Ext w1 W) => levels_any _ _ _ W (Gd.lev (t := p) ((ghv1.2.1).ext e))
 have HLQ := Lib.hid fun W (e : Ext w1 W) => levels_any _ _ _ W (Gd.lev (t := q) ((ghv1.2.2).ext e))
 have HGR := Lib.hid gr1
 have HG1 := Lib.hid g1
 have HK1 := Lib.hid k1
 have HGH := Lib.hid ghv1
 have HG1T : Hid (Gd w1 (.node b x (.node c y p q hc ec) r h1 e1)) := Lib.hid ⟨k1, ghv1, gr1⟩
 
 obtain ⟨hlt1, -, -, -, cb3, cb4, -, -, fb3, fb4, -, -⟩ := k1.f
 obtain ⟨hltc, -, -, -, cc3, cc4, -, -, -, -, -, -⟩ := kc1.f
 rw [hpr, hrh] at HLR
 rw [hpp, hph] at HLP
 rw [hpq, hqh] at HLQ
 rw [hpr] at cb4
 rw [hpp] at cc3
 rw [hpq] at cc4
 have HLV : Hid (∀ W, Ext w1 W → Calls Tryz.prog 125 #[.pointer (some ⟨c, 0, none⟩)] W fun en w' => en = .returned (.int .i64 hc) ∧ w' = W) := HLV
 skip
 clear k1 g1 gr1 ghv1 kc1 hpr hpp hrh hph hh1 he1 HF hpq hqh
 unfold ptI at *
 go_wp2_with fail
 refine wp_region_ext (by kernel_rfl) (by kernel_rfl) ?_
 repeat (first | go_big_quiet_step ((go_at_call 125; first | with_reducible exact cret (HLV.out _ (ex_)) | with_reducible exact cret (HLR.out _ (ex_)))) | quiet_step ((go_at_call 125; first | with_reducible exact cret (HLV.out _ (ex_)) | with_reducible exact cret (HLR.out _ (ex_)))))
 refine wpQuiet_nil ?_
 intro _ hw'
 obtain ⟨xq1, hw''⟩ := hw'
 subst hw''
 go_wp2_with fail
 refine wp_region_ext (by kernel_rfl) (by kernel_rfl) ?_
 repeat (first | go_big_quiet_step ((go_at_call 125; first | with_reducible exact cret (HLP.out _ (ex_)) | with_reducible exact cret (HLQ.out _ (ex_)))) | quiet_step ((go_at_call 125; first | with_reducible exact cret (HLP.out _ (ex_)) | with_reducible exact cret (HLQ.out _ (ex_)))))
 refine wpQuiet_nil ?_
 intro _ hw'
 obtain ⟨xq2, hw''⟩ := hw'
 subst hw''
 go_wp2_with fail
 have HW3 : Hid (Gd (ext (ext w1 xq1) xq2) (.node b x (.node c y p q hc ec) r h1 e1)) := Lib.hid (Gd.ext HG1T.out (ex_))
 have HR2 := Lib.hid (rotL_any b c x y p q r hc ec h1 e1 (ext (ext w1 xq1) xq2) HW3.out (by have h := ND.out; simp only [AT.foot] at h ⊢; grind) op oq HOR.out (by omega))
 unfold ptI at HR2
 refine (show Calls _ _ _ _ _ from HR2.out).mono ?_
 rintro en3 w4 ⟨h5, e5, h6, e6, rfl, gF, oF, cF⟩
 have HF := Lib.hid (And.intro gF (And.intro oF cF))
 clear gF oF cF HR2
 go_wp2
 go_ret
 obtain ⟨gF, oF, cF⟩ := HF.out
 have chF : Chg (AT.foot (.node b x (.node c y p q hc ec) r h e)) w w4 := ((HG1.out.mono (by simp [AT.foot])).tr (Chg.of_ext (show Ext w1 (ext (ext w1 xq1) xq2) from ex_))).tr (cF.mono (by simp [AT.foot]))
 exact ⟨(.node c y p (.node b x q r h5 e5) h6 e6), rfl, gF, oF, by simp [AT.flat], perm_c (fun a => by simp [AT.foot, List.count_cons, List.count_append]; omega), chF⟩

set_option maxRecDepth 100000 in
set_option maxHeartbeats 8000000 in
theorem balR2 (b c : Nat) (x y : It) (p q r : AT) (hc ec h e : Int) (w : World) (g : Gd w (.node b x r (.node c y q p hc ec) h e)) (nd : (AT.foot (.node b x r (.node c y q p hc ec) h e)).Nodup) (op : p.Ok) (oq : q.Ok) (or : r.Ok) (ohv : AT.Ok (.node c y q p hc ec)) (sz : p.flat.length + q.flat.length + r.flat.length ≤ 800000) (hd1 : r.ht - hc < -1) (hd2 : ¬ p.ht < q.ht) :
  Calls Tryz.prog 93 #[ptI b] w (BalE (.node b x r (.node c y q p hc ec) h e) w) := by
 have ND := Lib.hid nd
 simp only [AT.foot, List.nodup_cons, List.nodup_append, List.mem_cons, List.mem_append, not_or] at nd
 have nbc : b ≠ c := by grind
 have nbp : b ∉ p.foot := by grind
 have nbq : b ∉ q.foot := by grind
 have nbr : b ∉ r.foot := by grind
 have ncp : c ∉ p.foot := by grind
 have ncq : c ∉ q.foot := by grind
 have ncr : c ∉ r.foot := by grind
 obtain ⟨kb, gr, ⟨kc, gq, gp⟩⟩ := g
 have kc : NdI w c y q.p p.p hc ec := kc
 have kb : NdI w b x r.p (ptI c) h e := kb
 have bhv := AT.Ok.bd ohv (by simp only [AT.flat, List.length_append, List.length_cons]; omega)
 have bhv : 0 ≤ hc ∧ hc ≤ 1000000 := bhv
 have bp := op.bd (by omega)
 have br := or.bd (by omega)
 have bq := oq.bd (by omega)
 have ghv : Gd w (.node c y q p hc ec) := ⟨kc, gq, gp⟩
 have HF := Lib.hid (fix_any b x r.p (ptI c) h e _ _ _ _ w kb gr.lev ghv.lev (by omega) (by show 0 ≤ hc ∧ hc ≤ _; omega) (p_ne nbr) (ptI_ne (Ne.symm nbc)))
 have HNE : Hid (¬ b = c) := Lib.hid nbc
 have HGV := Lib.hid (And.intro ghv gr)
 have HKC := Lib.hid kc
 have HOHV := Lib.hid ohv
 have HOR := Lib.hid or
 obtain ⟨rh, hrh⟩ : ∃ rh, r.ht = rh := ⟨_, rfl⟩
 obtain ⟨ph, hph⟩ : ∃ ph, p.ht = ph := ⟨_, rfl⟩
 obtain ⟨qh, hqh⟩ : ∃ qh, q.ht = qh := ⟨_, rfl⟩
 obtain ⟨pr, hpr⟩ := p_form r
 obtain ⟨pp, hpp⟩ := p_form p
 obtain ⟨pq, hpq⟩ := p_form q
 have hww : wrap64 (rh - hc) = rh - hc := IntWalk.wrap64_in _ ⟨by omega, by omega⟩
 rw [hrh] at hd1
 rw [hph, hqh] at hd2
 have hlt0 := kb.f.lt
 have HFT : Hid (∀ k ∈ AT.foot (.node c y q p hc ec), k ∉ [b]) := Lib.hid (by simp only [AT.foot, List.mem_cons, List.mem_append, List.not_mem_nil, or_false]; grind)
 clear ghv kb kc nd or ohv
 unfold ptI
 go_enter Tryz.func93, Tryz.ntmps93
 go_wp2_with fail
 refine Calls.mono (show Calls _ _ _ _ _ from HF.out) ?_
 rintro en1 w1 ⟨rfl, k1, g1⟩
 obtain ⟨h1, hh1⟩ : ∃ h1, 1 + max r.ht (AT.ht (.node c y q p hc ec)) = h1 := ⟨_, rfl⟩
 obtain ⟨e1, he1⟩ : ∃ e1, max x.1.2 (max r.en (AT.en (.node c y q p hc ec))) = e1 := ⟨_, rfl⟩
 rw [hh1, he1] at k1
 have ghv1 := HGV.out.1.chg g1 HFT.out
 have gr1 := HGV.out.2.chg g1 (by simp; exact fun k hk h => nbr (h ▸ hk))
 have kc1 : NdI w1 c y q.p p.p hc ec := HKC.out.chg g1 (by simpa using fun h => nbc h.symm)
 have HLV := Lib.hid fun W (e : Ext w1 W) => levels_any _ _ _ W (ghv1.ext e).lev
 have HLR := Lib.hid fun W (e : Ext w1 W) => levels_any _ _ _ W (gr1.ext e).lev
 have HLP := Lib.hid fun W (e : Ext w1 W) => levels_any _ _ _ W (Gd.lev (t := p) ((ghv1.2.2).ext e))
 have HLQ := Lib.hid fun W (e : Ext w1 W) => levels_any _ _ _ W (Gd.lev (t := q) ((ghv1.2.1).ext e))
 have HGR := Lib.hid gr1
 have HG1 := Lib.hid g1
 have HK1 := Lib.hid k1
 have HGH := Lib.hid ghv1
 have HG1T : Hid (Gd w1 (.node b x r (.node c y q p hc ec) h1 e1)) := Lib.hid ⟨k1, gr1, ghv1⟩
 
 obtain ⟨hlt1, -, -, -, cb3, cb4, -, -, fb3, fb4, -, -⟩ := k1.f
 obtain ⟨hltc, -, -, -, cc3, cc4, -, -, -, -, -, -⟩ := kc1.f
 rw [hpr, hrh] at HLR
 rw [hpp, hph] at HLP
 rw [hpq, hqh] at HLQ
 rw [hpr] at cb3
 rw [hpp] at cc4
 rw [hpq] at cc3
 have HLV : Hid (∀ W, Ext w1 W → Calls Tryz.prog 125 #[.pointer (some ⟨c, 0, none⟩)] W fun en w' => en = .returned (.int .i64 hc) ∧ w' = W) := HLV
 skip
 clear k1 g1 gr1 ghv1 kc1 hpr hpp hrh hph hh1 he1 HF hpq hqh
 unfold ptI at *
 go_wp2_with fail
 refine wp_region_ext (by kernel_rfl) (by kernel_rfl) ?_
 repeat (first | go_big_quiet_step ((go_at_call 125; first | with_reducible exact cret (HLV.out _ (ex_)) | with_reducible exact cret (HLR.out _ (ex_)))) | quiet_step ((go_at_call 125; first | with_reducible exact cret (HLV.out _ (ex_)) | with_reducible exact cret (HLR.out _ (ex_)))))
 refine wpQuiet_nil ?_
 intro _ hw'
 obtain ⟨xq1, hw''⟩ := hw'
 subst hw''
 go_wp2_with fail
 refine wp_region_ext (by kernel_rfl) (by kernel_rfl) ?_
 repeat (first | go_big_quiet_step ((go_at_call 125; first | with_reducible exact cret (HLP.out _ (ex_)) | with_reducible exact cret (HLQ.out _ (ex_)))) | quiet_step ((go_at_call 125; first | with_reducible exact cret (HLP.out _ (ex_)) | with_reducible exact cret (HLQ.out _ (ex_)))))
 refine wpQuiet_nil ?_
 intro _ hw'
 obtain ⟨xq2, hw''⟩ := hw'
 subst hw''
 go_wp2_with fail
 have HW3 : Hid (Gd (ext (ext w1 xq1) xq2) (.node b x r (.node c y q p hc ec) h1 e1)) := Lib.hid (Gd.ext HG1T.out (ex_))
 have HR2 := Lib.hid (rotR_any b c x y p q r hc ec h1 e1 (ext (ext w1 xq1) xq2) HW3.out (by have h := ND.out; simp only [AT.foot] at h ⊢; grind) op oq HOR.out (by omega))
 unfold ptI at HR2
 refine (show Calls _ _ _ _ _ from HR2.out).mono ?_
 rintro en3 w4 ⟨h5, e5, h6, e6, rfl, gF, oF, cF⟩
 have HF := Lib.hid (And.intro gF (And.intro oF cF))
 clear gF oF cF HR2
 go_wp2
 go_ret
 obtain ⟨gF, oF, cF⟩ := HF.out
 have chF : Chg (AT.foot (.node b x r (.node c y q p hc ec) h e)) w w4 := ((HG1.out.mono (by simp [AT.foot])).tr (Chg.of_ext (show Ext w1 (ext (ext w1 xq1) xq2) from ex_))).tr (cF.mono (by simp [AT.foot]))
 exact ⟨(.node c y (.node b x r q h5 e5) p h6 e6), rfl, gF, oF, by simp [AT.flat], perm_c (fun a => by simp [AT.foot, List.count_cons, List.count_append]; omega), chF⟩

set_option maxRecDepth 100000 in
set_option maxHeartbeats 8000000 in
theorem balL1 (b c d : Nat) (x y z : It) (p q1 q2 r : AT) (hc ec hd ed h e : Int) (w : World) (g : Gd w (.node b x (.node c y p (.node d z q1 q2 hd ed) hc ec) r h e)) (nd : (AT.foot (.node b x (.node c y p (.node d z q1 q2 hd ed) hc ec) r h e)).Nodup) (op : p.Ok) (oq1 : q1.Ok) (oq2 : q2.Ok) (or : r.Ok) (ohv : AT.Ok (.node c y p (.node d z q1 q2 hd ed) hc ec)) (sz : p.flat.length + q1.flat.length + q2.flat.length + r.flat.length ≤ 800000) (hd1 : 1 < hc - r.ht) (hd2 : p.ht < hd) :
  Calls Tryz.prog 93 #[ptI b] w (BalE (.node b x (.node c y p (.node d z q1 q2 hd ed) hc ec) r h e) w) := by
 have ND := Lib.hid nd
 simp only [AT.foot, List.nodup_cons, List.nodup_append, List.mem_cons, List.mem_append, not_or] at nd
 have nbc : b ≠ c := by grind
 have nbd : b ≠ d := by grind
 have nbp : b ∉ p.foot := by grind
 have nbq1 : b ∉ q1.foot := by grind
 have nbq2 : b ∉ q2.foot := by grind
 have nbr : b ∉ r.foot := by grind
 have ncd : c ≠ d := by grind
 have ncp : c ∉ p.foot := by grind
 have ncq1 : c ∉ q1.foot := by grind
 have ncq2 : c ∉ q2.foot := by grind
 have ncr : c ∉ r.foot := by grind
 have ndp : d ∉ p.foot := by grind
 have ndq1 : d ∉ q1.foot := by grind
 have ndq2 : d ∉ q2.foot := by grind
 have ndr : d ∉ r.foot := by grind
 obtain ⟨kb, ⟨kc, gp, ⟨kd, gq1, gq2⟩⟩, gr⟩ := g
 have kc : NdI w c y p.p (ptI d) hc ec := kc
 have kb : NdI w b x (ptI c) r.p h e := kb
 have bhv := AT.Ok.bd ohv (by simp only [AT.flat, List.length_append, List.length_cons]; omega)
 have bhv : 0 ≤ hc ∧ hc ≤ 1000000 := bhv
 have bp := op.bd (by omega)
 have br := or.bd (by omega)
 have bq : 0 ≤ hd ∧ hd ≤ 1000000 := AT.Ok.bd (t := (.node d z q1 q2 hd ed)) (ohv.2.1) (by simp only [AT.flat, List.length_append, List.length_cons]; omega)
 have ghv : Gd w (.node c y p (.node d z q1 q2 hd ed) hc ec) := ⟨kc, gp, ⟨kd, gq1, gq2⟩⟩
 have HF := Lib.hid (fix_any b x (ptI c) r.p h e _ _ _ _ w kb ghv.lev gr.lev (by show 0 ≤ hc ∧ hc ≤ _; omega) (by omega) (ptI_ne (Ne.symm nbc)) (p_ne nbr))
 have HNE : Hid (¬ b = c ∧ ¬ b = d) := Lib.hid ⟨nbc, nbd⟩
 have HGV := Lib.hid (And.intro ghv gr)
 have HKC := Lib.hid kc
 have HOHV := Lib.hid ohv
 have HOR := Lib.hid or
 obtain ⟨rh, hrh⟩ : ∃ rh, r.ht = rh := ⟨_, rfl⟩
 obtain ⟨ph, hph⟩ : ∃ ph, p.ht = ph := ⟨_, rfl⟩
 
 obtain ⟨pr, hpr⟩ := p_form r
 obtain ⟨pp, hpp⟩ := p_form p
 
 have hww : wrap64 (hc - rh) = hc - rh := IntWalk.wrap64_in _ ⟨by omega, by omega⟩
 rw [hrh] at hd1
 rw [hph] at hd2
 have hlt0 := kb.f.lt
 have HFT : Hid (∀ k ∈ AT.foot (.node c y p (.node d z q1 q2 hd ed) hc ec), k ∉ [b]) := Lib.hid (by simp only [AT.foot, List.mem_cons, List.mem_append, List.not_mem_nil, or_false]; grind)
 clear ghv kb kc kd nd or ohv
 unfold ptI
 go_enter Tryz.func93, Tryz.ntmps93
 go_wp2_with fail
 refine Calls.mono (show Calls _ _ _ _ _ from HF.out) ?_
 rintro en1 w1 ⟨rfl, k1, g1⟩
 obtain ⟨h1, hh1⟩ : ∃ h1, 1 + max (AT.ht (.node c y p (.node d z q1 q2 hd ed) hc ec)) r.ht = h1 := ⟨_, rfl⟩
 obtain ⟨e1, he1⟩ : ∃ e1, max x.1.2 (max (AT.en (.node c y p (.node d z q1 q2 hd ed) hc ec)) r.en) = e1 := ⟨_, rfl⟩
 rw [hh1, he1] at k1
 have ghv1 := HGV.out.1.chg g1 HFT.out
 have gr1 := HGV.out.2.chg g1 (by simp; exact fun k hk h => nbr (h ▸ hk))
 have kc1 : NdI w1 c y p.p (ptI d) hc ec := HKC.out.chg g1 (by simpa using fun h => nbc h.symm)
 have HLV := Lib.hid fun W (e : Ext w1 W) => levels_any _ _ _ W (ghv1.ext e).lev
 have HLR := Lib.hid fun W (e : Ext w1 W) => levels_any _ _ _ W (gr1.ext e).lev
 have HLP := Lib.hid fun W (e : Ext w1 W) => levels_any _ _ _ W (Gd.lev (t := p) ((ghv1.2.1).ext e))
 have HLQ := Lib.hid fun W (e : Ext w1 W) => levels_any _ _ _ W (Gd.lev (t := (.node d z q1 q2 hd ed)) ((ghv1.2.2).ext e))
 have HGR := Lib.hid gr1
 have HG1 := Lib.hid g1
 have HK1 := Lib.hid k1
 have HGH := Lib.hid ghv1
 have HG1T : Hid (Gd w1 (.node b x (.node c y p (.node d z q1 q2 hd ed) hc ec) r h1 e1)) := Lib.hid ⟨k1, ghv1, gr1⟩
 have HR1 := Lib.hid fun W (e : Ext w1 W) => rotR_any c d y z q2 q1 p hd ed hc ec W (HGH.out.ext e) (by have h := ND.out; simp only [AT.foot] at h ⊢; grind) oq2 oq1 op (by omega)
 obtain ⟨hlt1, -, -, -, cb3, cb4, -, -, fb3, fb4, -, -⟩ := k1.f
 obtain ⟨hltc, -, -, -, cc3, cc4, -, -, -, -, -, -⟩ := kc1.f
 rw [hpr, hrh] at HLR
 rw [hpp, hph] at HLP
 
 rw [hpr] at cb4
 rw [hpp] at cc3
 
 have HLV : Hid (∀ W, Ext w1 W → Calls Tryz.prog 125 #[.pointer (some ⟨c, 0, none⟩)] W fun en w' => en = .returned (.int .i64 hc) ∧ w' = W) := HLV
 have HLQ : Hid (∀ W, Ext w1 W → Calls Tryz.prog 125 #[.pointer (some ⟨d, 0, none⟩)] W fun en w' => en = .returned (.int .i64 hd) ∧ w' = W) := HLQ
 clear k1 g1 gr1 ghv1 kc1 hpr hpp hrh hph hh1 he1 HF
 unfold ptI at *
 go_wp2_with fail
 refine wp_region_ext (by kernel_rfl) (by kernel_rfl) ?_
 repeat (first | go_big_quiet_step ((go_at_call 125; first | with_reducible exact cret (HLV.out _ (ex_)) | with_reducible exact cret (HLR.out _ (ex_)))) | quiet_step ((go_at_call 125; first | with_reducible exact cret (HLV.out _ (ex_)) | with_reducible exact cret (HLR.out _ (ex_)))))
 refine wpQuiet_nil ?_
 intro _ hw'
 obtain ⟨xq1, hw''⟩ := hw'
 subst hw''
 go_wp2_with fail
 refine wp_region_ext (by kernel_rfl) (by kernel_rfl) ?_
 repeat (first | go_big_quiet_step ((go_at_call 125; first | with_reducible exact cret (HLP.out _ (ex_)) | with_reducible exact cret (HLQ.out _ (ex_)))) | quiet_step ((go_at_call 125; first | with_reducible exact cret (HLP.out _ (ex_)) | with_reducible exact cret (HLQ.out _ (ex_)))))
 refine wpQuiet_nil ?_
 intro _ hw'
 obtain ⟨xq2, hw''⟩ := hw'
 subst hw''
 go_wp2_with fail
 refine Calls.mono (show Calls _ _ _ _ _ from HR1.out (ext (ext w1 xq1) xq2) (ex_)) ?_
 rintro en2 w2 ⟨h3, e3, h4, e4, rfl, gi, oi, ci⟩
 have kb2 := (HK1.out.ext (show Ext w1 (ext (ext w1 xq1) xq2) from ex_)).chg ci (by simp; exact HNE.out)
 obtain ⟨hlt2, -, -, -, cb3', cb4', -, -, fb3', fb4', -, -⟩ := kb2.f
 obtain ⟨w3, s3, k3, g3⟩ := kb2.set3 (ptI d)
 have HI := Lib.hid (And.intro gi (And.intro oi ci))
 have HK3 := Lib.hid (And.intro k3 g3)
 clear gi oi ci kb2 k3 g3
 unfold ptI at s3
 go_wp2_with fail
 have HW3 : Hid (Gd w3 (.node b x (.node d z (.node c y p q1 h3 e3) q2 h4 e4) r h1 e1)) := Lib.hid (by
  have gr2 := ((HGR.out.ext (show Ext w1 (ext (ext w1 xq1) xq2) from ex_)).chg HI.out.2.2 (by simp; grind)).chg HK3.out.2 (by simp; grind)
  have gi3 := HI.out.1.chg HK3.out.2 (by simp [AT.foot]; grind)
  exact ⟨HK3.out.1, gi3, gr2⟩)
 have HR2 := Lib.hid (rotL_any b d x z (.node c y p q1 h3 e3) q2 r h4 e4 h1 e1 w3 HW3.out (by have h := ND.out; simp only [AT.foot] at h ⊢; grind) HI.out.2.1.1 oq2 HOR.out (by simp only [AT.flat, List.length_append, List.length_cons]; omega))
 unfold ptI at HR2
 refine (show Calls _ _ _ _ _ from HR2.out).mono ?_
 rintro en3 w4 ⟨h5, e5, h6, e6, rfl, gF, oF, cF⟩
 have HF := Lib.hid (And.intro gF (And.intro oF cF))
 clear gF oF cF HR2
 go_wp2
 go_ret
 obtain ⟨gF, oF, cF⟩ := HF.out
 have chF : Chg (AT.foot (.node b x (.node c y p (.node d z q1 q2 hd ed) hc ec) r h e)) w w4 := ((((HG1.out.mono (by simp [AT.foot])).tr (Chg.of_ext (show Ext w1 (ext (ext w1 xq1) xq2) from ex_))).tr (HI.out.2.2.mono (by simp [AT.foot]))).tr (HK3.out.2.mono (by simp [AT.foot]))).tr (cF.mono (by simp [AT.foot]))
 exact ⟨(.node d z (.node c y p q1 h3 e3) (.node b x q2 r h5 e5) h6 e6), rfl, gF, oF, by simp [AT.flat], perm_c (fun a => by simp [AT.foot, List.count_cons, List.count_append]; omega), chF⟩

set_option maxRecDepth 100000 in
set_option maxHeartbeats 8000000 in
theorem balR1 (b c d : Nat) (x y z : It) (p q1 q2 r : AT) (hc ec hd ed h e : Int) (w : World) (g : Gd w (.node b x r (.node c y (.node d z q1 q2 hd ed) p hc ec) h e)) (nd : (AT.foot (.node b x r (.node c y (.node d z q1 q2 hd ed) p hc ec) h e)).Nodup) (op : p.Ok) (oq1 : q1.Ok) (oq2 : q2.Ok) (or : r.Ok) (ohv : AT.Ok (.node c y (.node d z q1 q2 hd ed) p hc ec)) (sz : p.flat.length + q1.flat.length + q2.flat.length + r.flat.length ≤ 800000) (hd1 : r.ht - hc < -1) (hd2 : p.ht < hd) :
  Calls Tryz.prog 93 #[ptI b] w (BalE (.node b x r (.node c y (.node d z q1 q2 hd ed) p hc ec) h e) w) := by
 have ND := Lib.hid nd
 simp only [AT.foot, List.nodup_cons, List.nodup_append, List.mem_cons, List.mem_append, not_or] at nd
 have nbc : b ≠ c := by grind
 have nbd : b ≠ d := by grind
 have nbp : b ∉ p.foot := by grind
 have nbq1 : b ∉ q1.foot := by grind
 have nbq2 : b ∉ q2.foot := by grind
 have nbr : b ∉ r.foot := by grind
 have ncd : c ≠ d := by grind
 have ncp : c ∉ p.foot := by grind
 have ncq1 : c ∉ q1.foot := by grind
 have ncq2 : c ∉ q2.foot := by grind
 have ncr : c ∉ r.foot := by grind
 have ndp : d ∉ p.foot := by grind
 have ndq1 : d ∉ q1.foot := by grind
 have ndq2 : d ∉ q2.foot := by grind
 have ndr : d ∉ r.foot := by grind
 obtain ⟨kb, gr, ⟨kc, ⟨kd, gq1, gq2⟩, gp⟩⟩ := g
 have kc : NdI w c y (ptI d) p.p hc ec := kc
 have kb : NdI w b x r.p (ptI c) h e := kb
 have bhv := AT.Ok.bd ohv (by simp only [AT.flat, List.length_append, List.length_cons]; omega)
 have bhv : 0 ≤ hc ∧ hc ≤ 1000000 := bhv
 have bp := op.bd (by omega)
 have br := or.bd (by omega)
 have bq : 0 ≤ hd ∧ hd ≤ 1000000 := AT.Ok.bd (t := (.node d z q1 q2 hd ed)) (ohv.1) (by simp only [AT.flat, List.length_append, List.length_cons]; omega)
 have ghv : Gd w (.node c y (.node d z q1 q2 hd ed) p hc ec) := ⟨kc, ⟨kd, gq1, gq2⟩, gp⟩
 have HF := Lib.hid (fix_any b x r.p (ptI c) h e _ _ _ _ w kb gr.lev ghv.lev (by omega) (by show 0 ≤ hc ∧ hc ≤ _; omega) (p_ne nbr) (ptI_ne (Ne.symm nbc)))
 have HNE : Hid (¬ b = c ∧ ¬ b = d) := Lib.hid ⟨nbc, nbd⟩
 have HGV := Lib.hid (And.intro ghv gr)
 have HKC := Lib.hid kc
 have HOHV := Lib.hid ohv
 have HOR := Lib.hid or
 obtain ⟨rh, hrh⟩ : ∃ rh, r.ht = rh := ⟨_, rfl⟩
 obtain ⟨ph, hph⟩ : ∃ ph, p.ht = ph := ⟨_, rfl⟩
 
 obtain ⟨pr, hpr⟩ := p_form r
 obtain ⟨pp, hpp⟩ := p_form p
 
 have hww : wrap64 (rh - hc) = rh - hc := IntWalk.wrap64_in _ ⟨by omega, by omega⟩
 rw [hrh] at hd1
 rw [hph] at hd2
 have hlt0 := kb.f.lt
 have HFT : Hid (∀ k ∈ AT.foot (.node c y (.node d z q1 q2 hd ed) p hc ec), k ∉ [b]) := Lib.hid (by simp only [AT.foot, List.mem_cons, List.mem_append, List.not_mem_nil, or_false]; grind)
 clear ghv kb kc kd nd or ohv
 unfold ptI
 go_enter Tryz.func93, Tryz.ntmps93
 go_wp2_with fail
 refine Calls.mono (show Calls _ _ _ _ _ from HF.out) ?_
 rintro en1 w1 ⟨rfl, k1, g1⟩
 obtain ⟨h1, hh1⟩ : ∃ h1, 1 + max r.ht (AT.ht (.node c y (.node d z q1 q2 hd ed) p hc ec)) = h1 := ⟨_, rfl⟩
 obtain ⟨e1, he1⟩ : ∃ e1, max x.1.2 (max r.en (AT.en (.node c y (.node d z q1 q2 hd ed) p hc ec))) = e1 := ⟨_, rfl⟩
 rw [hh1, he1] at k1
 have ghv1 := HGV.out.1.chg g1 HFT.out
 have gr1 := HGV.out.2.chg g1 (by simp; exact fun k hk h => nbr (h ▸ hk))
 have kc1 : NdI w1 c y (ptI d) p.p hc ec := HKC.out.chg g1 (by simpa using fun h => nbc h.symm)
 have HLV := Lib.hid fun W (e : Ext w1 W) => levels_any _ _ _ W (ghv1.ext e).lev
 have HLR := Lib.hid fun W (e : Ext w1 W) => levels_any _ _ _ W (gr1.ext e).lev
 have HLP := Lib.hid fun W (e : Ext w1 W) => levels_any _ _ _ W (Gd.lev (t := p) ((ghv1.2.2).ext e))
 have HLQ := Lib.hid fun W (e : Ext w1 W) => levels_any _ _ _ W (Gd.lev (t := (.node d z q1 q2 hd ed)) ((ghv1.2.1).ext e))
 have HGR := Lib.hid gr1
 have HG1 := Lib.hid g1
 have HK1 := Lib.hid k1
 have HGH := Lib.hid ghv1
 have HG1T : Hid (Gd w1 (.node b x r (.node c y (.node d z q1 q2 hd ed) p hc ec) h1 e1)) := Lib.hid ⟨k1, gr1, ghv1⟩
 have HR1 := Lib.hid fun W (e : Ext w1 W) => rotL_any c d y z q1 q2 p hd ed hc ec W (HGH.out.ext e) (by have h := ND.out; simp only [AT.foot] at h ⊢; grind) oq1 oq2 op (by omega)
 obtain ⟨hlt1, -, -, -, cb3, cb4, -, -, fb3, fb4, -, -⟩ := k1.f
 obtain ⟨hltc, -, -, -, cc3, cc4, -, -, -, -, -, -⟩ := kc1.f
 rw [hpr, hrh] at HLR
 rw [hpp, hph] at HLP
 
 rw [hpr] at cb3
 rw [hpp] at cc4
 
 have HLV : Hid (∀ W, Ext w1 W → Calls Tryz.prog 125 #[.pointer (some ⟨c, 0, none⟩)] W fun en w' => en = .returned (.int .i64 hc) ∧ w' = W) := HLV
 have HLQ : Hid (∀ W, Ext w1 W → Calls Tryz.prog 125 #[.pointer (some ⟨d, 0, none⟩)] W fun en w' => en = .returned (.int .i64 hd) ∧ w' = W) := HLQ
 clear k1 g1 gr1 ghv1 kc1 hpr hpp hrh hph hh1 he1 HF
 unfold ptI at *
 go_wp2_with fail
 refine wp_region_ext (by kernel_rfl) (by kernel_rfl) ?_
 repeat (first | go_big_quiet_step ((go_at_call 125; first | with_reducible exact cret (HLV.out _ (ex_)) | with_reducible exact cret (HLR.out _ (ex_)))) | quiet_step ((go_at_call 125; first | with_reducible exact cret (HLV.out _ (ex_)) | with_reducible exact cret (HLR.out _ (ex_)))))
 refine wpQuiet_nil ?_
 intro _ hw'
 obtain ⟨xq1, hw''⟩ := hw'
 subst hw''
 go_wp2_with fail
 refine wp_region_ext (by kernel_rfl) (by kernel_rfl) ?_
 repeat (first | go_big_quiet_step ((go_at_call 125; first | with_reducible exact cret (HLP.out _ (ex_)) | with_reducible exact cret (HLQ.out _ (ex_)))) | quiet_step ((go_at_call 125; first | with_reducible exact cret (HLP.out _ (ex_)) | with_reducible exact cret (HLQ.out _ (ex_)))))
 refine wpQuiet_nil ?_
 intro _ hw'
 obtain ⟨xq2, hw''⟩ := hw'
 subst hw''
 go_wp2_with fail
 refine Calls.mono (show Calls _ _ _ _ _ from HR1.out (ext (ext w1 xq1) xq2) (ex_)) ?_
 rintro en2 w2 ⟨h3, e3, h4, e4, rfl, gi, oi, ci⟩
 have kb2 := (HK1.out.ext (show Ext w1 (ext (ext w1 xq1) xq2) from ex_)).chg ci (by simp; exact HNE.out)
 obtain ⟨hlt2, -, -, -, cb3', cb4', -, -, fb3', fb4', -, -⟩ := kb2.f
 obtain ⟨w3, s3, k3, g3⟩ := kb2.set4 (ptI d)
 have HI := Lib.hid (And.intro gi (And.intro oi ci))
 have HK3 := Lib.hid (And.intro k3 g3)
 clear gi oi ci kb2 k3 g3
 unfold ptI at s3
 go_wp2_with fail
 have HW3 : Hid (Gd w3 (.node b x r (.node d z q1 (.node c y q2 p h3 e3) h4 e4) h1 e1)) := Lib.hid (by
  have gr2 := ((HGR.out.ext (show Ext w1 (ext (ext w1 xq1) xq2) from ex_)).chg HI.out.2.2 (by simp; grind)).chg HK3.out.2 (by simp; grind)
  have gi3 := HI.out.1.chg HK3.out.2 (by simp [AT.foot]; grind)
  exact ⟨HK3.out.1, gr2, gi3⟩)
 have HR2 := Lib.hid (rotR_any b d x z (.node c y q2 p h3 e3) q1 r h4 e4 h1 e1 w3 HW3.out (by have h := ND.out; simp only [AT.foot] at h ⊢; grind) HI.out.2.1.2.1 oq1 HOR.out (by simp only [AT.flat, List.length_append, List.length_cons]; omega))
 unfold ptI at HR2
 refine (show Calls _ _ _ _ _ from HR2.out).mono ?_
 rintro en3 w4 ⟨h5, e5, h6, e6, rfl, gF, oF, cF⟩
 have HF := Lib.hid (And.intro gF (And.intro oF cF))
 clear gF oF cF HR2
 go_wp2
 go_ret
 obtain ⟨gF, oF, cF⟩ := HF.out
 have chF : Chg (AT.foot (.node b x r (.node c y (.node d z q1 q2 hd ed) p hc ec) h e)) w w4 := ((((HG1.out.mono (by simp [AT.foot])).tr (Chg.of_ext (show Ext w1 (ext (ext w1 xq1) xq2) from ex_))).tr (HI.out.2.2.mono (by simp [AT.foot]))).tr (HK3.out.2.mono (by simp [AT.foot]))).tr (cF.mono (by simp [AT.foot]))
 exact ⟨(.node d z (.node b x r q1 h5 e5) (.node c y q2 p h3 e3) h6 e6), rfl, gF, oF, by simp [AT.flat], perm_c (fun a => by simp [AT.foot, List.count_cons, List.count_append]; omega), chF⟩

set_option maxRecDepth 100000 in
set_option maxHeartbeats 8000000 in
theorem balM (b : Nat) (x : It) (l r : AT) (h e : Int) (w : World) (g : Gd w (.node b x l r h e)) (nd : (AT.foot (.node b x l r h e)).Nodup) (ol : l.Ok) (or : r.Ok) (sz : l.flat.length + r.flat.length ≤ 800000) (hd1 : ¬ 1 < l.ht - r.ht) (hd2 : ¬ l.ht - r.ht < -1) :
  Calls Tryz.prog 93 #[ptI b] w (BalE (.node b x l r h e) w) := by
 simp only [AT.foot, List.nodup_cons, List.nodup_append, List.mem_cons, List.mem_append, not_or] at nd
 have nbl : b ∉ l.foot := by grind
 have nbr : b ∉ r.foot := by grind
 obtain ⟨kb, gl, gr⟩ := g
 have bl := ol.bd (by omega)
 have br := or.bd (by omega)
 have HF := Lib.hid (fix_any b x l.p r.p h e _ _ _ _ w kb gl.lev gr.lev (by omega) (by omega) (p_ne nbl) (p_ne nbr))
 have HGV := Lib.hid (And.intro gl gr)
 have HOO : Hid (AT.Ok (.node b x l r (1 + max l.ht r.ht) (max x.1.2 (max l.en r.en)))) := Lib.hid ⟨ol, or, rfl, rfl⟩
 obtain ⟨h1, hh1⟩ : ∃ h1, 1 + max l.ht r.ht = h1 := ⟨_, rfl⟩
 obtain ⟨e1, he1⟩ : ∃ e1, max x.1.2 (max l.en r.en) = e1 := ⟨_, rfl⟩
 rw [hh1, he1] at HF HOO
 obtain ⟨lh, hlh⟩ : ∃ lh, l.ht = lh := ⟨_, rfl⟩
 obtain ⟨rh, hrh⟩ : ∃ rh, r.ht = rh := ⟨_, rfl⟩
 obtain ⟨pl, hpl⟩ := p_form l
 obtain ⟨pr, hpr⟩ := p_form r
 have hww : wrap64 (lh - rh) = lh - rh := IntWalk.wrap64_in _ ⟨by omega, by omega⟩
 rw [hlh, hrh] at hd1 hd2
 have hlt0 := kb.f.lt
 have HNB : Hid (b ∉ l.foot ∧ b ∉ r.foot) := Lib.hid ⟨nbl, nbr⟩
 clear kb gl gr ol or nd nbl nbr hh1 he1
 unfold ptI
 go_enter Tryz.func93, Tryz.ntmps93
 go_wp2_with fail
 refine Calls.mono (show Calls _ _ _ _ _ from HF.out) ?_
 rintro en1 w1 ⟨rfl, k1, g1⟩
 have gl1 := HGV.out.1.chg g1 (by simp; exact fun k hk h => HNB.out.1 (h ▸ hk))
 have gr1 := HGV.out.2.chg g1 (by simp; exact fun k hk h => HNB.out.2 (h ▸ hk))
 have HLV := Lib.hid fun W (e : Ext w1 W) => levels_any _ _ _ W (gl1.ext e).lev
 have HLR := Lib.hid fun W (e : Ext w1 W) => levels_any _ _ _ W (gr1.ext e).lev
 have HALL := Lib.hid (And.intro k1 (And.intro gl1 (And.intro gr1 g1)))
 obtain ⟨hlt1, -, -, -, cb3, cb4, -, -, -, -, -, -⟩ := k1.f
 rw [hpl, hlh] at HLV
 rw [hpr, hrh] at HLR
 rw [hpl] at cb3
 rw [hpr] at cb4
 clear k1 g1 gl1 gr1 hpl hpr hlh hrh HF
 go_wp2_with fail
 refine wp_region_ext (by kernel_rfl) (by kernel_rfl) ?_
 repeat (first | go_big_quiet_step ((go_at_call 125; first | with_reducible exact cret (HLV.out _ (ex_)) | with_reducible exact cret (HLR.out _ (ex_)))) | quiet_step ((go_at_call 125; first | with_reducible exact cret (HLV.out _ (ex_)) | with_reducible exact cret (HLR.out _ (ex_)))))
 refine wpQuiet_nil ?_
 intro _ hw'
 obtain ⟨xq1, hw''⟩ := hw'
 subst hw''
 go_wp2
 go_ret
 obtain ⟨k1, gl1, gr1, g1⟩ := HALL.out
 have gF : Gd w1 (.node b x l r h1 e1) := ⟨k1, gl1, gr1⟩
 exact ⟨.node b x l r h1 e1, rfl, gF.ext (ex_), HOO.out, rfl, List.Perm.refl _, (g1.mono (by simp [AT.foot])).tr (Chg.of_ext (ex_))⟩
theorem balance_any (b : Nat) (x : It) (l r : AT) (h e : Int) (w : World) (g : Gd w (.node b x l r h e)) (nd : (AT.foot (.node b x l r h e)).Nodup) (ol : l.Ok) (or : r.Ok) (sz : l.flat.length + r.flat.length ≤ 800000) :
  Calls Tryz.prog 93 #[ptI b] w (BalE (.node b x l r h e) w) := by
 have bl := ol.ht0
 have br := or.ht0
 by_cases h1 : 1 < l.ht - r.ht
 ·
  cases l with
  | nil => exfalso; have e0 : AT.ht .nil = 0 := rfl; omega
  | node c y p q hc ec =>
   simp only [AT.flat, List.length_append, List.length_cons] at sz
   by_cases h2 : p.ht < q.ht
   ·
    cases q with
    | nil => exfalso; have := ol.1.ht0; have e0 : AT.ht .nil = 0 := rfl; omega
    | node d z q1 q2 hd ed =>
     simp only [AT.flat, List.length_append, List.length_cons] at sz
     exact balL1 b c d x y z p q1 q2 r hc ec hd ed h e w g nd ol.1 ol.2.1.1 ol.2.1.2.1 or ol (by omega) h1 h2
   ·
    exact balL2 b c x y p q r hc ec h e w g nd ol.1 ol.2.1 or ol (by omega) h1 h2
 ·
  by_cases h2 : l.ht - r.ht < -1
  ·
   cases r with
   | nil => exfalso; have e0 : AT.ht .nil = 0 := rfl; omega
   | node c y q p hc ec =>
    simp only [AT.flat, List.length_append, List.length_cons] at sz
    by_cases h3 : p.ht < q.ht
    ·
     cases q with
     | nil => exfalso; have := or.2.1.ht0; have e0 : AT.ht .nil = 0 := rfl; omega
     | node d z q1 q2 hd ed =>
      simp only [AT.flat, List.length_append, List.length_cons] at sz
      exact balR1 b c d x y z p q1 q2 l hc ec hd ed h e w g nd or.2.1 or.1.1 or.1.2.1 ol or (by omega) h2 h3
    ·
     exact balR2 b c x y p q l hc ec h e w g nd or.2.1 or.1 ol or (by omega) h2 h3
  ·
   exact balM b x l r h e w g nd ol or sz h1 h2

end Go.Proofs.YtdiaecgpjgdkdaaGreat

namespace Go.Proofs.YtdiaecgpjgdkdaaGreat
open Go.RowKit

structure InsP (t0 : AT) (x : It) (w : World) (en : Ending) (w' : World) (t : AT) : Prop where
 ret : en = .returned t.p
 gd : Gd w' t
 ok : t.Ok
 st : SrI t.flat
 pm : t.flat.Perm (x :: t0.flat)
 ft : ∀ k ∈ t.foot, k ∈ t0.foot ∨ w.heap.size ≤ k
 nd : t.foot.Nodup
 ch : Chg t0.foot w w'
def InsE (t0 : AT) (x : It) (w : World) (en : Ending) (w' : World) : Prop := ∃ t, InsP t0 x w en w' t
set_option maxRecDepth 100000 in
set_option maxHeartbeats 8000000 in
theorem ins_nil (x : It) (w : World) : Calls Tryz.prog 52 #[.pointer none, itg x] w (InsE .nil x w) := by
 go_enter Tryz.func52, Tryz.ntmps52
 go_wp2_with fail
 have g0 : Gd (((w.alloc (.cells #[.int .i64 x.1.1, .int .i64 x.1.2, .int .i64 x.2] 132))).alloc (.cells (ndc x (.pointer none) (.pointer none) 0 0) 180)) (.node (w.heap.size + 1) x .nil .nil 0 0) := by
  refine ⟨?_, trivial, trivial⟩
  have hsz : ((w.alloc (.cells #[.int .i64 x.1.1, .int .i64 x.1.2, .int .i64 x.2] 132))).heap.size = w.heap.size + 1 := Array.size_push ..
  rw [NdI, ← hsz]
  exact heap_alloc_new _ _
 have HB := Lib.hid (balance_any (w.heap.size + 1) x .nil .nil 0 0 _ g0 (by simp [AT.foot]) trivial trivial (by simp [AT.flat]))
 unfold ptI ndc at HB
 refine Calls.mono HB.out ?_
 rintro en w2 ⟨t, rfl, h2, h3, h4, h5, h6⟩
 have HT := Lib.hid (And.intro h2 (And.intro h3 (And.intro h4 (And.intro h5 h6))))
 obtain ⟨pt, hpt⟩ := p_form t
 have HPT := Lib.hid hpt
 rw [hpt]
 clear h2 h3 h4 h5 h6 HB g0 hpt
 go_wp2
 go_ret
 obtain ⟨h2, h3, h4, h5, h6⟩ := HT.out
 refine ⟨t, by rw [HPT.out]; rfl, h2, h3, ?_, ?_, ?_, h5.nodup_iff.2 (by simp [AT.foot]), ?_⟩
 ·
  rw [h4]; simp [AT.flat, SrI]
 ·
  rw [h4]; simp [AT.flat]
 ·
  intro k hk
  have := (h5.mem_iff).1 hk
  simp [AT.foot] at this
  exact .inr (by omega)
 ·
  exact (Chg.of_ext (S := (AT.foot .nil)) (show Ext w _ from ex_)).tr2 h6 (by
   intro j hj
   simp [AT.foot] at hj
   exact .inr (by omega))

theorem perm_ins {α : Type} (l r : List α) (x y : α) : (l ++ y :: x :: r).Perm (x :: (l ++ y :: r)) := by
 have h1 : (l ++ y :: x :: r).Perm (l ++ x :: y :: r) := (List.Perm.swap x y r).append_left l
 exact h1.trans List.perm_middle

set_option maxRecDepth 100000 in
set_option maxHeartbeats 8000000 in
theorem insL (b : Nat) (x y : It) (l r : AT) (h e : Int) (w : World) (g : Gd w (.node b y l r h e)) (nd : (AT.foot (.node b y l r h e)).Nodup) (ol : l.Ok) (or : r.Ok) (hs : SrI (AT.flat (.node b y l r h e))) (sz : l.flat.length + r.flat.length ≤ 700000) (hc : itL x y)
  (IH : ∀ W, Ext w W → Calls Tryz.prog 52 #[l.p, itg x] W (InsE l x W)) :
  Calls Tryz.prog 52 #[ptI b, itg x] w (InsE (.node b y l r h e) x w) := by
 have ND := Lib.hid nd
 have HS := Lib.hid hs
 have HC := Lib.hid hc
 have HSZ := Lib.hid sz
 have HO := Lib.hid (And.intro ol or)
 simp only [AT.foot, List.nodup_cons, List.nodup_append, List.mem_cons, List.mem_append, not_or] at nd
 obtain ⟨kb, gl, gr⟩ := g
 have HCM := Lib.hid fun W (e : Ext w W) => ncomp_any b y x l.p r.p _ _ W (kb.ext e)
 have HKB := Lib.hid kb
 have HGl := Lib.hid gl
 have HGr := Lib.hid gr
 have HNB : Hid (b ∉ l.foot ∧ w.heap.size ∉ l.foot) := Lib.hid ⟨by grind, fun hk => by have := (gl.lt) _ hk; omega⟩
 have HIN := Lib.hid IH
 obtain ⟨pp, hpp⟩ := p_form l
 have HP := Lib.hid hpp
 obtain ⟨z, hz⟩ : ∃ z, itC y x = z := ⟨_, rfl⟩
 have hz0 : 0 < z := by
  rw [← hz]
  exact itC_gt.2 hc
 rw [hz] at HCM
 rw [hpp] at HIN
 obtain ⟨hlt0, -, -, -, cb3, cb4, -, -, -, -, -, -⟩ := kb.f
 rw [hpp] at cb3
 clear nd hs hc sz ol or kb gl gr IH hpp hz
 unfold ptI at *
 go_enter Tryz.func52, Tryz.ntmps52
 go_wp2_with fail
 refine (HCM.out _ (ex_)).mono ?_
 rintro en1 w1 ⟨rfl, hb1⟩
 obtain ⟨x1, rfl⟩ := hb1.get
 clear hb1 HCM
 go_wp2_with fail
 refine wp_region_T 9 (S := (fun w' => w'.cell? ⟨b, 3, none⟩ = some (.pointer pp) ∧ w'.cell? ⟨w.heap.size, 0, none⟩ = some (.int .i64 x.1.1) ∧ w'.cell? ⟨w.heap.size, 1, none⟩ = some (.int .i64 x.1.2) ∧ w'.cell? ⟨w.heap.size, 2, none⟩ = some (.int .i64 x.2))) (by kernel_rfl) (by simp [go_sem, ↓IntWalk.iteOmega, *]) (fun hHeld => ?_)
 refine tkT 0 ?oi101 (?v101) ?hi101 ?hy101 ?_
 case hi101 => (simp only [gA, gS, gZ]; try rfl)
 case hy101 => (refine Or.inl ⟨by rfl, ?_⟩; intro wq hSw; (try dsimp only at hSw); go_simp; (try with_reducible rfl))
 (try simp only [Act.put, pA, pZ, pS])
 refine tkT 1 ?oi102 (?v102) ?hi102 ?hy102 ?_
 case hi102 => (simp only [gA, gS, gZ]; try rfl)
 case hy102 => (refine Or.inl ⟨by rfl, ?_⟩; intro wq hSw; (try dsimp only at hSw); go_simp; (try with_reducible rfl))
 (try simp only [Act.put, pA, pZ, pS])
 refine tkT 2 ?oi103 (?v103) ?hi103 ?hy103 ?_
 case hi103 => (simp only [gA, gS, gZ]; try rfl)
 case hy103 => (refine Or.inl ⟨by rfl, ?_⟩; intro wq hSw; (try dsimp only at hSw); go_simp; (try with_reducible rfl))
 (try simp only [Act.put, pA, pZ, pS])
 refine tkT 3 ?oi104 (?v104) ?hi104 ?hy104 ?_
 case hi104 => (simp only [gA, gS, gZ]; try rfl)
 case hy104 => (refine Or.inl ⟨by rfl, ?_⟩; intro wq hSw; (try dsimp only at hSw); go_simp; (try with_reducible rfl))
 (try simp only [Act.put, pA, pZ, pS])
 refine tkT 4 ?oi105 (?v105) ?hi105 ?hy105 ?_
 case hi105 => (simp only [gA, gS, gZ]; try rfl)
 case hy105 => (refine Or.inl ⟨by rfl, ?_⟩; intro wq hSw; (try dsimp only at hSw); go_simp; (try with_reducible rfl))
 (try simp only [Act.put, pA, pZ, pS])
 refine tkT 5 ?oi106 (?v106) ?hi106 ?hy106 ?_
 case hi106 => (simp only [gA, gS, gZ]; try rfl)
 case hy106 => (refine Or.inl ⟨by rfl, ?_⟩; intro wq hSw; (try dsimp only at hSw); go_simp; (try with_reducible rfl))
 (try simp only [Act.put, pA, pZ, pS])
 refine wpAnyT_ready (rs := [6]) (by kernel_rfl) (by simp) ?_
 refine AllReadyT.cons (o := ?oi107) ?hi107 ?ti107 AllReadyT.nil
 case hi107 => (simp only [gA, gS, gZ]; try rfl)
 case ti107 =>
  intro KQ hKQ
  go_simp
  go_at_call 52
  refine Calls.mono (HIN.out _ (ex_)) ?_
  rintro en2 w2 ⟨s2, rfl, i2, i3, i4, i5, i6, i7, i8⟩
  have kb2 := (HKB.out.ext (show Ext w (ext (w.alloc (.cells #[.int .i64 x.1.1, .int .i64 x.1.2, .int .i64 x.2] 132)) x1).drew from ex_)).chg i8 HNB.out.1
  obtain ⟨hlt2, -, -, -, cb3', cb4', -, -, fb3', fb4', -, -⟩ := kb2.f
  have d0 : w2.cell? ⟨w.heap.size, 0, none⟩ = some (.int .i64 x.1.1) := (World.cell?_of_block (i8.same _ (by simp [size_ext]; omega) HNB.out.2)).trans (by simp [go_sem, ↓IntWalk.iteOmega])
  have d1 : w2.cell? ⟨w.heap.size, 1, none⟩ = some (.int .i64 x.1.2) := (World.cell?_of_block (i8.same _ (by simp [size_ext]; omega) HNB.out.2)).trans (by simp [go_sem, ↓IntWalk.iteOmega])
  have d2 : w2.cell? ⟨w.heap.size, 2, none⟩ = some (.int .i64 x.2) := (World.cell?_of_block (i8.same _ (by simp [size_ext]; omega) HNB.out.2)).trans (by simp [go_sem, ↓IntWalk.iteOmega])
  obtain ⟨w3, s3, k3, g3⟩ := kb2.set3 s2.p
  have HI := Lib.hid (And.intro i2 (And.intro i3 (And.intro i4 (And.intro i5 (And.intro i6 (And.intro i7 i8))))))
  have HK3 := Lib.hid (And.intro k3 g3)
  obtain ⟨ps, hps⟩ := p_form s2
  have HPS := Lib.hid hps
  rw [hps] at s3 ⊢
  rw [HP.out] at cb3'
  clear i2 i3 i4 i5 i6 i7 i8 kb2 k3 g3 hps
  refine hKQ.out _ _ (by simp [go_sem, ↓IntWalk.iteOmega, *]) (fun hHeld2 => ?_)
  clear hHeld hKQ KQ; have hHeld := hHeld2; clear hHeld2
  (try simp only [Act.put, pA, pZ, pS])
  refine tkT 7 ?oi108 (?v108) ?hi108 ?hy108 ?_
  case hi108 => (simp only [gA, gS, gZ]; try rfl)
  case hy108 => (refine Or.inl ⟨by rfl, ?_⟩; intro wq hSw; (try dsimp only at hSw); go_simp; (try with_reducible rfl))
  (try simp only [Act.put, pA, pZ, pS])
  refine tkT 8 ?oi109 (?v109) ?hi109 ?hy109 ?_
  case hi109 => (simp only [gA, gS, gZ]; try rfl)
  case hy109 => (refine Or.inl ⟨by rfl, ?_⟩; intro wq hSw; (try dsimp only at hSw); go_simp; (try with_reducible rfl))
  (try simp only [Act.put, pA, pZ, pS])
  refine wpAnyT_ready (rs := [9]) (by kernel_rfl) (by simp) ?_
  refine AllReadyT.last (o := ?oi110) ?hi110 ?ti110
  case hi110 => (simp only [gA, gS, gZ]; try rfl)
  case ti110 =>
   intro KQ hKQ
   go_simp
   (repeat (simp only [go_sem, ↓IntWalk.iteOmega, ↓reduceIte, Bool.false_eq_true]; (try go_simp)))
   refine hKQ.out _ _ ?_
   clear hKQ KQ hHeld
   (try simp only [Act.put, pA, pZ, pS])
   refine wpAnyT_done (by kernel_rfl) ?_ _
   go_wp2_with fail
   obtain ⟨i2, i3, i4, i5, i6, i7, i8⟩ := HI.out
   obtain ⟨k3, g3⟩ := HK3.out
   have hE1 : Ext w (ext (w.alloc (.cells #[.int .i64 x.1.1, .int .i64 x.1.2, .int .i64 x.2] 132)) x1).drew := ex_
   have hlen := i5.length_eq
   have nds := ND.out
   simp only [AT.foot, List.nodup_cons, List.nodup_append, List.mem_cons, List.mem_append, not_or] at nds
   have hlts : ∀ k ∈ AT.foot r, k < w.heap.size := HGr.out.lt
   have hltb := HKB.out.f.lt
   have hsz1 : w.heap.size ≤ (ext (w.alloc (.cells #[.int .i64 x.1.1, .int .i64 x.1.2, .int .i64 x.2] 132)) x1).drew.heap.size := hE1.size
   have gs3 := i2.chg g3 (by
    intro k hk hq
    simp at hq
    subst hq
    rcases i6 k hk with h | h
    ·
     grind
    ·
     omega)
   have gt3 : Gd w3 r := ((HGr.out.ext hE1).chg i8 (by grind)).chg g3 (by
    intro k hk hq
    simp at hq
    subst hq
    grind)
   have g2 : Gd w3 (.node b y s2 r h e) := ⟨k3, gs3, gt3⟩
   have nd2 : (AT.foot (.node b y s2 r h e)).Nodup := by
    simp only [AT.foot, List.nodup_cons, List.nodup_append, List.mem_append, not_or]
    refine ⟨⟨?_, ?_⟩, i7, nds.2.2.1, ?_⟩
    ·
     intro h; rcases i6 b h with h | h; exact nds.1.1 h; omega
    ·
     exact nds.1.2
    ·
     intro u hu v hv
     rintro rfl
     rcases i6 u hu with h | h
     ·
      exact nds.2.2.2 u h u hv rfl
     ·
      have := hlts u hv; omega
   have HN2 := Lib.hid nd2
   have HBA := Lib.hid (balance_any b y s2 r h e w3 g2 nd2 i3 HO.out.2 (by have := HSZ.out; simp only [List.length_cons] at hlen; omega))
   have HCH : Hid (Chg (AT.foot (.node b y l r h e)) w w3) := Lib.hid (((Chg.of_ext hE1).tr (i8.mono (by simp [AT.foot]; grind))).tr (g3.mono (by simp [AT.foot])))
   have HFT2 : Hid (∀ k ∈ AT.foot (.node b y s2 r h e), k ∈ AT.foot (.node b y l r h e) ∨ w.heap.size ≤ k) := Lib.hid (by
    intro k hk
    simp only [AT.foot, List.mem_cons, List.mem_append] at hk ⊢
    rcases hk with hk | hk | hk
    ·
     exact .inl (.inl hk)
    ·
     rcases i6 k hk with h | h
     ·
      exact .inl (.inr (.inl h))
     ·
      exact .inr (Nat.le_trans hsz1 h)
    ·
     exact .inl (.inr (.inr hk))
     skip
     skip)
   have HFL : Hid (SrI (AT.flat (.node b y s2 r h e)) ∧ (AT.flat (.node b y s2 r h e)).Perm (x :: AT.flat (.node b y l r h e))) := Lib.hid (by
    obtain ⟨m1, m2, m3, m4⟩ := SrI.mid HS.out
    constructor
    ·
     refine SrI.mk i4 m2 ?_ m4
     intro z hz
     rcases List.mem_cons.1 (i5.mem_iff.1 hz) with rfl | hz
     ·
      exact HC.out
     ·
      exact m3 z hz
    ·
     simp only [AT.flat]
     exact (i5.append_right _).trans (by simp))
   clear i2 i3 i4 i5 i6 i7 i8 k3 g3 hlen nds hlts gs3 gt3 g2 nd2
   unfold ptI at HBA
   refine Calls.mono HBA.out ?_
   rintro en3 w4 ⟨tt, rfl, b2, b3, b4, b5, b6⟩
   have HT := Lib.hid (And.intro b2 (And.intro b3 (And.intro b4 (And.intro b5 b6))))
   obtain ⟨pt, hpt⟩ := p_form tt
   have HPT := Lib.hid hpt
   rw [hpt]
   clear b2 b3 b4 b5 b6 HBA hpt
   go_wp2
   go_ret
   obtain ⟨b2, b3, b4, b5, b6⟩ := HT.out
   refine ⟨tt, by rw [HPT.out]; rfl, b2, b3, by rw [b4]; exact HFL.out.1, by rw [b4]; exact HFL.out.2, fun k hk => HFT2.out k (b5.mem_iff.1 hk), ?_, HCH.out.tr2 b6 HFT2.out⟩
   exact b5.nodup_iff.2 HN2.out

set_option maxRecDepth 100000 in
set_option maxHeartbeats 8000000 in
theorem insR (b : Nat) (x y : It) (l r : AT) (h e : Int) (w : World) (g : Gd w (.node b y l r h e)) (nd : (AT.foot (.node b y l r h e)).Nodup) (ol : l.Ok) (or : r.Ok) (hs : SrI (AT.flat (.node b y l r h e))) (sz : l.flat.length + r.flat.length ≤ 700000) (hc : itL y x)
  (IH : ∀ W, Ext w W → Calls Tryz.prog 52 #[r.p, itg x] W (InsE r x W)) :
  Calls Tryz.prog 52 #[ptI b, itg x] w (InsE (.node b y l r h e) x w) := by
 have ND := Lib.hid nd
 have HS := Lib.hid hs
 have HC := Lib.hid hc
 have HSZ := Lib.hid sz
 have HO := Lib.hid (And.intro ol or)
 simp only [AT.foot, List.nodup_cons, List.nodup_append, List.mem_cons, List.mem_append, not_or] at nd
 obtain ⟨kb, gl, gr⟩ := g
 have HCM := Lib.hid fun W (e : Ext w W) => ncomp_any b y x l.p r.p _ _ W (kb.ext e)
 have HKB := Lib.hid kb
 have HGl := Lib.hid gl
 have HGr := Lib.hid gr
 have HNB : Hid (b ∉ r.foot ∧ w.heap.size ∉ r.foot) := Lib.hid ⟨by grind, fun hk => by have := (gr.lt) _ hk; omega⟩
 have HIN := Lib.hid IH
 obtain ⟨pp, hpp⟩ := p_form r
 have HP := Lib.hid hpp
 obtain ⟨z, hz⟩ : ∃ z, itC y x = z := ⟨_, rfl⟩
 have hz0 : ¬ 0 < z := by
  rw [← hz]
  have := itC_lt.2 hc; omega
 rw [hz] at HCM
 rw [hpp] at HIN
 obtain ⟨hlt0, -, -, -, cb3, cb4, -, -, -, -, -, -⟩ := kb.f
 rw [hpp] at cb4
 clear nd hs hc sz ol or kb gl gr IH hpp hz
 unfold ptI at *
 go_enter Tryz.func52, Tryz.ntmps52
 go_wp2_with fail
 refine (HCM.out _ (ex_)).mono ?_
 rintro en1 w1 ⟨rfl, hb1⟩
 obtain ⟨x1, rfl⟩ := hb1.get
 clear hb1 HCM
 go_wp2_with fail
 refine wp_region_T 9 (S := (fun w' => w'.cell? ⟨b, 4, none⟩ = some (.pointer pp) ∧ w'.cell? ⟨w.heap.size, 0, none⟩ = some (.int .i64 x.1.1) ∧ w'.cell? ⟨w.heap.size, 1, none⟩ = some (.int .i64 x.1.2) ∧ w'.cell? ⟨w.heap.size, 2, none⟩ = some (.int .i64 x.2))) (by kernel_rfl) (by simp [go_sem, ↓IntWalk.iteOmega, *]) (fun hHeld => ?_)
 refine tkT 0 ?oi101 (?v101) ?hi101 ?hy101 ?_
 case hi101 => (simp only [gA, gS, gZ]; try rfl)
 case hy101 => (refine Or.inl ⟨by rfl, ?_⟩; intro wq hSw; (try dsimp only at hSw); go_simp; (try with_reducible rfl))
 (try simp only [Act.put, pA, pZ, pS])
 refine tkT 1 ?oi102 (?v102) ?hi102 ?hy102 ?_
 case hi102 => (simp only [gA, gS, gZ]; try rfl)
 case hy102 => (refine Or.inl ⟨by rfl, ?_⟩; intro wq hSw; (try dsimp only at hSw); go_simp; (try with_reducible rfl))
 (try simp only [Act.put, pA, pZ, pS])
 refine tkT 2 ?oi103 (?v103) ?hi103 ?hy103 ?_
 case hi103 => (simp only [gA, gS, gZ]; try rfl)
 case hy103 => (refine Or.inl ⟨by rfl, ?_⟩; intro wq hSw; (try dsimp only at hSw); go_simp; (try with_reducible rfl))
 (try simp only [Act.put, pA, pZ, pS])
 refine tkT 3 ?oi104 (?v104) ?hi104 ?hy104 ?_
 case hi104 => (simp only [gA, gS, gZ]; try rfl)
 case hy104 => (refine Or.inl ⟨by rfl, ?_⟩; intro wq hSw; (try dsimp only at hSw); go_simp; (try with_reducible rfl))
 (try simp only [Act.put, pA, pZ, pS])
 refine tkT 4 ?oi105 (?v105) ?hi105 ?hy105 ?_
 case hi105 => (simp only [gA, gS, gZ]; try rfl)
 case hy105 => (refine Or.inl ⟨by rfl, ?_⟩; intro wq hSw; (try dsimp only at hSw); go_simp; (try with_reducible rfl))
 (try simp only [Act.put, pA, pZ, pS])
 refine tkT 5 ?oi106 (?v106) ?hi106 ?hy106 ?_
 case hi106 => (simp only [gA, gS, gZ]; try rfl)
 case hy106 => (refine Or.inl ⟨by rfl, ?_⟩; intro wq hSw; (try dsimp only at hSw); go_simp; (try with_reducible rfl))
 (try simp only [Act.put, pA, pZ, pS])
 refine wpAnyT_ready (rs := [6]) (by kernel_rfl) (by simp) ?_
 refine AllReadyT.cons (o := ?oi107) ?hi107 ?ti107 AllReadyT.nil
 case hi107 => (simp only [gA, gS, gZ]; try rfl)
 case ti107 =>
  intro KQ hKQ
  go_simp
  go_at_call 52
  refine Calls.mono (HIN.out _ (ex_)) ?_
  rintro en2 w2 ⟨s2, rfl, i2, i3, i4, i5, i6, i7, i8⟩
  have kb2 := (HKB.out.ext (show Ext w (ext (w.alloc (.cells #[.int .i64 x.1.1, .int .i64 x.1.2, .int .i64 x.2] 132)) x1).drew from ex_)).chg i8 HNB.out.1
  obtain ⟨hlt2, -, -, -, cb3', cb4', -, -, fb3', fb4', -, -⟩ := kb2.f
  have d0 : w2.cell? ⟨w.heap.size, 0, none⟩ = some (.int .i64 x.1.1) := (World.cell?_of_block (i8.same _ (by simp [size_ext]; omega) HNB.out.2)).trans (by simp [go_sem, ↓IntWalk.iteOmega])
  have d1 : w2.cell? ⟨w.heap.size, 1, none⟩ = some (.int .i64 x.1.2) := (World.cell?_of_block (i8.same _ (by simp [size_ext]; omega) HNB.out.2)).trans (by simp [go_sem, ↓IntWalk.iteOmega])
  have d2 : w2.cell? ⟨w.heap.size, 2, none⟩ = some (.int .i64 x.2) := (World.cell?_of_block (i8.same _ (by simp [size_ext]; omega) HNB.out.2)).trans (by simp [go_sem, ↓IntWalk.iteOmega])
  obtain ⟨w3, s3, k3, g3⟩ := kb2.set4 s2.p
  have HI := Lib.hid (And.intro i2 (And.intro i3 (And.intro i4 (And.intro i5 (And.intro i6 (And.intro i7 i8))))))
  have HK3 := Lib.hid (And.intro k3 g3)
  obtain ⟨ps, hps⟩ := p_form s2
  have HPS := Lib.hid hps
  rw [hps] at s3 ⊢
  rw [HP.out] at cb4'
  clear i2 i3 i4 i5 i6 i7 i8 kb2 k3 g3 hps
  refine hKQ.out _ _ (by simp [go_sem, ↓IntWalk.iteOmega, *]) (fun hHeld2 => ?_)
  clear hHeld hKQ KQ; have hHeld := hHeld2; clear hHeld2
  (try simp only [Act.put, pA, pZ, pS])
  refine tkT 7 ?oi108 (?v108) ?hi108 ?hy108 ?_
  case hi108 => (simp only [gA, gS, gZ]; try rfl)
  case hy108 => (refine Or.inl ⟨by rfl, ?_⟩; intro wq hSw; (try dsimp only at hSw); go_simp; (try with_reducible rfl))
  (try simp only [Act.put, pA, pZ, pS])
  refine tkT 8 ?oi109 (?v109) ?hi109 ?hy109 ?_
  case hi109 => (simp only [gA, gS, gZ]; try rfl)
  case hy109 => (refine Or.inl ⟨by rfl, ?_⟩; intro wq hSw; (try dsimp only at hSw); go_simp; (try with_reducible rfl))
  (try simp only [Act.put, pA, pZ, pS])
  refine wpAnyT_ready (rs := [9]) (by kernel_rfl) (by simp) ?_
  refine AllReadyT.last (o := ?oi110) ?hi110 ?ti110
  case hi110 => (simp only [gA, gS, gZ]; try rfl)
  case ti110 =>
   intro KQ hKQ
   go_simp
   (repeat (simp only [go_sem, ↓IntWalk.iteOmega, ↓reduceIte, Bool.false_eq_true]; (try go_simp)))
   refine hKQ.out _ _ ?_
   clear hKQ KQ hHeld
   (try simp only [Act.put, pA, pZ, pS])
   refine wpAnyT_done (by kernel_rfl) ?_ _
   go_wp2_with fail
   obtain ⟨i2, i3, i4, i5, i6, i7, i8⟩ := HI.out
   obtain ⟨k3, g3⟩ := HK3.out
   have hE1 : Ext w (ext (w.alloc (.cells #[.int .i64 x.1.1, .int .i64 x.1.2, .int .i64 x.2] 132)) x1).drew := ex_
   have hlen := i5.length_eq
   have nds := ND.out
   simp only [AT.foot, List.nodup_cons, List.nodup_append, List.mem_cons, List.mem_append, not_or] at nds
   have hlts : ∀ k ∈ AT.foot l, k < w.heap.size := HGl.out.lt
   have hltb := HKB.out.f.lt
   have hsz1 : w.heap.size ≤ (ext (w.alloc (.cells #[.int .i64 x.1.1, .int .i64 x.1.2, .int .i64 x.2] 132)) x1).drew.heap.size := hE1.size
   have gs3 := i2.chg g3 (by
    intro k hk hq
    simp at hq
    subst hq
    rcases i6 k hk with h | h
    ·
     grind
    ·
     omega)
   have gt3 : Gd w3 l := ((HGl.out.ext hE1).chg i8 (by grind)).chg g3 (by
    intro k hk hq
    simp at hq
    subst hq
    grind)
   have g2 : Gd w3 (.node b y l s2 h e) := ⟨k3, gt3, gs3⟩
   have nd2 : (AT.foot (.node b y l s2 h e)).Nodup := by
    simp only [AT.foot, List.nodup_cons, List.nodup_append, List.mem_append, not_or]
    refine ⟨⟨?_, ?_⟩, nds.2.1, i7, ?_⟩
    ·
     exact nds.1.1
    ·
     intro h; rcases i6 b h with h | h; exact nds.1.2 h; omega
    ·
     intro u hu v hv
     rintro rfl
     rcases i6 u hv with h | h
     ·
      exact nds.2.2.2 u hu u h rfl
     ·
      have := hlts u hu; omega
   have HN2 := Lib.hid nd2
   have HBA := Lib.hid (balance_any b y l s2 h e w3 g2 nd2 HO.out.1 i3 (by have := HSZ.out; simp only [List.length_cons] at hlen; omega))
   have HCH : Hid (Chg (AT.foot (.node b y l r h e)) w w3) := Lib.hid (((Chg.of_ext hE1).tr (i8.mono (by simp [AT.foot]; grind))).tr (g3.mono (by simp [AT.foot])))
   have HFT2 : Hid (∀ k ∈ AT.foot (.node b y l s2 h e), k ∈ AT.foot (.node b y l r h e) ∨ w.heap.size ≤ k) := Lib.hid (by
    intro k hk
    simp only [AT.foot, List.mem_cons, List.mem_append] at hk ⊢
    rcases hk with hk | hk | hk
    ·
     exact .inl (.inl hk)
    ·
     exact .inl (.inr (.inl hk))
     skip
     skip
    ·
     rcases i6 k hk with h | h
     ·
      exact .inl (.inr (.inr h))
     ·
      exact .inr (Nat.le_trans hsz1 h))
   have HFL : Hid (SrI (AT.flat (.node b y l s2 h e)) ∧ (AT.flat (.node b y l s2 h e)).Perm (x :: AT.flat (.node b y l r h e))) := Lib.hid (by
    obtain ⟨m1, m2, m3, m4⟩ := SrI.mid HS.out
    constructor
    ·
     refine SrI.mk m1 i4 m3 ?_
     intro z hz
     rcases List.mem_cons.1 (i5.mem_iff.1 hz) with rfl | hz
     ·
      exact HC.out
     ·
      exact m4 z hz
    ·
     simp only [AT.flat]
     exact ((i5.cons y).append_left l.flat).trans (perm_ins l.flat r.flat x y))
   clear i2 i3 i4 i5 i6 i7 i8 k3 g3 hlen nds hlts gs3 gt3 g2 nd2
   unfold ptI at HBA
   refine Calls.mono HBA.out ?_
   rintro en3 w4 ⟨tt, rfl, b2, b3, b4, b5, b6⟩
   have HT := Lib.hid (And.intro b2 (And.intro b3 (And.intro b4 (And.intro b5 b6))))
   obtain ⟨pt, hpt⟩ := p_form tt
   have HPT := Lib.hid hpt
   rw [hpt]
   clear b2 b3 b4 b5 b6 HBA hpt
   go_wp2
   go_ret
   obtain ⟨b2, b3, b4, b5, b6⟩ := HT.out
   refine ⟨tt, by rw [HPT.out]; rfl, b2, b3, by rw [b4]; exact HFL.out.1, by rw [b4]; exact HFL.out.2, fun k hk => HFT2.out k (b5.mem_iff.1 hk), ?_, HCH.out.tr2 b6 HFT2.out⟩
   exact b5.nodup_iff.2 HN2.out

theorem insert_any (x : It) : ∀ (t : AT) (w : World), Gd w t → t.foot.Nodup → t.Ok → SrI t.flat → x ∉ t.flat → t.flat.length ≤ 700000 → Calls Tryz.prog 52 #[t.p, itg x] w (InsE t x w)
 | .nil, w, _, _, _, _, _, _ => ins_nil x w
 | .node b y l r h e, w, g, nd, ok, hs, hx, sz => by
  have nd' := nd
  simp only [AT.foot, List.nodup_cons, List.nodup_append] at nd'
  simp only [AT.flat, List.mem_append, List.mem_cons, not_or] at hx
  have sz' := sz
  simp only [AT.flat, List.length_append, List.length_cons] at sz'
  obtain ⟨s1, s2, _, _⟩ := SrI.mid (show SrI (l.flat ++ y :: r.flat) from hs)
  rcases itL_tri x y with hl | rfl | hl
  ·
   exact insL b x y l r h e w g nd ok.1 ok.2.1 hs (by omega) hl fun W E => insert_any x l W (g.2.1.ext E) nd'.2.1 ok.1 s1 hx.1 (by omega)
  ·
   exact absurd rfl hx.2.1
  ·
   exact insR b x y l r h e w g nd ok.1 ok.2.1 hs (by omega) hl fun W E => insert_any x r W (g.2.2.ext E) nd'.2.2.1 ok.2.1 s2 hx.2.2 (by omega)

end Go.Proofs.YtdiaecgpjgdkdaaGreat
