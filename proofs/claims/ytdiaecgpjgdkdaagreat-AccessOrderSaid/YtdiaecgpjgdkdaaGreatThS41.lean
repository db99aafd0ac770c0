/- Lemmas for the rows: AcP AcV AcF. -/
import Derived.Test.YtdiaecgpjgdkdaaGreatThS32
import Derived.Test.YtdiaecgpjgdkdaaGreatThS17
import Derived.Test.YtdiaecgpjgdkdaaGreatThS24
import Derived.Test.YtdiaecgpjgdkdaaGreatThS02
import Derived.Test.YtdiaecgpjgdkdaaGreatThS38
import Derived.Test.YtdiaecgpjgdkdaaGreatThS39
import Derived.Test.YtdiaecgpjgdkdaaGreatThS37
import Derived.Test.YtdiaecgpjgdkdaaGreatThS28
import Derived.Test.YtdiaecgpjgdkdaaGreatThS09
import Derived.Shelf.SlSortCmp.InsertionK
import Derived.Test.YtdiaecgpjgdkdaaGreatThS05
import Derived.Test.YtdiaecgpjgdkdaaGreatThS40
set_option linter.unusedSimpArgs false
set_option linter.unusedVariables false
namespace Go.Proofs.YtdiaecgpjgdkdaaGreat
open Go.RowKit

structure VC where
 id : Int
 sch : Int
 row : List Va
 v : Int × Int
 s : Int × Int
 by_ : Int
 un : Int
def vcO (p : VeA) : VC := ⟨p.id, p.sch, p.row.l, p.v, p.s, p.by_, p.un⟩
def befC (a b : VC) : Bool := if a.id = b.id then (if a.s.1 = b.s.1 then decide (a.v.1 < b.v.1) else decide (a.s.1 < b.s.1)) else decide (a.id < b.id)
theorem befC_of (p q : VeA) : befV p q = befC (vcO p) (vcO q) := rfl
theorem befC_iff (a b : VC) : befC a b = true ↔ a.id < b.id ∨ a.id = b.id ∧ (a.s.1 < b.s.1 ∨ a.s.1 = b.s.1 ∧ a.v.1 < b.v.1) := by
 unfold befC
 split
 ·
  split
  ·
   simp; omega
  ·
   simp; omega
 ·
  simp; omega
theorem befC_trans {a b c : VC} (h : befC a b = true) (k : befC b c = true) : befC a c = true := by
 rw [befC_iff] at *; omega
theorem befC_asymm {a b : VC} (h : befC a b = true) : befC b a = false := by
 rw [Bool.eq_false_iff]
 intro k
 rw [befC_iff] at *; omega
theorem swoC : Swo befC := by
 refine ⟨fun x y h => befC_asymm h, fun x y z h => ?_⟩
 rw [befC_iff] at *
 rw [befC_iff]
 omega
def Dis (L : List VC) : Prop := L.Pairwise fun a b => befC a b = true ∨ befC b a = true
theorem Dis.perm {L M : List VC} (h : Dis L) (p : L.Perm M) : Dis M := (List.Perm.pairwise_iff (fun h => h.symm) p).1 h
def Asc (L : List VC) : Prop := L.Pairwise fun a b => befC a b = true
theorem asc_same : ∀ {a b : List VC}, Asc a → Asc b → a.Perm b → a = b
 | [], b, _, _, p => (List.Perm.nil_eq p)
 | x :: a, [], _, _, p => absurd p.symm (by simp)
 | x :: a, y :: b, ha, hb, p => by
  obtain ⟨h1, h2⟩ := List.pairwise_cons.1 ha
  obtain ⟨k1, k2⟩ := List.pairwise_cons.1 hb
  have hxy : x = y := by
   rcases List.mem_cons.1 (p.mem_iff.1 (List.mem_cons_self)) with h | h
   ·
    exact h
   ·
    rcases List.mem_cons.1 (p.mem_iff.2 (List.mem_cons_self)) with k | k
    ·
     exact k.symm
    ·
     have e1 := k1 x h
     have e2 := h1 y k
     rw [befC_asymm e1] at e2
     cases e2
  subst hxy
  rw [asc_same h2 k2 (List.Perm.cons_inv p)]
def srtC (L : List VC) : List VC := isort befC L
theorem srtC_perm (L : List VC) : (srtC L).Perm L := isort_perm L
theorem srtC_asc {L : List VC} (h : Dis L) : Asc (srtC L) := by
 have h1 := isort_srt swoC L
 have h2 : Dis (srtC L) := h.perm (srtC_perm L).symm
 refine List.Pairwise.imp₂ (fun a b h k => ?_) h1 h2
 rcases k with k | k
 ·
  exact k
 ·
  rw [h] at k; cases k
def insC (out : List VC) (x : VC) : List VC := out.takeWhile (fun y => befC y x) ++ x :: out.dropWhile (fun y => befC y x)
theorem insC_perm (out : List VC) (x : VC) : (insC out x).Perm (x :: out) := by
 unfold insC
 refine List.perm_middle.trans ?_
 rw [List.takeWhile_append_dropWhile]
theorem insC_asc : ∀ {out : List VC} {x : VC}, Asc out → (∀ y ∈ out, befC y x = true ∨ befC x y = true) → Asc (insC out x)
 | [], x, _, _ => by simp [insC, Asc]
 | y :: out, x, h, k => by
  obtain ⟨h1, h2⟩ := List.pairwise_cons.1 h
  rcases k y (List.mem_cons_self) with e | e
  ·
   have ih := insC_asc h2 (fun z hz => k z (List.mem_cons_of_mem _ hz))
   have e2 : insC (y :: out) x = y :: insC out x := by simp [insC, List.takeWhile_cons, List.dropWhile_cons, e]
   rw [e2]
   refine List.pairwise_cons.2 ⟨fun z hz => ?_, ih⟩
   rcases List.mem_cons.1 ((insC_perm out x).mem_iff.1 hz) with rfl | hz
   ·
    exact e
   ·
    exact h1 z hz
  ·
   have e2 : insC (y :: out) x = x :: y :: out := by simp [insC, List.takeWhile_cons, List.dropWhile_cons, befC_asymm e]
   rw [e2]
   refine List.pairwise_cons.2 ⟨fun z hz => ?_, h⟩
   rcases List.mem_cons.1 hz with rfl | hz
   ·
    exact e
   ·
    exact befC_trans e (h1 z hz)
def fetC (f : VC → Bool) (L : List VC) : List VC := L.foldl (fun out x => if f x then insC out x else out) []
theorem fet_fold (f : VC → Bool) : ∀ (L acc : List VC), (L.foldl (fun out x => if f x then insC out x else out) acc).Perm (acc ++ L.filter f)
 | [], acc => by simp
 | x :: L, acc => by
  rw [List.foldl_cons, List.filter_cons]
  split
  ·
   refine (fet_fold f L _).trans (((insC_perm acc x).append_right _).trans ?_)
   exact List.perm_middle.symm
  ·
   exact fet_fold f L acc
theorem fet_asc (f : VC → Bool) : ∀ (L acc : List VC), Asc acc → Dis (acc ++ L) → Asc (L.foldl (fun out x => if f x then insC out x else out) acc)
 | [], acc, h, _ => h
 | x :: L, acc, h, d => by
  rw [List.foldl_cons]
  have d' : Dis (x :: (acc ++ L)) := d.perm List.perm_middle
  obtain ⟨d1, d2⟩ := List.pairwise_cons.1 d'
  split
  ·
   refine fet_asc f L _ (insC_asc h fun y hy => (d1 y (List.mem_append_left _ hy)).symm) ?_
   exact d'.perm (List.Perm.append_right L (insC_perm acc x).symm)
  ·
   exact fet_asc f L acc h d2
theorem fetC_eq {L : List VC} (h : Dis L) (f : VC → Bool) : fetC f L = (srtC L).filter f := by
 refine asc_same (fet_asc f L [] List.Pairwise.nil h) (List.Pairwise.filter f (srtC_asc h)) ?_
 exact (fet_fold f L []).trans ((srtC_perm L).symm.filter f)
theorem dis_of {kl : List Int} {vs : List VeA} (h : SndP kl vs vs.length) : Dis (vs.map vcO) := by
 refine List.pairwise_map.2 (List.pairwise_iff_getElem.2 fun i j hi hj hij => ?_)
 have := h.2 j i vs[j] vs[i] hij hj (List.getElem?_eq_getElem hj) (List.getElem?_eq_getElem hi)
 rw [befC_of, befC_of] at this
 exact this.symm
theorem compact_ascC (l : List Int) : (Lib.compact (l.mergeSort fun x y => decide (x ≤ y))).Pairwise (· < ·) ∧ ∀ z, z ∈ Lib.compact (l.mergeSort fun x y => decide (x ≤ y)) ↔ z ∈ l := by
 have hp := List.mergeSort_perm l (fun x y => decide (x ≤ y))
 have hs : (l.mergeSort fun x y => decide (x ≤ y)).Pairwise (fun x y => decide (x ≤ y) = true) := List.pairwise_mergeSort (by intro a b c; simp; omega) (by intro a b; simp; omega) _
 generalize l.mergeSort (fun x y => decide (x ≤ y)) = zs at hp hs
 have h := compactUpTo_asc zs.toArray (fun i j hij hj => by
  have hj' : j < zs.length := by simpa using hj
  have := List.pairwise_iff_getElem.1 hs i j (by omega) hj' hij
  rw [getElem!_pos zs.toArray i (by simp; omega), getElem!_pos zs.toArray j hj]
  simpa using this) zs.length (by simp)
 refine ⟨h.1, fun z => (h.2 z).trans ?_⟩
 rw [← hp.mem_iff, List.mem_iff_getElem]
 constructor
 ·
  rintro ⟨j, hj, he⟩
  exact ⟨j, hj, by rw [getElem!_pos zs.toArray j (by simpa using hj)] at he; simpa using he⟩
 ·
  rintro ⟨j, hj, he⟩
  exact ⟨j, hj, by rw [getElem!_pos zs.toArray j (by simpa using hj)]; simpa using he⟩
theorem pick_aux (f : VC → Bool) : ∀ (S : List VC) (m : Nat), m ≤ S.length → ((List.range m).filter fun i => match S[i]? with | some c => f c | none => false).map (fun i => S[i]?) = ((S.take m).filter f).map some
 | S, 0, _ => by simp
 | S, m + 1, h => by
  have hm : m < S.length := by omega
  have e : S[m]? = some S[m] := List.getElem?_eq_getElem hm
  rw [List.range_succ, List.filter_append, List.map_append, pick_aux f S m (by omega), List.take_succ_eq_append_getElem hm, List.filter_append, List.map_append]
  congr 1
  rw [List.filter_cons, List.filter_cons]
  simp only [e]
  split <;> simp [e]
theorem asc_range (g : Nat → Bool) (n : Nat) : (((List.range n).filter g).map fun i : Nat => (i : Int)).Pairwise (· < ·) := by
 refine List.pairwise_map.2 ((List.Pairwise.filter g List.pairwise_lt_range).imp fun {a b} h => ?_)
 omega
theorem pick_eq (f : VC → Bool) (S : List VC) (J : List Int) (hJ : ∀ z, z ∈ J ↔ ∃ i c, S[i]? = some c ∧ z = (i : Nat) ∧ f c = true) :
  ∃ cs : List Nat, Lib.compact (J.mergeSort fun x y => decide (x ≤ y)) = cs.map (fun i : Nat => (i : Int)) ∧ cs.map (fun i => S[i]?) = (S.filter f).map some := by
 refine ⟨(List.range S.length).filter fun i => match S[i]? with | some c => f c | none => false, ?_, ?_⟩
 ·
  obtain ⟨h1, h2⟩ := compact_ascC J
  refine asc_unique h1 (asc_range _ _) fun z => ?_
  rw [h2, hJ]
  simp only [List.mem_map, List.mem_filter, List.mem_range]
  constructor
  ·
   rintro ⟨i, c, hc, rfl, hf⟩
   exact ⟨i, ⟨(List.getElem?_eq_some_iff.1 hc).1, by simp only [hc, hf]⟩, rfl⟩
  ·
   rintro ⟨i, ⟨hi, hf⟩, rfl⟩
   have e : S[i]? = some S[i] := List.getElem?_eq_getElem hi
   simp only [e] at hf
   exact ⟨i, S[i], e, rfl, hf⟩
 ·
  have := pick_aux f S S.length (Nat.le_refl _)
  rwa [List.take_length] at this
def hasC (ks : List Int) (k : Int) (key : List Va) (p q : Int × Int) (c : VC) : Bool := matB k key (ks.map (atV c.row)) c.v c.s p q
end Go.Proofs.YtdiaecgpjgdkdaaGreat

namespace Go.Proofs.YtdiaecgpjgdkdaaGreat
open Go.Shelf Go.RowKit Go.Lib Go.Sort

abbrev vgA (p : VeA) : Value := (.agg #[.int .i64 p.id, .int .i64 p.sch, .slice p.row.A p.row.l.length p.row.c, .int .i64 p.v.1, .int .i64 p.v.2, .int .i64 p.s.1, .int .i64 p.s.2, .int .i64 p.by_, .int .i64 p.un])
theorem elVeA : El Tryz.prog 28 47 (.agg #[.int .i64 0, .int .i64 0, .slice none 0 0, .int .i64 0, .int .i64 0, .int .i64 0, .int .i64 0, .int .i64 0, .int .i64 0]) 9 88 := ⟨Tryz.underlying28, info_parts (by kernel_rfl), rfl, by decide⟩
theorem oneCell_ve (p : VeA) : ∀ u ∈ encVe p, u.oneCell' = true := by
 intro u hu; simp [encVe] at hu; rcases hu with rfl | rfl | rfl | rfl | rfl | rfl | rfl | rfl | rfl <;> rfl
instance : Inhabited VeA := ⟨⟨0, 0, {A := none, c := 0, l := []}, (0, 0), (0, 0), 0, 0⟩⟩
def cfA (x y : VeA) : Int := orF [cmpI x.id y.id, cmpI x.s.1 y.s.1, cmpI x.v.1 y.v.1]
theorem cfA_neg (x y : VeA) : decide (cfA x y < 0) = befC (vcO x) (vcO y) := by
 rw [Bool.eq_iff_iff, decide_eq_true_eq, befC_iff]
 unfold cfA cmpI vcO
 simp only [orF]
 split <;> split <;> (repeat' split) <;> omega
theorem swoA : Swo (ltOf cfA) := by
 refine ⟨fun x y h => ?_, fun x y z h => ?_⟩
 ·
  unfold ltOf at *
  rw [cfA_neg] at *
  exact befC_asymm h
 ·
  unfold ltOf at *
  rw [cfA_neg] at *
  rw [cfA_neg]
  rw [befC_iff] at *
  rw [befC_iff]
  omega
set_option maxRecDepth 100000 in
set_option maxHeartbeats 4000000 in
theorem closureA (x y : VeA) (W : World) : Calls Tryz.prog 24 #[vgA x, vgA y] W fun e w' => e = .returned (.int .i64 (cfA x y)) ∧ ∃ q os', w' = grow (W.drewN q) os' := by
 have HV : Hid (cfA x y = orF [cmpI x.id y.id, cmpI x.s.1 y.s.1, cmpI x.v.1 y.v.1]) := Lib.hid rfl
 have HO := Lib.hid (fun A w h => or_any A [cmpI x.id y.id, cmpI x.s.1 y.s.1, cmpI x.v.1 y.v.1] 3 w h (by simp))
 have H1 := Lib.hid (fun w => cmpI_any x.id y.id w)
 have H2 := Lib.hid (fun w => cmpI_any x.s.1 y.s.1 w)
 have H3 := Lib.hid (fun w => cmpI_any x.v.1 y.v.1 w)
 generalize cmpI x.id y.id = c1 at HV HO H1
 generalize cmpI x.s.1 y.s.1 = c2 at HV HO H2
 generalize cmpI x.v.1 y.v.1 = c3 at HV HO H3
 rw [← HV.out] at HO
 generalize cfA x y = c at HO ⊢
 go_enter Tryz.func24, Tryz.ntmps24
 go_wp2_with fail
 refine wp_region_held_drew (S := (fun w' => w'.cell? ⟨W.heap.size, 0, none⟩ = some (.int .i64 x.id) ∧ w'.cell? ⟨W.heap.size, 5, none⟩ = some (.int .i64 x.s.1) ∧ w'.cell? ⟨W.heap.size, 3, none⟩ = some (.int .i64 x.v.1) ∧ w'.cell? ⟨W.heap.size + 1, 0, none⟩ = some (.int .i64 y.id) ∧ w'.cell? ⟨W.heap.size + 1, 5, none⟩ = some (.int .i64 y.s.1) ∧ w'.cell? ⟨W.heap.size + 1, 3, none⟩ = some (.int .i64 y.v.1))) (by kernel_rfl) (by simp [go_sem, ↓IntWalk.iteOmega, *]) (fun hHeld => ?_)
 refine tkH 0 ?oi1 (?v1) ?hi1 ?hy1 ?_
 case hi1 => (simp only [gA, gS, gZ]; try rfl)
 case hy1 => (refine Or.inl ⟨by rfl, ?_⟩; intro wq hSw; (try dsimp only at hSw); go_simp; (try with_reducible rfl))
 (try simp only [Act.put, pA, pZ, pS])
 refine tkH 1 ?oi2 (?v2) ?hi2 ?hy2 ?_
 case hi2 => (simp only [gA, gS, gZ]; try rfl)
 case hy2 => (refine Or.inl ⟨by rfl, ?_⟩; intro wq hSw; (try dsimp only at hSw); go_simp; (try with_reducible rfl))
 (try simp only [Act.put, pA, pZ, pS])
 refine tkH 2 ?oi3 (?v3) ?hi3 ?hy3 ?_
 case hi3 => (simp only [gA, gS, gZ]; try rfl)
 case hy3 => (refine Or.inl ⟨by rfl, ?_⟩; intro wq hSw; (try dsimp only at hSw); go_simp; (try with_reducible rfl))
 (try simp only [Act.put, pA, pZ, pS])
 refine tkH 3 ?oi4 (?v4) ?hi4 ?hy4 ?_
 case hi4 => (simp only [gA, gS, gZ]; try rfl)
 case hy4 => (refine Or.inl ⟨by rfl, ?_⟩; intro wq hSw; (try dsimp only at hSw); go_simp; (try with_reducible rfl))
 (try simp only [Act.put, pA, pZ, pS])
 refine tkH 5 ?oi5 (?v5) ?hi5 ?hy5 ?_
 case hi5 => (simp only [gA, gS, gZ]; try rfl)
 case hy5 => (refine Or.inl ⟨by rfl, ?_⟩; intro wq hSw; (try dsimp only at hSw); go_simp; (try with_reducible rfl))
 (try simp only [Act.put, pA, pZ, pS])
 refine tkH 6 ?oi6 (?v6) ?hi6 ?hy6 ?_
 case hi6 => (simp only [gA, gS, gZ]; try rfl)
 case hy6 => (refine Or.inl ⟨by rfl, ?_⟩; intro wq hSw; (try dsimp only at hSw); go_simp; (try with_reducible rfl))
 (try simp only [Act.put, pA, pZ, pS])
 refine tkH 7 ?oi7 (?v7) ?hi7 ?hy7 ?_
 case hi7 => (simp only [gA, gS, gZ]; try rfl)
 case hy7 => (refine Or.inl ⟨by rfl, ?_⟩; intro wq hSw; (try dsimp only at hSw); go_simp; (try with_reducible rfl))
 (try simp only [Act.put, pA, pZ, pS])
 refine tkH 8 ?oi8 (?v8) ?hi8 ?hy8 ?_
 case hi8 => (simp only [gA, gS, gZ]; try rfl)
 case hy8 => (refine Or.inl ⟨by rfl, ?_⟩; intro wq hSw; (try dsimp only at hSw); go_simp; (try with_reducible rfl))
 (try simp only [Act.put, pA, pZ, pS])
 refine tkH 9 ?oi9 (?v9) ?hi9 ?hy9 ?_
 case hi9 => (simp only [gA, gS, gZ]; try rfl)
 case hy9 => (refine Or.inl ⟨by rfl, ?_⟩; intro wq hSw; (try dsimp only at hSw); go_simp; (try with_reducible rfl))
 (try simp only [Act.put, pA, pZ, pS])
 refine tkH 10 ?oi10 (?v10) ?hi10 ?hy10 ?_
 case hi10 => (simp only [gA, gS, gZ]; try rfl)
 case hy10 => (refine Or.inl ⟨by rfl, ?_⟩; intro wq hSw; (try dsimp only at hSw); go_simp; (try with_reducible rfl))
 (try simp only [Act.put, pA, pZ, pS])
 refine tkH 12 ?oi11 (?v11) ?hi11 ?hy11 ?_
 case hi11 => (simp only [gA, gS, gZ]; try rfl)
 case hy11 => (refine Or.inl ⟨by rfl, ?_⟩; intro wq hSw; (try dsimp only at hSw); go_simp; (try with_reducible rfl))
 (try simp only [Act.put, pA, pZ, pS])
 refine tkH 13 ?oi12 (?v12) ?hi12 ?hy12 ?_
 case hi12 => (simp only [gA, gS, gZ]; try rfl)
 case hy12 => (refine Or.inl ⟨by rfl, ?_⟩; intro wq hSw; (try dsimp only at hSw); go_simp; (try with_reducible rfl))
 (try simp only [Act.put, pA, pZ, pS])
 refine tkH 14 ?oi13 (?v13) ?hi13 ?hy13 ?_
 case hi13 => (simp only [gA, gS, gZ]; try rfl)
 case hy13 => (refine Or.inl ⟨by rfl, ?_⟩; intro wq hSw; (try dsimp only at hSw); go_simp; (try with_reducible rfl))
 (try simp only [Act.put, pA, pZ, pS])
 refine tkH 15 ?oi14 (?v14) ?hi14 ?hy14 ?_
 case hi14 => (simp only [gA, gS, gZ]; try rfl)
 case hy14 => (refine Or.inl ⟨by rfl, ?_⟩; intro wq hSw; (try dsimp only at hSw); go_simp; (try with_reducible rfl))
 (try simp only [Act.put, pA, pZ, pS])
 refine tkH 16 ?oi15 (?v15) ?hi15 ?hy15 ?_
 case hi15 => (simp only [gA, gS, gZ]; try rfl)
 case hy15 => (refine Or.inl ⟨by rfl, ?_⟩; intro wq hSw; (try dsimp only at hSw); go_simp; (try with_reducible rfl))
 (try simp only [Act.put, pA, pZ, pS])
 refine tkH 17 ?oi16 (?v16) ?hi16 ?hy16 ?_
 case hi16 => (simp only [gA, gS, gZ]; try rfl)
 case hy16 => (refine Or.inl ⟨by rfl, ?_⟩; intro wq hSw; (try dsimp only at hSw); go_simp; (try with_reducible rfl))
 (try simp only [Act.put, pA, pZ, pS])
 refine wpAnyH_ready (rs := [4]) (by kernel_rfl) (by simp) ?_
 refine AllReadyH.cons (o := ?oi17) ?hi17 ?ti17 AllReadyH.nil
 case hi17 => (simp only [gA, gS, gZ]; try rfl)
 case ti17 =>
  intro KQ hKQ
  go_simp
  (go_at_call 46; (refine (H1.out _).mono ?_); rintro e w1 ⟨rfl, rfl⟩)
  refine hKQ.out _ _ (by simp [go_sem, ↓IntWalk.iteOmega, *]) (fun hHeld2 => ?_)
  clear hHeld hKQ KQ; have hHeld := hHeld2; clear hHeld2
  (try simp only [Act.put, pA, pZ, pS])
  refine wpAnyH_ready (rs := [11]) (by kernel_rfl) (by simp) ?_
  refine AllReadyH.cons (o := ?oi18) ?hi18 ?ti18 AllReadyH.nil
  case hi18 => (simp only [gA, gS, gZ]; try rfl)
  case ti18 =>
   intro KQ hKQ
   go_simp
   (go_at_call 46; (refine (H2.out _).mono ?_); rintro e w1 ⟨rfl, rfl⟩)
   refine hKQ.out _ _ (by simp [go_sem, ↓IntWalk.iteOmega, *]) (fun hHeld2 => ?_)
   clear hHeld hKQ KQ; have hHeld := hHeld2; clear hHeld2
   (try simp only [Act.put, pA, pZ, pS])
   refine wpAnyH_ready (rs := [18]) (by kernel_rfl) (by simp) ?_
   refine AllReadyH.cons (o := ?oi19) ?hi19 ?ti19 AllReadyH.nil
   case hi19 => (simp only [gA, gS, gZ]; try rfl)
   case ti19 =>
    intro KQ hKQ
    go_simp
    (go_at_call 46; (refine (H3.out _).mono ?_); rintro e w1 ⟨rfl, rfl⟩)
    refine hKQ.out _ _ (by simp [go_sem, ↓IntWalk.iteOmega, *]) (fun hHeld2 => ?_)
    clear hHeld hKQ KQ; have hHeld := hHeld2; clear hHeld2
    (try simp only [Act.put, pA, pZ, pS])
    refine wpAnyH_ready (rs := [19]) (by kernel_rfl) (by simp) ?_
    refine AllReadyH.cons (o := ?oi20) ?hi20 ?ti20 AllReadyH.nil
    case hi20 => (simp only [gA, gS, gZ]; try rfl)
    case ti20 =>
     intro KQ hKQ
     go_simp
     refine hKQ.out _ _ (by simp [go_sem, ↓IntWalk.iteOmega, *]) (fun hHeld2 => ?_)
     clear hHeld hKQ KQ; have hHeld := hHeld2; clear hHeld2
     (try simp only [Act.put, pA, pZ, pS])
     refine wpAnyH_ready (rs := [20]) (by kernel_rfl) (by simp) ?_
     refine AllReadyH.cons (o := ?oi21) ?hi21 ?ti21 AllReadyH.nil
     case hi21 => (simp only [gA, gS, gZ]; try rfl)
     case ti21 =>
      intro KQ hKQ
      go_simp
      go_at_call 45
      refine Calls.mono (HO.out _ _ (Rd.lit _ #[.int .i64 c1, .int .i64 c2, .int .i64 c3] _ 3 1 rfl ?hbq)) ?_
      case hbq => first | rfl | simp [go_sem, size_ext]
      rintro e w1 ⟨rfl, rfl⟩
      refine hKQ.out _ _ (by simp [go_sem, ↓IntWalk.iteOmega, *]) (fun hHeld2 => ?_)
      clear hHeld hKQ KQ; have hHeld := hHeld2; clear hHeld2
      (try simp only [Act.put, pA, pZ, pS])
      refine tkH 21 ?oi22 (?v22) ?hi22 ?hy22 ?_
      case hi22 => (simp only [gA, gS, gZ]; try rfl)
      case hy22 => (refine Or.inl ⟨by rfl, ?_⟩; intro wq hSw; (try dsimp only at hSw); go_simp; (try with_reducible rfl))
      (try simp only [Act.put, pA, pZ, pS])
      refine wpAnyH_done (by kernel_rfl) ?_ _
      go_wp2
      go_ret
      exact ⟨rfl, 1, _, by first | (rw [alloc_eq_grow, alloc_eq_grow, alloc_eq_grow, grow_grow, grow_grow]; rfl) | (rw [alloc_eq_grow, alloc_eq_grow, grow_grow]; rfl)⟩
theorem cmpA_lays (blk off size : Nat) (w : World) : CmpLays Tryz.prog 24 #[] encVe 9 cfA blk off size w :=
 fun _ _ _ _ x y => closureA x y _

theorem grown_sortedA {w : World} {x : Add} {g : Nat} (F : Array Value) (m : Nat) (os : Array Obj) : (ext w x).grownBy (grow (putRow id (Go.Sort.ahead (ext w x) m) g 0 F) os) (some g) := by
 refine ⟨rfl, rfl, rfl, ?_, fun k hk hne => ?_⟩
 ·
  simp [putRow, mapBlock, Go.Sort.ahead, grow]
 ·
  have h1 : (grow (putRow id (Go.Sort.ahead (ext w x) m) g 0 F) os).heap[k]? = (putRow id (Go.Sort.ahead (ext w x) m) g 0 F).heap[k]? := by
   show ((putRow id (Go.Sort.ahead (ext w x) m) g 0 F).heap ++ os)[k]? = _
   rw [Array.getElem?_append_left]
   simp [putRow, mapBlock, Go.Sort.ahead]
   simpa using hk
  rw [h1]
  simp only [putRow, mapBlock, Go.Sort.ahead, Array.getElem?_modify]
  rw [if_neg (fun he => hne (by rw [he]))]

theorem insA_nil (A : Option Addr) (cap : Nat) (w : World) : Calls Tryz.prog 83 #[.slice A 0 cap, .int .i64 0, .int .i64 0, .func (.func 24) #[] #[]] w fun e w' => e = .returned (.tuple #[]) ∧ w' = w := by
 go_enter Tryz.func83, Tryz.ntmps83
 go_wp2
 go_loop [8] (fun s => s = .int .i64 1) (fun _ => 0)
 case atStart => rfl
 case round =>
  subst hrel
  go_wp2
  go_end0
  exact ⟨rfl, rfl⟩

theorem stable0_nil (A : Option Addr) (cap : Nat) (w : World) : Calls Tryz.prog 44 #[.slice A 0 cap, .int .i64 0, .func (.func 24) #[] #[]] w fun e w' => e = .returned (.tuple #[]) ∧ w' = w := by
 have H := Lib.hid (fun w => insA_nil A cap w)
 go_enter Tryz.func44, Tryz.ntmps44
 go_wp2
 go_loop [7, 8] (fun s7 s8 => s7 = .int .i64 0 ∧ s8 = .int .i64 20) (fun _ _ => 0)
 case atStart => exact ⟨rfl, rfl⟩
 case round =>
  obtain ⟨rfl, rfl⟩ := hrel
  go_wp2_with fail
  refine Calls.mono (H.out _) ?_
  rintro e w1 ⟨rfl, rfl⟩
  go_wp2
  go_loop [6, 7, 8] (fun s6 s7 s8 => s6 = .int .i64 20) (fun _ _ _ => 0)
  case atStart => rfl
  case round =>
   subst hrel
   go_wp2
   go_end0
   exact ⟨rfl, rfl⟩

theorem stable_nil (A : Option Addr) (cap : Nat) (w : World) : Calls Tryz.prog 23 #[.slice A 0 cap, .func (.func 24) #[] #[]] w fun e w' => e = .returned (.tuple #[]) ∧ w' = w := by
 have H := Lib.hid (fun w => stable0_nil A cap w)
 go_enter Tryz.func23, Tryz.ntmps23
 go_wp2_with fail
 refine Calls.mono (H.out _) ?_
 rintro e w1 ⟨rfl, rfl⟩
 go_wp2
 go_end0
 exact ⟨rfl, rfl⟩

theorem mrg_mapA {α β : Type} {lt : α → α → Bool} {lt' : β → β → Bool} (f : α → β) : ∀ (a b : List α), (∀ x ∈ a, ∀ y ∈ b, lt' (f y) (f x) = lt y x) → mrg lt' (a.map f) (b.map f) = (mrg lt a b).map f
 | [], b, _ => by rw [mrg_nil_left, List.map_nil, mrg_nil_left]
 | x :: a, [], _ => by rw [mrg_nil_right, List.map_nil, mrg_nil_right]
 | x :: a, y :: b, h => by
  have hh := h x (by simp) y (by simp)
  rw [List.map_cons, List.map_cons]
  cases hyx : lt y x with
  | true =>
   rw [mrg_lt hyx, mrg_lt (hh.trans hyx), List.map_cons, ← mrg_mapA f (x :: a) b fun u hu z hz => h u hu z (by simp [hz])]
   rfl
  | false =>
   rw [mrg_le hyx, mrg_le (hh.trans hyx), List.map_cons, ← mrg_mapA f a (y :: b) fun u hu z hz => h u (by simp [hu]) z hz]
   rfl
termination_by a b => a.length + b.length

theorem isort_mapA {α β : Type} {lt : α → α → Bool} {lt' : β → β → Bool} (f : α → β) (l : List α) (h : ∀ x ∈ l, ∀ y ∈ l, lt' (f y) (f x) = lt y x) : isort lt' (l.map f) = (isort lt l).map f := by
 suffices hh : ∀ n, ∀ l : List α, l.length = n → (∀ x ∈ l, ∀ y ∈ l, lt' (f y) (f x) = lt y x) → isort lt' (l.map f) = (isort lt l).map f from hh _ l rfl h
 intro n
 induction n with
 | zero => intro l hl _; obtain rfl := List.eq_nil_of_length_eq_zero hl; rfl
 | succ n ih =>
  intro l hl h
  rcases List.eq_nil_or_concat l with rfl | ⟨u, x, rfl⟩
  ·
   simp at hl
  ·
   rw [List.concat_eq_append] at hl h ⊢
   rw [List.map_append, List.map_cons, List.map_nil, isort_snoc, isort_snoc, ih u (by simpa using hl) fun x hx y hy => h x (by simp [hx]) y (by simp [hy])]
   rw [show [f x] = [x].map f from rfl]
   refine mrg_mapA f _ _ fun y hy z hz => ?_
   obtain rfl := List.mem_singleton.1 hz
   exact h y (List.mem_append_left _ ((isort_perm u).mem_iff.1 hy)) z (by simp)

theorem isort_of (vs : List VeA) : (isort (ltOf cfA) vs).map vcO = srtC (vs.map vcO) := by
 unfold srtC
 exact (isort_mapA (lt := ltOf cfA) (lt' := befC) vcO vs fun x _ y _ => by unfold ltOf; rw [cfA_neg]).symm
set_option maxHeartbeats 1000000 in
theorem sortA (W : World) (x : Add) (A : Option Addr) (cap : Nat) (vs : List VeA) (ho : Own W x 47 9 (.slice A vs.length cap) vs.length (vs.flatMap encVe)) (hl : vs.length < 1000000000000) :
  Calls Tryz.prog 23 #[.slice A vs.length cap, .func (.func 24) #[] #[]] (ext W x) fun e w' => e = .returned (.tuple #[]) ∧ ∃ x', w' = ext W x' ∧ (ext W x).grownBy (ext W x') (Value.ownBlock (.slice A vs.length cap)) ∧ Own W x' 47 9 (.slice A vs.length cap) vs.length ((isort (ltOf cfA) vs).flatMap encVe) := by
 rcases Nat.eq_zero_or_pos vs.length with h0 | h0
 ·
  obtain rfl : vs = [] := List.eq_nil_of_length_eq_zero h0
  refine (stable_nil A cap (ext W x)).mono ?_
  rintro e w' ⟨rfl, rfl⟩
  exact ⟨rfl, x, rfl, World.grownBy.refl _ _, ho⟩
 ·
  obtain ⟨g, rfl, _⟩ := Own.at ho h0
  have hlen : vs.length = vs.toArray.size := by simp
  have hF := flatK_toList encVe 9 (fun _ => rfl) vs.toArray
  rw [show vs.toArray.toList = vs from by simp] at hF
  have hH : HoldsK encVe 9 (ext W x) g 0 vs.toArray := holds_own ho _ hF
  have hR : RowK encVe 9 (ext W x) g 0 vs.toArray := ⟨fun _ => rfl, oneCell_ve, hH, (ho.lt g rfl).2⟩
  have eg : ∀ args w, (callFunc 24 args).run Tryz.prog w = .ok (.enter 24 args) w := enters_of Tryz.func24 (by kernel_rfl) rfl
  have h := sortStable_any stF encVe 24 #[] g 0 cap vs.toArray vs.toArray (ext W x) (ext W x) hR rfl (SWK.start hH) cfA eg (cmpA_lays g 0 _ (ext W x)) swoA (by simpa using hl)
  rw [← hlen] at h
  refine h.mono ?_
  rintro e w' ⟨rfl, d', hd', hdl, m, os, rfl⟩
  refine ⟨rfl, ?_⟩
  rw [show vs.toArray.toList = vs from by simp] at hdl
  obtain ⟨x', hx', ho'⟩ := own_sorted ho (flatK encVe 9 d') (by rw [size_flatK, hd']) m os
  refine ⟨x', hx', by rw [← hx']; exact grown_sortedA _ m os, ?_⟩
  rw [show (isort (ltOf cfA) vs).flatMap encVe = (flatK encVe 9 d').toList from by rw [flatK_toList encVe 9 (fun _ => rfl), hdl]]
  exact ho'

end Go.Proofs.YtdiaecgpjgdkdaaGreat

namespace Go.Proofs.YtdiaecgpjgdkdaaGreat
open Go.RowKit

structure Kt (T : TypeId → Prop) (w w' : World) : Prop where
 os : w'.os = w.os
 tape : w'.tape = w.tape
 output : w'.output = w.output
 size : w.heap.size ≤ w'.heap.size
 blk : ∀ (b : Nat) (c : Array Value) (ty : TypeId) (f : Nat × Nat), w.heap[b]? = some (.cells c ty f) → T ty → w'.heap[b]? = some (.cells c ty f)
theorem Kt.trans {T : TypeId → Prop} {a b c : World} (h : Kt T a b) (k : Kt T b c) : Kt T a c :=
 ⟨k.os.trans h.os, k.tape.trans h.tape, k.output.trans h.output, Nat.le_trans h.size k.size, fun i c ty f hb ht => k.blk i c ty f (h.blk i c ty f hb ht) ht⟩
theorem Kt.mono {T U : TypeId → Prop} {a b : World} (h : Kt T a b) (hU : ∀ ty, U ty → T ty) : Kt U a b := ⟨h.os, h.tape, h.output, h.size, fun i c ty f hb ht => h.blk i c ty f hb (hU ty ht)⟩
theorem Kt.ofExt {T : TypeId → Prop} {a b : World} (h : Ext a b) : Kt T a b := ⟨h.os, h.tape, h.output, h.size, fun i c ty f hb _ => (h.block i (Array.getElem?_eq_some_iff.1 hb).1).trans hb⟩
theorem Kt.ofMu {base : Nat} {a b : World} (h : Mu base a b) : Kt (fun ty => ¬ TreeT ty) a b := by
 obtain ⟨S, h⟩ := h
 exact ⟨h.os, h.tape, h.output, h.size, fun i c ty f hb ht => h.block hb fun hs => ht (h.typ i hs c ty f hb)⟩
def ItT (ty : TypeId) : Prop := ty = 180 ∨ ty = 114
theorem Gd.typ {w : World} : ∀ {t : AT}, Gd w t → ∀ k ∈ t.foot, ∃ c, w.heap[k]? = some (.cells c 180 (0, 0))
 | .nil, _, k, hk => by simp [AT.foot] at hk
 | .node b x l r h e, g, k, hk => by
  simp only [AT.foot, List.mem_cons, List.mem_append] at hk
  rcases hk with rfl | hk | hk
  ·
   exact ⟨_, g.1⟩
  ·
   exact Gd.typ g.2.1 k hk
  ·
   exact Gd.typ g.2.2 k hk
theorem ITr.typ {w : World} {base tb : Nat} {t : AT} (h : ITr w base tb t) : ∀ k ∈ tb :: t.foot, ∃ c ty f, w.heap[k]? = some (.cells c ty f) ∧ ItT ty := fun k hk => by
 rcases List.mem_cons.1 hk with rfl | hk
 ·
  exact ⟨_, _, _, h.tr, .inr rfl⟩
 ·
  obtain ⟨c, hc⟩ := h.gd.typ k hk
  exact ⟨_, _, _, hc, .inl rfl⟩
theorem Kt.ofChg {base tb : Nat} {t : AT} {a b : World} (h : Chg (tb :: t.foot) a b) (k : ITr a base tb t) : Kt (fun ty => ¬ ItT ty) a b :=
 ⟨h.os, h.tape, h.output, h.size, fun i c ty f hb ht => (h.same i (Array.getElem?_eq_some_iff.1 hb).1 fun hs => by
  obtain ⟨c', ty', f', h1, h2⟩ := k.typ i hs
  rw [hb] at h1
  cases h1
  exact ht h2).trans hb⟩
theorem Kt.ofGrown {base e size n : Nat} {v : Value} {xs : List Value} {a b : World} (h : a.grownBy b v.ownBlock) (ho : a.ownsRow base e size v n xs) : Kt (fun ty => ty ≠ e) a b :=
 ⟨h.os, h.tape, h.output, h.size, fun i c ty f hb ht => (h.block i (Array.getElem?_eq_some_iff.1 hb).1 fun hs => by
  obtain ⟨c', h1⟩ := own_typ ho hs.symm
  rw [hb] at h1
  cases h1
  exact ht rfl).trans hb⟩
theorem Kt.ofSet {a : World} {b o : Nat} {u : Value} {c : Array Value} {t : TypeId} {f : Nat × Nat} (h : a.heap[b]? = some (.cells c t f)) : Kt (fun ty => ty ≠ t) a (a.setCell ⟨b, o, none⟩ u) :=
 ⟨rfl, rfl, rfl, by rw [set_size]; exact Nat.le_refl _, fun i c' ty f' hb ht => (set_other fun e => by
  subst e
  rw [h] at hb
  cases hb
  exact ht rfl).trans hb⟩
theorem own_kt {T : TypeId → Prop} {w w' : World} {base e size n : Nat} {v : Value} {xs : List Value} (h : w.ownsRow base e size v n xs) (k : Kt T w w') (hT : T e) : w'.ownsRow base e size v n xs :=
 ownsRow_same h fun g hg => by
  obtain ⟨c, hc⟩ := own_typ h hg
  rw [hc]; exact k.blk _ _ _ _ hc hT
theorem MT.own_typ {base : Nat} {w : World} {t : MT} (h : NodeOk base w t) : ∀ b ∈ t.own, ∃ c ty f, w.heap[b]? = some (.cells c ty f) ∧ TreeT ty := fun b hb => by
 unfold MT.own at hb
 rcases List.mem_cons.1 hb with rfl | hb
 ·
  exact ⟨_, _, _, h.hp, .inl rfl⟩
 ·
  rcases List.mem_append.1 hb with hb | hb
  ·
   obtain ⟨c, hc⟩ := Go.Proofs.YtdiaecgpjgdkdaaGreat.own_typ h.op (ob_mem.1 hb)
   exact ⟨_, _, _, hc, .inr (.inl rfl)⟩
  ·
   obtain ⟨c, hc⟩ := Go.Proofs.YtdiaecgpjgdkdaaGreat.own_typ h.ok (ob_mem.1 hb)
   exact ⟨_, _, _, hc, .inr (.inr (.inl rfl))⟩
theorem GoodB.typ {base : Nat} {w : World} : ∀ {d : Nat} {t : MT}, GoodB base w d t → ∀ b ∈ foot d t, ∃ c ty f, w.heap[b]? = some (.cells c ty f) ∧ TreeT ty
 | 0, _, h, b, hb => MT.own_typ h b hb
 | d + 1, t, h, b, hb => by
  rcases List.mem_append.1 hb with hb | hb
  ·
   exact MT.own_typ h.1 b hb
  ·
   obtain ⟨k, hk, hb⟩ := List.mem_flatMap.1 hb
   exact GoodB.typ (h.2 k hk) b hb
theorem TK.kt {T : TypeId → Prop} {base tb m : Nat} {w w' : World} {ks : List Kp} (h : TK base w tb m ks) (k : Kt T w w') (hT : ∀ ty, TreeT ty → T ty) (hV : T TVA) (hl : ∀ b, b < base → b < w.heap.size → w'.heap[b]? = w.heap[b]?) : TK base w' tb m ks := by
 obtain ⟨l, F, h1, h2, h3⟩ := h
 refine ⟨l, F, ⟨h1.hb, h1.nF, h1.srt, fun q hq => ?_, h1.len, ?_⟩, h2, h3⟩
 ·
  obtain ⟨a1, a2, a3⟩ := h1.key q hq
  refine ⟨a1, a2, fun hn => ?_⟩
  obtain ⟨b, o, e1, e2, e3, e4⟩ := a3 hn
  have hb : w'.heap[b]? = w.heap[b]? := by
   rcases e3 with e3 | ⟨c, f, e3⟩
   ·
    exact hl b e3 e2
   ·
    rw [e3]; exact k.blk _ _ _ _ e3 hV
  refine ⟨b, o, e1, Nat.lt_of_lt_of_le e2 k.size, ?_, fun j u hu => (World.cell?_of_block hb).trans (e4 j u hu)⟩
  rcases e3 with e3 | ⟨c, f, e3⟩
  ·
   exact .inl e3
  ·
   exact .inr ⟨c, f, hb.trans e3⟩
 ·
  rcases h1.root with ⟨a1, a2, a3⟩ | ⟨d, t, a1, a2, a3⟩
  ·
   exact .inl ⟨a1, a2, k.blk _ _ _ _ a3 (hT _ (.inr (.inr (.inr rfl))))⟩
  ·
   refine .inr ⟨d, t, k.blk _ _ _ _ a1 (hT _ (.inr (.inr (.inr rfl)))), a2.same fun b hb => ?_, a3⟩
   obtain ⟨c, ty, f, e1, e2⟩ := a2.typ b hb
   rw [e1]; exact k.blk _ _ _ _ e1 (hT _ e2)
theorem Gd.kt {T : TypeId → Prop} {w w' : World} (k : Kt T w w') (hT : T 180) : ∀ {t : AT}, Gd w t → Gd w' t
 | .nil, _ => trivial
 | .node b x l r h e, g => ⟨k.blk _ _ _ _ g.1 hT, Gd.kt k hT g.2.1, Gd.kt k hT g.2.2⟩
theorem ITr.kt {T : TypeId → Prop} {w w' : World} {base tb : Nat} {t : AT} (h : ITr w base tb t) (k : Kt T w w') (hT : ∀ ty, ItT ty → T ty) : ITr w' base tb t :=
 ⟨k.blk _ _ _ _ h.tr (hT _ (.inr rfl)), h.gd.kt k (hT _ (.inl rfl)), h.nd, h.ok, h.st, h.nt, h.hb, h.hf⟩
theorem ITr.low {w : World} {base base' tb : Nat} {t : AT} (h : ITr w base tb t) (hb : base' ≤ base) : ITr w base' tb t :=
 ⟨h.tr, h.gd, h.nd, h.ok, h.st, h.nt, Nat.le_trans hb h.hb, fun k hk => Nat.le_trans hb (h.hf k hk)⟩
def RdT (w : World) (ty : TypeId) (sz : Nat) (A : Option Addr) (n : Nat) (xs : List Value) : Prop :=
 Rd w sz A n xs ∧ (0 < n * sz → ∃ b o c f, A = some ⟨b, o, none⟩ ∧ w.heap[b]? = some (.cells c ty f))
theorem RdT.kt {T : TypeId → Prop} {w w' : World} {ty sz n : Nat} {A : Option Addr} {xs : List Value} (h : RdT w ty sz A n xs) (k : Kt T w w') (hT : T ty) : RdT w' ty sz A n xs := by
 refine ⟨⟨h.1.1, fun hn => ?_⟩, fun hn => ?_⟩
 ·
  obtain ⟨b, o, h1, h2, h3⟩ := h.1.2 hn
  obtain ⟨b', o', c, f, h4, h5⟩ := h.2 hn
  rw [h1] at h4
  cases h4
  refine ⟨b, o, h1, Nat.lt_of_lt_of_le h2 k.size, fun j u hu => ?_⟩
  have h6 : w'.heap[b]? = w.heap[b]? := by rw [h5]; exact k.blk _ _ _ _ h5 hT
  exact (World.cell?_of_block h6).trans (h3 j u hu)
 ·
  obtain ⟨b', o', c, f, h4, h5⟩ := h.2 hn
  exact ⟨b', o', c, f, h4, k.blk _ _ _ _ h5 hT⟩
theorem RdT.ext {w w' : World} {ty sz n : Nat} {A : Option Addr} {xs : List Value} (h : RdT w ty sz A n xs) (e : Ext w w') : RdT w' ty sz A n xs := h.kt (T := fun _ => True) (Kt.ofExt e) trivial
theorem RdT.of_own {w : World} {base e size n c : Nat} {A : Option Addr} {xs : List Value} (h : w.ownsRow base e size (.slice A n c) n xs) : RdT w e size A n xs := by
 refine ⟨Rd.of_own h, fun hn => ?_⟩
 rcases h.2 with ⟨h', h0⟩ | ⟨g, cap, cur, h', hb, hg, hnc, _⟩
 ·
  subst h0; simp at hn
 ·
  simp only [Value.slice.injEq] at h'
  exact ⟨g, 0, _, _, h'.1, hg⟩
def VsT (w : World) (vs : List VeA) : Prop := ∀ p ∈ vs, RdT w TVA 3 p.row.A p.row.l.length (vcl p.row.l) ∧ p.row.l.length ≤ 1048576 ∧ ∀ v ∈ p.row.l, v.t.size ≤ 9223372036854775807
theorem VsT.kt {T : TypeId → Prop} {w w' : World} {vs : List VeA} (h : VsT w vs) (k : Kt T w w') (hT : T TVA) : VsT w' vs := fun p hp => ⟨(h p hp).1.kt k hT, (h p hp).2⟩
theorem VsT.ext {w w' : World} {vs : List VeA} (h : VsT w vs) (e : Ext w w') : VsT w' vs := fun p hp => ⟨(h p hp).1.ext e, (h p hp).2⟩
theorem VsT.ok {w : World} {vs : List VeA} (h : VsT w vs) : VsOk w vs := fun p hp => ⟨(h p hp).1.1, (h p hp).2⟩
theorem VsT.snoc {w : World} {vs : List VeA} {p : VeA} (h : VsT w vs) (hp : RdT w TVA 3 p.row.A p.row.l.length (vcl p.row.l) ∧ p.row.l.length ≤ 1048576 ∧ ∀ v ∈ p.row.l, v.t.size ≤ 9223372036854775807) : VsT w (vs ++ [p]) := fun q hq => by
 rcases List.mem_append.1 hq with hq | hq
 ·
  exact h q hq
 ·
  obtain rfl := List.mem_singleton.1 hq
  exact hp
end Go.Proofs.YtdiaecgpjgdkdaaGreat
