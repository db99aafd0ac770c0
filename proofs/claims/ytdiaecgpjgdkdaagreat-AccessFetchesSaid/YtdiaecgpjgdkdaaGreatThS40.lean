/- Lemmas for the rows: ItFo. -/
import Derived.Test.YtdiaecgpjgdkdaaGreatThS39
import Derived.Test.YtdiaecgpjgdkdaaGreatThS24
import Derived.WalkMore
import Derived.Test.YtdiaecgpjgdkdaaGreatThS05
set_option linter.unusedSimpArgs false
set_option linter.unusedVariables false
namespace Go.Proofs.YtdiaecgpjgdkdaaGreat
open Go.RowKit Go.Sort

theorem own_shorter {w : World} {base e size n n' c : Nat} {A : Option Addr} {xs ys : List Value} (h : w.ownsRow base e size (.slice A n c) n (xs ++ ys)) (hx : xs.length = n' * size) (hn : n' ≤ n) : w.ownsRow base e size (.slice A n' c) n' xs := by
 refine ⟨hx, ?_⟩
 rcases h.2 with ⟨h', h0⟩ | ⟨g, cap, cur, h', hb, hg, hnc, hcm, hcs, htake⟩
 ·
  simp only [Value.slice.injEq] at h'
  obtain ⟨rfl, _, rfl⟩ := h'
  subst h0
  obtain rfl : n' = 0 := by omega
  exact .inl ⟨rfl, rfl⟩
 ·
  simp only [Value.slice.injEq] at h'
  obtain ⟨rfl, _, rfl⟩ := h'
  refine .inr ⟨g, c, cur, rfl, hb, hg, Nat.le_trans hn hnc, hcm, hcs, ?_⟩
  have h2 : (cur.toList.take (n * size)).take (n' * size) = (xs ++ ys).take (n' * size) := by rw [htake]
  rw [List.take_take, Nat.min_eq_left (Nat.mul_le_mul_right size hn)] at h2
  rw [h2, ← hx, List.take_left]

theorem compactO (W : World) (x : Add) (A : Option Addr) (cap : Nat) (zs : List Int) (ho : Own W x 3 1 (.slice A zs.length cap) zs.length (ic zs)) (hl : zs.length ≤ 4611686018427387904) (hc : zs.length ≤ cap) :
  Calls Tryz.prog 15 #[.slice A zs.length cap] (ext W x) fun e w' => e = .returned (.slice A (Lib.compact zs).length cap) ∧ ∃ x', w' = ext W x' ∧ Own W x' 3 1 (.slice A (Lib.compact zs).length cap) (Lib.compact zs).length (ic (Lib.compact zs)) := by
 rcases Nat.eq_zero_or_pos zs.length with h0 | h0
 ·
  obtain rfl : zs = [] := List.eq_nil_of_length_eq_zero h0
  have h := Any.slices_Compact_int_empty Tryz.laysNm220 A cap (ext W x)
  change Calls Tryz.prog 15 _ _ _ at h
  refine h.mono ?_
  rintro e w' ⟨rfl, rfl⟩
  exact ⟨rfl, x, rfl, ho⟩
 ·
  obtain ⟨g, rfl, _⟩ := Own.at ho h0
  have h := Any.slices_Compact_int Tryz.laysNm220 g 0 cap zs (ext W x) (holds_ints (holds_own ho _ (by simp))) (by omega) hc
  change Calls Tryz.prog 15 _ _ _ at h
  refine h.mono ?_
  rintro e w' ⟨rfl, m, rfl⟩
  refine ⟨rfl, ?_⟩
  have hle : (Lib.compact zs).length ≤ zs.length := by
   have := List.length_filter_le (Lib.keeps zs.toArray) (List.range zs.length)
   simpa [Lib.compact, Lib.compactUpTo] using this
  generalize Lib.compact zs = cs at hle ⊢
  rw [putRow_id]
  obtain ⟨x', hx', ho'⟩ := own_sorted ho ((cs ++ List.replicate (zs.length - cs.length) 0).toArray.map (Value.int .i64)) (by simp; omega) m #[]
  rw [grow_empty] at hx'
  refine ⟨x', hx', ?_⟩
  have e : ((cs ++ List.replicate (zs.length - cs.length) 0).toArray.map (Value.int .i64)).toList = ic cs ++ ic (List.replicate (zs.length - cs.length) (0 : Int)) := by simp [ic]
  rw [e] at ho'
  exact own_shorter ho' (by simp [ic]) hle

set_option maxRecDepth 100000 in
set_option maxHeartbeats 8000000 in
theorem OverlapO_any (w : World) (p : Int × Int) (base tb : Nat) (t : AT) (h : ITr w base tb t) (hp : pvB p = true) (sz : t.flat.length ≤ 1048576) :
  Calls Tryz.prog 202 #[ptI tb, .agg #[.int .i64 p.1, .int .i64 p.2]] w (OPost w (ovIds p t)) := by
 have HV := Lib.hid fun W => pvalid_any p W
 rw [hp] at HV
 have HOV := Lib.hid (overlap_any w p t h.gd)
 obtain ⟨h1, h2, h3, -, -⟩ := h.c
 obtain ⟨tp, htp⟩ := p_form t
 have HSZ := Lib.hid sz
 have HR : Hid ((t.ov p).length ≤ 1048576) := Lib.hid (Nat.le_trans (AT.ov_len p t) sz)
 unfold OvC at HOV
 rw [htp] at h2 HOV
 clear h hp sz htp h3
 unfold ovIds OPost ptI
 go_enter Tryz.func202, Tryz.ntmps202
 go_wp2_with fail
 refine (HV.out _).mono ?_
 rintro en1 w1 ⟨rfl, hb1⟩
 obtain ⟨x1, rfl⟩ := hb1.get
 clear hb1 HV
 go_wp2_with fail
 refine wp_region_held_drew (S := (fun w' => w'.cell? ⟨tb, 0, none⟩ = some (.pointer tp) ∧ w'.cell? ⟨w.heap.size, 0, none⟩ = some (.int .i64 p.1) ∧ w'.cell? ⟨w.heap.size, 1, none⟩ = some (.int .i64 p.2))) (by kernel_rfl) (by simp [go_sem, ↓IntWalk.iteOmega, *]) (fun hHeld => ?_)
 refine tkH 0 ?oi101 (?v101) ?hi101 ?hy101 ?_
 case hi101 => (simp only [gA, gS, gZ]; try rfl)
 case hy101 => (refine Or.inl ⟨by rfl, ?_⟩; intro wq hSw; (try dsimp only at hSw); go_simp; (try with_reducible rfl))
 (try simp only [Act.put, pA, pZ, pS])
 refine tkH 1 ?oi102 (?v102) ?hi102 ?hy102 ?_
 case hi102 => (simp only [gA, gS, gZ]; try rfl)
 case hy102 => (refine Or.inl ⟨by rfl, ?_⟩; intro wq hSw; (try dsimp only at hSw); go_simp; (try with_reducible rfl))
 (try simp only [Act.put, pA, pZ, pS])
 refine tkH 2 ?oi103 (?v103) ?hi103 ?hy103 ?_
 case hi103 => (simp only [gA, gS, gZ]; try rfl)
 case hy103 => (refine Or.inl ⟨by rfl, ?_⟩; intro wq hSw; (try dsimp only at hSw); go_simp; (try with_reducible rfl))
 (try simp only [Act.put, pA, pZ, pS])
 refine tkH 3 ?oi104 (?v104) ?hi104 ?hy104 ?_
 case hi104 => (simp only [gA, gS, gZ]; try rfl)
 case hy104 => (refine Or.inl ⟨by rfl, ?_⟩; intro wq hSw; (try dsimp only at hSw); go_simp; (try with_reducible rfl))
 (try simp only [Act.put, pA, pZ, pS])
 refine tkH 4 ?oi105 (?v105) ?hi105 ?hy105 ?_
 case hi105 => (simp only [gA, gS, gZ]; try rfl)
 case hy105 => (refine Or.inl ⟨by rfl, ?_⟩; intro wq hSw; (try dsimp only at hSw); go_simp; (try with_reducible rfl))
 (try simp only [Act.put, pA, pZ, pS])
 refine wpAnyH_ready (rs := [5]) (by kernel_rfl) (by simp) ?_
 refine AllReadyH.cons (o := ?oi106) ?hi106 ?ti106 AllReadyH.nil
 case hi106 => (simp only [gA, gS, gZ]; try rfl)
 case ti106 =>
  intro KQ hKQ
  go_simp
  go_at_call 204
  refine Calls.mono (HOV.out _ (.slice none 0 0) [] (ex_) (World.ownsRow_nil _ _ _ _) (by simpa using HSZ.out)) ?_
  rintro en1 w1 ⟨v1, rfl, hE1, ho1, hc1, -⟩
  have d0 : w1.cell? ⟨w.heap.size, 0, none⟩ = some (.int .i64 p.1) := (World.cell?_of_block (hc1.same _ (by simp [size_ext]; omega) (by simp [Value.ownBlock]))).trans (by simp [go_sem, ↓IntWalk.iteOmega])
  have d1 : w1.cell? ⟨w.heap.size, 1, none⟩ = some (.int .i64 p.2) := (World.cell?_of_block (hc1.same _ (by simp [size_ext]; omega) (by simp [Value.ownBlock]))).trans (by simp [go_sem, ↓IntWalk.iteOmega])
  have hlt1 : w.heap.size < w1.heap.size := Nat.lt_of_lt_of_le (by simp [size_ext]; omega) hc1.size
  have d2 : w1.cell? ⟨tb, 0, none⟩ = some (.pointer tp) := (World.cell?_of_block (hE1.block _ h1)).trans h2
  clear hc1
  obtain ⟨x1, rfl⟩ := hE1.get
  have HO1 := Lib.hid (Own.of_eq ho1 rfl)
  clear hE1 ho1
  refine hKQ.out _ _ (by simp [go_sem, ↓IntWalk.iteOmega, *]) (fun hHeld2 => ?_)
  clear hHeld hKQ KQ; have hHeld := hHeld2; clear hHeld2
  (try simp only [Act.put, pA, pZ, pS])
  refine tkH 6 ?oi107 (?v107) ?hi107 ?hy107 ?_
  case hi107 => (simp only [gA, gS, gZ]; try rfl)
  case hy107 => (refine Or.inl ⟨by rfl, ?_⟩; intro wq hSw; (try dsimp only at hSw); go_simp; (try with_reducible rfl))
  (try simp only [Act.put, pA, pZ, pS])
  refine wpAnyH_done (by kernel_rfl) ?_ _
  obtain ⟨ys, hys⟩ : ∃ ys, t.ov p = ys := ⟨_, rfl⟩
  have HYS := Lib.hid hys
  rw [List.nil_append] at HO1
  rw [hys] at HO1 HR
  clear hys
  obtain ⟨A1, c1, rfl, hl1, hm1⟩ := Own.form HO1.out
  have hlen : (ys.mergeSort fun x y => decide (x ≤ y)).length = ys.length := List.length_mergeSort _
  have HS := Lib.hid (sortI w x1 A1 c1 ys HO1.out (by have := HR.out; omega))
  have HC := Lib.hid (fun x' ho => compactO w x' A1 c1 (ys.mergeSort fun x y => decide (x ≤ y)) ho (by have := HR.out; rw [hlen]; omega) (by rw [hlen]; exact hl1))
  rw [hlen] at HC
  obtain ⟨ms, hms⟩ : ∃ ms, ys.mergeSort (fun x y => decide (x ≤ y)) = ms := ⟨_, rfl⟩
  have HMS := Lib.hid hms
  rw [hms] at HS HC
  clear hlen hms
  go_wp2_with (first | (go_at_call 14; refine (HS.out).mono ?_; rintro e w1 ⟨rfl, x5, rfl, ho5⟩) | (go_at_call 15; refine (HC.out x5 ho5).mono ?_; rintro e w1 ⟨rfl, x6, rfl, ho6⟩))
  go_ret
  rw [HYS.out, HMS.out]
  exact ⟨A1, c1, rfl, ho6, Ext.ex _ _⟩

def idsF (p : Int × Int) (t : AT) : List Int := if pvB p then ovIds p t else []

set_option maxRecDepth 100000 in
set_option maxHeartbeats 8000000 in
theorem OverlapO (w : World) (p : Int × Int) (base tb : Nat) (t : AT) (h : ITr w base tb t) (sz : t.flat.length ≤ 1048576) :
  Calls Tryz.prog 202 #[ptI tb, .agg #[.int .i64 p.1, .int .i64 p.2]] w (OPost w (idsF p t)) := by
 rcases hv : pvB p with _ | _
 ·
  have HF : Hid (idsF p t = []) := Lib.hid (by unfold idsF; rw [hv]; rfl)
  have HV := Lib.hid fun W => pvalid_any p W
  rw [hv] at HV
  clear h hv sz
  unfold ptI
  go_enter Tryz.func202, Tryz.ntmps202
  go_wp2_with fail
  refine (HV.out _).mono ?_
  rintro en1 w1 ⟨rfl, hb1⟩
  obtain ⟨x1, rfl⟩ := hb1.get
  clear hb1 HV
  go_wp2
  go_ret
  rw [HF.out]
  exact ⟨none, 0, rfl, World.ownsRow_nil _ _ _ _, ex_⟩
 ·
  have := OverlapO_any w p base tb t h hv sz
  unfold idsF
  rw [hv, if_pos rfl]
  exact this

end Go.Proofs.YtdiaecgpjgdkdaaGreat
