/- Packed trees: the leaves of sorted boxes, the nodes above nodes. -/
import Derived.Test.YtahmkinppighkaaTrD
import Derived.StillTailTactics
set_option linter.unusedSimpArgs false
set_option linter.unusedVariables false
namespace Go.Proofs.Ytahmkinppighkaa
open Go.RowKit Go.Shelf

attribute [local go_sem] Oper.semAt_some


theorem TMs.part {w : World} {T : List Tr} {ps : List Nat} (h : TMs w T ps) (i m : Nat) : TMs w ((T.drop i).take m) ((ps.drop i).take m) := by
  obtain ⟨hl, hg⟩ := TMs.get h
  refine TMs.of (by simp [hl]) fun j h1 h2 => ?_
  simp only [List.getElem_take, List.getElem_drop]
  exact hg (i + j) _ _
theorem rectArr (r : Rct) (u v : Value) : (.cells #[.int .i64 r.1.1, .int .i64 r.1.2, .int .i64 r.2.1, .int .i64 r.2.2, u, v] 100 : Obj) = .cells #[.int .i64 r.1.1, .int .i64 r.1.2, .int .i64 r.2.1, .int .i64 r.2.2, u, v] 100 (0, 0) := rfl
abbrev nodeObj (r : Rct) (u v : Value) : Obj := .cells #[.int .i64 r.1.1, .int .i64 r.1.2, .int .i64 r.2.1, .int .i64 r.2.2, u, v] 100
theorem node_cells {w : World} {p : Nat} {r : Rct} {u v : Value} (h : w.heap[p]? = some (nodeObj r u v)) : p < w.heap.size ∧ w.cell? ⟨p, 0, none⟩ = some (.int .i64 r.1.1) ∧ w.cell? ⟨p, 1, none⟩ = some (.int .i64 r.1.2) ∧ w.cell? ⟨p, 2, none⟩ = some (.int .i64 r.2.1) ∧ w.cell? ⟨p, 3, none⟩ = some (.int .i64 r.2.2) ∧ w.cell? ⟨p, 4, none⟩ = some u ∧ w.cell? ⟨p, 5, none⟩ = some v := by
  refine ⟨(Array.getElem?_eq_some_iff.1 h).1, ?_, ?_, ?_, ?_, ?_, ?_⟩ <;> simp [World.cell?, h]
theorem tm_lf {w : World} {p : Nat} {C : List Bxs} {A : Option Addr} {c : Nat} (hp : w.heap[p]? = some (nodeObj (mkL C).r (.slice A C.length c) (.slice none 0 0))) (hne : C ≠ []) (hl : C.length ≤ 1048576) (hR : Rd w 5 A C.length (bxl C)) : TM w (mkL C) p := by
  cases C with
  | nil => exact absurd rfl hne
  | cons b l =>
    obtain ⟨h0, h1, h2, h3, h4, h5, h6⟩ := node_cells hp
    rw [mkL] at h1 h2 h3 h4 ⊢
    rw [TM]
    exact ⟨A, c, h0, h1, h2, h3, h4, h5, h6, hl, hR⟩
theorem tm_nd {w : World} {p : Nat} {C : List Tr} {ps : List Nat} {A : Option Addr} {c : Nat} (hp : w.heap[p]? = some (nodeObj (mkN C).r (.slice none 0 0) (.slice A C.length c))) (hne : C ≠ []) (hl : C.length ≤ 1048576) (hR : Rd w 1 A C.length (ptc ps)) (hT : TMs w C ps) : TM w (mkN C) p := by
  cases C with
  | nil => exact absurd rfl hne
  | cons b l =>
    obtain ⟨h0, h1, h2, h3, h4, h5, h6⟩ := node_cells hp
    rw [mkN] at h1 h2 h3 h4 ⊢
    rw [TM]
    exact ⟨A, c, ps, h0, h1, h2, h3, h4, h5, h6, hl, hR, hT⟩
def rL (c0 : Rct) (C : List Bxs) (k : Nat) : Rct := (C.take k).foldl (fun r x => jn r x.1) c0
theorem rL_succ (c0 : Rct) (C : List Bxs) {k : Nat} (h : k < C.length) : rL c0 C (k + 1) = jn (rL c0 C k) C[k].1 := by
  unfold rL; rw [List.take_succ_eq_append_getElem h, List.foldl_append]; rfl
theorem rL_end {C : List Bxs} (h : 0 < C.length) {k : Nat} (hk : k = C.length) : rL C[0].1 C k = (mkL C).r := by
  subst hk
  cases C with
  | nil => simp at h
  | cons b l => unfold rL; rw [List.take_length]; rfl
def rN (c0 : Rct) (C : List Tr) (k : Nat) : Rct := (C.take k).foldl (fun r x => jn r x.r) c0
theorem rN_succ (c0 : Rct) (C : List Tr) {k : Nat} (h : k < C.length) : rN c0 C (k + 1) = jn (rN c0 C k) C[k].r := by
  unfold rN; rw [List.take_succ_eq_append_getElem h, List.foldl_append]; rfl
theorem rN_end {C : List Tr} (h : 0 < C.length) {k : Nat} (hk : k = C.length) : rN C[0].r C k = (mkN C).r := by
  subst hk
  cases C with
  | nil => simp at h
  | cons b l => unfold rN; rw [List.take_length]; rfl
/-- a level of nodes, as a row of pointers: what was made reads so in every world that holds it and what it was made from -/
def LevP (T : List Tr) (Base : World → Prop) (w : World) (e : Ending) (w' : World) : Prop := ∃ A c ps, e = .returned (.slice A T.length c) ∧ Ext w w' ∧ T.length ≤ c ∧
  ∀ X : World, w'.heap.size ≤ X.heap.size → (∀ k, w.heap.size ≤ k → k < w'.heap.size → X.heap[k]? = w'.heap[k]?) → Base X → Rd X 1 A T.length (ptc ps) ∧ TMs X T ps
theorem Rd.agree {w X : World} {sz n : Nat} {A : Option Addr} {xs : List Value} (h : Rd w sz A n xs) (hk : ∀ b o, A = some ⟨b, o, none⟩ → b < w.heap.size → b < X.heap.size ∧ X.heap[b]? = w.heap[b]?) : Rd X sz A n xs := by
  refine ⟨h.1, fun hn => ?_⟩
  obtain ⟨b, o, hA, hb, hc⟩ := h.2 hn
  obtain ⟨h1, h2⟩ := hk b o hA hb
  exact ⟨b, o, hA, h1, fun j u hu => (World.cell?_of_block h2).trans (hc j u hu)⟩
/-- the nodes made so far -/
def Made (W : World) (lo : Nat) (u v : Nat → Value) (rr : Nat → Rct) : List Nat → List Nat → Prop
  | [], [] => True
  | p :: ps, i :: is => (lo ≤ p ∧ W.heap[p]? = some (nodeObj (rr i) (u i) (v i))) ∧ Made W lo u v rr ps is
  | _, _ => False
theorem Made.len {W : World} {lo : Nat} {u v : Nat → Value} {rr : Nat → Rct} : ∀ {ps is : List Nat}, Made W lo u v rr ps is → ps.length = is.length
  | [], [], _ => rfl
  | p :: ps, i :: is, h => by simp [Made.len h.2]
  | [], _ :: _, h => h.elim
  | _ :: _, [], h => h.elim
theorem Made.get {W : World} {lo : Nat} {u v : Nat → Value} {rr : Nat → Rct} : ∀ {ps is : List Nat}, Made W lo u v rr ps is → ∀ j (h1 : j < ps.length) (h2 : j < is.length), lo ≤ ps[j] ∧ W.heap[ps[j]]? = some (nodeObj (rr is[j]) (u is[j]) (v is[j]))
  | [], [], _, j, h1, _ => by simp at h1
  | p :: ps, i :: is, h, 0, _, _ => h.1
  | p :: ps, i :: is, h, j + 1, h1, h2 => Made.get h.2 j (by simpa using h1) (by simpa using h2)
  | [], _ :: _, h, _, _, _ => h.elim
  | _ :: _, [], h, _, _, _ => h.elim
theorem Made.mono {W W' : World} {lo : Nat} {u v : Nat → Value} {rr : Nat → Rct} (hk : ∀ (p : Nat) (c : Array Value) (f : Nat × Nat), W.heap[p]? = some (.cells c 100 f) → W'.heap[p]? = some (.cells c 100 f)) : ∀ {ps is : List Nat}, Made W lo u v rr ps is → Made W' lo u v rr ps is
  | [], [], _ => trivial
  | p :: ps, i :: is, h => ⟨⟨h.1.1, hk _ _ _ h.1.2⟩, Made.mono hk h.2⟩
  | [], _ :: _, h => h.elim
  | _ :: _, [], h => h.elim
theorem Made.snoc {W : World} {lo : Nat} {u v : Nat → Value} {rr : Nat → Rct} {p i : Nat} (hlo : lo ≤ p) (hp : W.heap[p]? = some (nodeObj (rr i) (u i) (v i))) : ∀ {ps is : List Nat}, Made W lo u v rr ps is → Made W lo u v rr (ps ++ [p]) (is ++ [i])
  | [], [], _ => ⟨⟨hlo, hp⟩, trivial⟩
  | q :: ps, j :: is, h => ⟨h.1, Made.snoc hlo hp h.2⟩
  | [], _ :: _, h => h.elim
  | _ :: _, [], h => h.elim


theorem row_form {W : World} {base e size n : Nat} {v : Value} {xs : List Value} (h : W.ownsRow base e size v n xs) : ∃ A c, v = .slice A n c ∧ n ≤ c := by
  rcases h.2 with ⟨rfl, rfl⟩ | ⟨g, cap, cur, rfl, hb, hg, hnc, _⟩
  · exact ⟨none, 0, rfl, Nat.le_refl _⟩
  · exact ⟨_, _, rfl, hnc⟩


set_option maxRecDepth 100000 in
set_option maxHeartbeats 8000000 in
theorem leaves_any (b o n c wd : Nat) (hwd : 1 ≤ wd) (hw2 : wd ≤ 64) (hn0 : 1 ≤ n) (hn : n ≤ 1048576) (hc : n ≤ c) (w : World) (L : List Bxs) (hR : Rd w 5 (some ⟨b, o, none⟩) n (bxl L)) (hL : n = L.length) :
    Calls Try.prog 42 #[.slice (some ⟨b, o, none⟩) n c, .int .i64 wd] w (LevP (leavesF wd L) (fun X => Rd X 5 (some ⟨b, o, none⟩) n (bxl L)) w) := by
  have hbw : b < w.heap.size := by
    obtain ⟨b', o', hA, hb, _⟩ := hR.2 (by omega)
    simp only [Option.some.injEq, Addr.mk.injEq, and_true] at hA
    obtain ⟨rfl, rfl⟩ := hA
    exact hb
  have HL := Lib.hid hL
  clear hL
  obtain ⟨i0, hi, hz0, hz1, hz2⟩ := (elNode : El Try.prog 90 84 (.pointer none) 1 8).hi
  refine (callsIn_wide (n := 9)).1 ?_
  refine callsIn_of_wp_marks Try.func42 rfl trivial ?_ rfl
  simp only [Try.ntmps42, List.size_toArray, List.length_cons, List.length_nil, Nat.reduceAdd, Nat.reduceSub, Array.replicate_succ, Array.replicate_zero, List.push_toArray, List.append_toArray, List.nil_append, List.cons_append]
  gi_wp2_with (refine ⟨trivial, ?_⟩; gi_at_call 65; refine (callsIn_to (chunkBox_any (some ⟨b, o, none⟩) n c wd hwd _)).mono ?_; rintro e w' ⟨rfl, rfl⟩)
  have bO := Boxed.new w 90 (.slice none 0 0)
  obtain ⟨W0, hW0⟩ : ∃ W0, ((w.alloc (.cells #[.slice none 0 0] 90)).alloc (.cells #[.slice (some ⟨b, o, none⟩) n c] 39)).alloc (.cells #[.int .i64 wd] 3) = W0 := ⟨_, rfl⟩
  have hsz : W0.heap.size = w.heap.size + 3 := by rw [← hW0]; simp
  have hE0 : Ext w W0 := by rw [← hW0]; exact (by repeat (first | exact Ext.refl' _ | assumption | apply Ext.ex' | apply Ext.al | apply Ext.drN | apply Ext.dr))
  have bB : Boxed W0 w.heap.size 90 (.slice none 0 0) := by rw [← hW0]; exact (bO.alloc _).alloc _
  have c1 : W0.cell? ⟨w.heap.size + 1, 0, none⟩ = some (.slice (some ⟨b, o, none⟩) n c) := by rw [← hW0]; simp [go_sem, ↓IntWalk.iteOmega]
  have c2 : W0.cell? ⟨w.heap.size + 1 + 1, 0, none⟩ = some (.int .i64 wd) := by rw [← hW0]; simp [go_sem, ↓IntWalk.iteOmega]
  clear bO
  try rw [hW0]
  try simp only [World.size_alloc]
  clear hW0
  refine wpIn_rangeFunc_ownG (encs := encBox b o wd n) (F := Fence.wide) (n := 9) (ps := #[13]) (w := W0) (Kp := But W0.heap.size w.heap.size) rfl (by decide) (gf := 91) (lb := #[.pointer (some ⟨w.heap.size + 1, 0, none⟩), .pointer (some ⟨w.heap.size + 1 + 1, 0, none⟩)]) rfl trivial (enters_of Try.func91 (by kernel_rfl) rfl)
    (chunkBox_stops 7 (w.heap.size + 1) (w.heap.size + 1 + 1) W0.heap.size w.heap.size b o wd n c hwd hw2 hn hc (by omega) (by omega) (by omega) (by omega) W0 c1 c2) But.trans (But.kb (Nat.le_refl _)) (Below.refl _ _) (fun _ => rfl)
    (fun (pre : List (Ix n)) W => ∃ v ps, Boxed W w.heap.size 90 v ∧ W.ownsRow W0.heap.size 84 1 v ps.length (ptc ps) ∧ Made W w.heap.size (fun i => .slice (some ⟨b, o + i * 5, none⟩) (min wd (n - i)) (min wd (n - i))) (fun _ => .slice none 0 0) (fun i => (mkL ((L.drop i).take wd)).r) ps (pre.map Subtype.val) ∧ But W0.heap.size w.heap.size W0 W)
    (fun _ _ _ => False)
    (fun pre W W' row ⟨v, ps, h1, h2, h3, h4⟩ hg hr => ⟨v, ps, boxed_kept hg (fun r e => (hr r e).2) h1, row_kept hg (fun r e => (hr r e).2) h2, h3.mono fun p c f hp => nodes_kept hg (fun r e => (hr r e).2) hp, But.own (β := Unit) (Nat.le_refl _) () W W' row h4 hg hr⟩)
    (fun _ _ _ _ _ hs _ _ => hs)
    ⟨_, [], bB, World.ownsRow_nil _ _ _ _, trivial, But.refl _ _ _⟩
    (fun x => { tmps := #[.slice (some ⟨b, o, none⟩) n c, .int .i64 wd, undef, undef, .slice none 0 0, .pointer (some ⟨w.heap.size, 0, none⟩), .slice (some ⟨b, o + x.1 * 5, none⟩) (min wd (n - x.1)) (min wd (n - x.1)), undef, undef, undef, .slice (some ⟨b, o, none⟩) n c, .int .i64 wd, .func (.func 91) #[] #[.pointer (some ⟨w.heap.size + 1, 0, none⟩), .pointer (some ⟨w.heap.size + 1 + 1, 0, none⟩)], .slice (some ⟨b, o + x.1 * 5, none⟩) (min wd (n - x.1)) (min wd (n - x.1)), undef, undef, undef, undef, undef, undef, undef, undef, undef, undef, undef, undef, undef, undef, undef, undef, undef, undef, undef, undef, undef, undef, undef, undef, undef, undef, undef, undef, undef], defers := [] }) ?assign ?body ?done ?stop
  case assign =>
    intro l x W K hK
    gi_wp2
    exact hK
  case body =>
    rintro l pre ⟨i, hi'⟩ W ⟨v, ps, hv, hrow, hmade, hbut⟩ hlt
    have hWsz := hbut.size
    have hEw : Ext w W := hE0.trans (hbut.below (by omega) (Nat.le_refl _))
    have hpl : ps.length ≤ 1048576 := by
      have h1 := hmade.len
      rw [List.length_map] at h1
      have h2 := (lt_nch (n := n) hwd).1 hlt
      have h3 : pre.length * 1 ≤ pre.length * wd := Nat.mul_le_mul_left _ hwd
      omega
    have hC := (hR.ext hEw).boxes HL.out i wd (by omega)
    have hCl := chunk_len L i wd
    have hm : min wd (n - i) = ((L.drop i).take wd).length := by rw [hCl, ← HL.out]
    have hC0 : 0 < ((L.drop i).take wd).length := by omega
    have HM := Lib.hid hm
    have HCC : Hid ((L.drop i).take wd = (L.drop i).take wd) := Lib.hid rfl
    generalize hCC : (L.drop i).take wd = C at hC hCl hm hC0 HM HCC ⊢
    clear HCC
    have HCC := Lib.hid hCC
    generalize ho2 : o + i * 5 = o2 at hC ⊢
    have HO2 := Lib.hid ho2
    clear hCC ho2
    have hCs : C.length ≤ 64 := by omega
    obtain ⟨b', o', he, hbW, d0, d1, d2, d3, _⟩ := hC.box rfl hC0
    simp only [Option.some.injEq, Addr.mk.injEq, and_true] at he
    obtain ⟨rfl, rfl⟩ := he
    simp only [Nat.zero_mul, Nat.add_zero] at d0 d1 d2 d3
    simp only [hm]
    clear hm hCl
    have HC0 : Hid (C[0].1 = C[0].1) := Lib.hid rfl
    generalize hcc : C[0].1 = c0 at d0 d1 d2 d3 HC0
    clear HC0
    have HC0 := Lib.hid hcc
    clear hcc
    gi_wp2
    gi_loopw [23] (fun q wr => ∃ k : Nat, k ≤ C.length ∧ q = .int .i64 k ∧ Ext (W.alloc (.cells #[.int .i64 (rL c0 C k).1.1, .int .i64 (rL c0 C k).1.2, .int .i64 (rL c0 C k).2.1, .int .i64 (rL c0 C k).2.2, .slice (some ⟨b, o2, none⟩) C.length C.length, .slice none 0 0] 100)) wr) (fun q _ => C.length - (intOf q).toNat)
    case atStart => exact ⟨0, Nat.zero_le _, rfl, Ext.refl' _⟩
    case round =>
      obtain ⟨k, hk, rfl, hE⟩ := hrel
      obtain ⟨x1, rfl⟩ := hE.get
      clear hE
      by_cases hlt2 : k < C.length
      · obtain ⟨b', o', he, _, e0, e1, e2, e3, e4⟩ := hC.box rfl hlt2
        simp only [Option.some.injEq, Addr.mk.injEq, and_true] at he
        obtain ⟨rfl, rfl⟩ := he
        have HJ := Lib.hid (rL_succ c0 C hlt2)
        generalize C[k] = ck at e0 e1 e2 e3 e4 HJ
        generalize rL c0 C k = rk at HJ ⊢
        have HJN := Lib.hid (fun w => join_any rk ck.1 w)
        gi_wp2
        refine wpIn_region_round_held (S := fun _ => True) (by kernel_rfl) (by kernel_rfl) (by rintro ⟨a, w, h⟩; exact h) trivial (fun hHeld => ?_)
        refine wpAnyH_take (i := 0) (oi := ?oi1) (v := ?v1) ?hi1 (by kernel_rfl) (by kernel_rfl) (by kernel_rfl) ?hQ1 ?hy1 (by assumption) ?_
        case hi1 => (simp only [List.getElem?_toArray, List.getElem?_cons_succ, List.getElem?_cons_zero]; rfl)
        case hQ1 => exact fun _ _ _ h => h
        case hy1 => (refine Or.inl ⟨by rfl, ?_⟩; intro wq hSw; (try dsimp only at hSw); go_simp; (try with_reducible rfl))
        (try simp only [Act.put, List.setIfInBounds_toArray, List.set_cons_zero, List.set_cons_succ])
        refine wpAnyH_take (i := 1) (oi := ?oi2) (v := ?v2) ?hi2 (by kernel_rfl) (by kernel_rfl) (by kernel_rfl) ?hQ2 ?hy2 (by assumption) ?_
        case hi2 => (simp only [List.getElem?_toArray, List.getElem?_cons_succ, List.getElem?_cons_zero]; rfl)
        case hQ2 => exact fun _ _ _ h => h
        case hy2 => (refine Or.inl ⟨by rfl, ?_⟩; intro wq hSw; (try dsimp only at hSw); go_simp; (try with_reducible rfl))
        (try simp only [Act.put, List.setIfInBounds_toArray, List.set_cons_zero, List.set_cons_succ])
        refine wpAnyH_take (i := 2) (oi := ?oi3) (v := ?v3) ?hi3 (by kernel_rfl) (by kernel_rfl) (by kernel_rfl) ?hQ3 ?hy3 (by assumption) ?_
        case hi3 => (simp only [List.getElem?_toArray, List.getElem?_cons_succ, List.getElem?_cons_zero]; rfl)
        case hQ3 => exact fun _ _ _ h => h
        case hy3 => (refine Or.inl ⟨by rfl, ?_⟩; intro wq hSw; (try dsimp only at hSw); go_simp; (try with_reducible rfl))
        (try simp only [Act.put, List.setIfInBounds_toArray, List.set_cons_zero, List.set_cons_succ])
        refine wpAnyH_take (i := 3) (oi := ?oi4) (v := ?v4) ?hi4 (by kernel_rfl) (by kernel_rfl) (by kernel_rfl) ?hQ4 ?hy4 (by assumption) ?_
        case hi4 => (simp only [List.getElem?_toArray, List.getElem?_cons_succ, List.getElem?_cons_zero]; rfl)
        case hQ4 => exact fun _ _ _ h => h
        case hy4 => (refine Or.inl ⟨by rfl, ?_⟩; intro wq hSw; (try dsimp only at hSw); go_simp; (try with_reducible rfl))
        (try simp only [Act.put, List.setIfInBounds_toArray, List.set_cons_zero, List.set_cons_succ])
        refine wpAnyH_take (i := 5) (oi := ?oi5) (v := ?v5) ?hi5 (by kernel_rfl) (by kernel_rfl) (by kernel_rfl) ?hQ5 ?hy5 (by assumption) ?_
        case hi5 => (simp only [List.getElem?_toArray, List.getElem?_cons_succ, List.getElem?_cons_zero]; rfl)
        case hQ5 => exact fun _ _ _ h => h
        case hy5 => (refine Or.inl ⟨by rfl, ?_⟩; intro wq hSw; (try dsimp only at hSw); go_simp; (try with_reducible rfl))
        (try simp only [Act.put, List.setIfInBounds_toArray, List.set_cons_zero, List.set_cons_succ])
        refine wpAnyH_ready (rs := [4, 6]) (by kernel_rfl) (by simp) ?_
        refine AllReadyH.cons (o := ?oi6) ?hi6 ?ti6 ?ri6
        case hi6 => (simp only [List.getElem?_toArray, List.getElem?_cons_succ, List.getElem?_cons_zero]; rfl)
        case ti6 =>
          intro KQ hKQ
          go_simp
          (try simp [go_sem, ↓IntWalk.iteOmega, *])
          refine hKQ.out _ _ (by trivial) (fun hHeld2 => ?_)
          clear hHeld hKQ KQ; have hHeld := hHeld2; clear hHeld2
          (try simp only [Act.put, List.setIfInBounds_toArray, List.set_cons_zero, List.set_cons_succ])
          refine wpAnyH_ready (rs := [6]) (by kernel_rfl) (by simp) ?_
          refine AllReadyH.cons (o := ?oi7) ?hi7 ?ti7 AllReadyH.nil
          case hi7 => (simp only [List.getElem?_toArray, List.getElem?_cons_succ, List.getElem?_cons_zero]; rfl)
          case ti7 =>
            intro KQ hKQ
            go_simp
            (try simp [go_sem, ↓IntWalk.iteOmega, *])
            refine hKQ.out _ _ (by trivial) (fun hHeld2 => ?_)
            clear hHeld hKQ KQ; have hHeld := hHeld2; clear hHeld2
            (try simp only [Act.put, List.setIfInBounds_toArray, List.set_cons_zero, List.set_cons_succ])
            refine wpAnyH_ready (rs := [7]) (by kernel_rfl) (by simp) ?_
            refine AllReadyH.cons (o := ?oi8) ?hi8 ?ti8 AllReadyH.nil
            case hi8 => (simp only [List.getElem?_toArray, List.getElem?_cons_succ, List.getElem?_cons_zero]; rfl)
            case ti8 =>
              intro KQ hKQ
              go_simp
              (go_at_call 66; (refine (HJN.out _).mono ?_); rintro e w1 ⟨rfl, hb1⟩; obtain ⟨x2, rfl⟩ := hb1.get; clear hb1)
              refine hKQ.out _ _ (by trivial) (fun hHeld2 => ?_)
              clear hHeld hKQ KQ; have hHeld := hHeld2; clear hHeld2
              (try simp only [Act.put, List.setIfInBounds_toArray, List.set_cons_zero, List.set_cons_succ])
              refine wpAnyH_take (i := 8) (oi := ?oi9) (v := ?v9) ?hi9 (by kernel_rfl) (by kernel_rfl) (by kernel_rfl) ?hQ9 ?hy9 (by assumption) ?_
              case hi9 => (simp only [List.getElem?_toArray, List.getElem?_cons_succ, List.getElem?_cons_zero]; rfl)
              case hQ9 => exact fun _ _ _ h => h
              case hy9 => (refine Or.inl ⟨by rfl, ?_⟩; intro wq hSw; (try dsimp only at hSw); go_simp; (try with_reducible rfl))
              (try simp only [Act.put, List.setIfInBounds_toArray, List.set_cons_zero, List.set_cons_succ])
              refine wpAnyH_take (i := 9) (oi := ?oi10) (v := ?v10) ?hi10 (by kernel_rfl) (by kernel_rfl) (by kernel_rfl) ?hQ10 ?hy10 (by assumption) ?_
              case hi10 => (simp only [List.getElem?_toArray, List.getElem?_cons_succ, List.getElem?_cons_zero]; rfl)
              case hQ10 => exact fun _ _ _ h => h
              case hy10 => (refine Or.inl ⟨by rfl, ?_⟩; intro wq hSw; (try dsimp only at hSw); go_simp; (try with_reducible rfl))
              (try simp only [Act.put, List.setIfInBounds_toArray, List.set_cons_zero, List.set_cons_succ])
              refine wpAnyH_ready (rs := [10]) (by kernel_rfl) (by simp) ?_
              refine AllReadyH.cons (o := ?oi11) ?hi11 ?ti11 AllReadyH.nil
              case hi11 => (simp only [List.getElem?_toArray, List.getElem?_cons_succ, List.getElem?_cons_zero]; rfl)
              case ti11 =>
                intro KQ hKQ
                go_simp
                (try simp [go_sem, ↓IntWalk.iteOmega, *])
                refine hKQ.out _ _ (by trivial) (fun hHeld2 => ?_)
                clear hHeld hKQ KQ; have hHeld := hHeld2; clear hHeld2
                (try simp only [Act.put, List.setIfInBounds_toArray, List.set_cons_zero, List.set_cons_succ])
                refine wpAnyH_done (by kernel_rfl) ?_ _
                gi_wp2
                go_roundw
                case rel => exact ⟨k + 1, by omega, by go_num, by rw [HJ.out]; exact (by repeat (first | exact Ext.refl' _ | assumption | apply Ext.ex' | apply Ext.al | apply Ext.drN | apply Ext.dr))⟩
                case measure => simp [intOf]; omega
        case ri6 =>
          refine AllReadyH.cons (o := ?oi12) ?hi12 ?ti12 AllReadyH.nil
          case hi12 => (simp only [List.getElem?_toArray, List.getElem?_cons_succ, List.getElem?_cons_zero]; rfl)
          case ti12 =>
            intro KQ hKQ
            go_simp
            (try simp [go_sem, ↓IntWalk.iteOmega, *])
            refine hKQ.out _ _ (by trivial) (fun hHeld2 => ?_)
            clear hHeld hKQ KQ; have hHeld := hHeld2; clear hHeld2
            (try simp only [Act.put, List.setIfInBounds_toArray, List.set_cons_zero, List.set_cons_succ])
            refine wpAnyH_ready (rs := [4]) (by kernel_rfl) (by simp) ?_
            refine AllReadyH.cons (o := ?oi13) ?hi13 ?ti13 AllReadyH.nil
            case hi13 => (simp only [List.getElem?_toArray, List.getElem?_cons_succ, List.getElem?_cons_zero]; rfl)
            case ti13 =>
              intro KQ hKQ
              go_simp
              (try simp [go_sem, ↓IntWalk.iteOmega, *])
              refine hKQ.out _ _ (by trivial) (fun hHeld2 => ?_)
              clear hHeld hKQ KQ; have hHeld := hHeld2; clear hHeld2
              (try simp only [Act.put, List.setIfInBounds_toArray, List.set_cons_zero, List.set_cons_succ])
              refine wpAnyH_ready (rs := [7]) (by kernel_rfl) (by simp) ?_
              refine AllReadyH.cons (o := ?oi14) ?hi14 ?ti14 AllReadyH.nil
              case hi14 => (simp only [List.getElem?_toArray, List.getElem?_cons_succ, List.getElem?_cons_zero]; rfl)
              case ti14 =>
                intro KQ hKQ
                go_simp
                (go_at_call 66; (refine (HJN.out _).mono ?_); rintro e w1 ⟨rfl, hb1⟩; obtain ⟨x2, rfl⟩ := hb1.get; clear hb1)
                refine hKQ.out _ _ (by trivial) (fun hHeld2 => ?_)
                clear hHeld hKQ KQ; have hHeld := hHeld2; clear hHeld2
                (try simp only [Act.put, List.setIfInBounds_toArray, List.set_cons_zero, List.set_cons_succ])
                refine wpAnyH_take (i := 8) (oi := ?oi15) (v := ?v15) ?hi15 (by kernel_rfl) (by kernel_rfl) (by kernel_rfl) ?hQ15 ?hy15 (by assumption) ?_
                case hi15 => (simp only [List.getElem?_toArray, List.getElem?_cons_succ, List.getElem?_cons_zero]; rfl)
                case hQ15 => exact fun _ _ _ h => h
                case hy15 => (refine Or.inl ⟨by rfl, ?_⟩; intro wq hSw; (try dsimp only at hSw); go_simp; (try with_reducible rfl))
                (try simp only [Act.put, List.setIfInBounds_toArray, List.set_cons_zero, List.set_cons_succ])
                refine wpAnyH_take (i := 9) (oi := ?oi16) (v := ?v16) ?hi16 (by kernel_rfl) (by kernel_rfl) (by kernel_rfl) ?hQ16 ?hy16 (by assumption) ?_
                case hi16 => (simp only [List.getElem?_toArray, List.getElem?_cons_succ, List.getElem?_cons_zero]; rfl)
                case hQ16 => exact fun _ _ _ h => h
                case hy16 => (refine Or.inl ⟨by rfl, ?_⟩; intro wq hSw; (try dsimp only at hSw); go_simp; (try with_reducible rfl))
                (try simp only [Act.put, List.setIfInBounds_toArray, List.set_cons_zero, List.set_cons_succ])
                refine wpAnyH_ready (rs := [10]) (by kernel_rfl) (by simp) ?_
                refine AllReadyH.cons (o := ?oi17) ?hi17 ?ti17 AllReadyH.nil
                case hi17 => (simp only [List.getElem?_toArray, List.getElem?_cons_succ, List.getElem?_cons_zero]; rfl)
                case ti17 =>
                  intro KQ hKQ
                  go_simp
                  (try simp [go_sem, ↓IntWalk.iteOmega, *])
                  refine hKQ.out _ _ (by trivial) (fun hHeld2 => ?_)
                  clear hHeld hKQ KQ; have hHeld := hHeld2; clear hHeld2
                  (try simp only [Act.put, List.setIfInBounds_toArray, List.set_cons_zero, List.set_cons_succ])
                  refine wpAnyH_done (by kernel_rfl) ?_ _
                  gi_wp2
                  go_roundw
                  case rel => exact ⟨k + 1, by omega, by go_num, by rw [HJ.out]; exact (by repeat (first | exact Ext.refl' _ | assumption | apply Ext.ex' | apply Ext.al | apply Ext.drN | apply Ext.dr))⟩
                  case measure => simp [intOf]; omega
      · have HE := Lib.hid (rL_end hC0 (show k = C.length by omega))
        rw [HC0.out] at HE
        generalize rL c0 C k = rk at HE ⊢
        have hE2 : Ext W (ext (W.alloc (.cells #[.int .i64 rk.1.1, .int .i64 rk.1.2, .int .i64 rk.2.1, .int .i64 rk.2.2, .slice (some ⟨b, o2, none⟩) C.length C.length, .slice none 0 0] 100)) x1) := (by repeat (first | exact Ext.refl' _ | assumption | apply Ext.ex' | apply Ext.al | apply Ext.drN | apply Ext.dr))
        have hn2 : (ext (W.alloc (.cells #[.int .i64 rk.1.1, .int .i64 rk.1.2, .int .i64 rk.2.1, .int .i64 rk.2.2, .slice (some ⟨b, o2, none⟩) C.length C.length, .slice none 0 0] 100)) x1).heap[W.heap.size]? = some (.cells #[.int .i64 rk.1.1, .int .i64 rk.1.2, .int .i64 rk.2.1, .int .i64 rk.2.2, .slice (some ⟨b, o2, none⟩) C.length C.length, .slice none 0 0] 100) := by rw [block_ext _ _ _ (by simp)]; exact World.alloc_heap_new W _
        generalize ext (W.alloc (.cells #[.int .i64 rk.1.1, .int .i64 rk.1.2, .int .i64 rk.2.1, .int .i64 rk.2.2, .slice (some ⟨b, o2, none⟩) C.length C.length, .slice none 0 0] 100)) x1 = W2 at hE2 hn2 ⊢
        have hv2 := boxed_ext hv hE2
        have hrow2 := ownsRow_ext hrow hE2
        have hmade2 := hmade.mono (W' := W2) (fun p c f hp => (hE2.block p (Array.getElem?_eq_some_iff.1 hp).1).trans hp)
        have hc2 := hv2.cell
        have hf2 := hv2.frozen
        have hs2 := hE2.size
        gi_wp2_with (gi_at_builtin; refine wpListIn_append_own _ rfl _ _ 90 rfl W0.heap.size 84 i0 (.pointer none) 1 8 Try.underlying90 hi hz0 hz1 hz2 rfl (by decide) _ _ _ rfl (hrow2.alloc _) ⟨W2.heap.size, 0, none⟩ 1 1 [pt W.heap.size] rfl rfl (cell_one_new _ _ _) (by simp [Value.oneCell']) (by unfold maxLen; omega) (by omega) (by simp; omega) ?_; intro v' w1 hown' hgrow _; obtain ⟨g', cap', rfl⟩ := ownsRow_succ hown'; obtain ⟨hv1, hv3, hr3, hk3, hb3, hno3⟩ := boxed_app hv2 (by decide) hrow2 (by omega) hown' hgrow; have hc1 := hv1.cell; have hf1 := hv1.frozen)
        refine ⟨((keepsOthers_ext hE2).trans hk3).from _, (But.ofExt hE2 hWsz).trans hb3, _, ps ++ [W.heap.size], hv3, by simpa [ptc] using hr3, ?_, hbut.trans ((But.ofExt hE2 hWsz).trans hb3)⟩
        rw [List.map_append]
        refine Made.snoc (by omega) ?_ (hmade2.mono fun p c f hp => hno3 p c _ f hp (by decide) (by decide))
        have := hno3 _ _ _ _ hn2 (by decide) (by decide)
        rw [this]
        simp only [HCC.out, HM.out, HO2.out]
        rw [HE.out]
  case done =>
    rintro D xs W hD hS ⟨v, ps, hv, hrow, hmade, hbut⟩ hK
    have HS := Lib.hid hS
    clear hS
    have hWsz := hbut.size
    have hEw : Ext w W := hE0.trans (hbut.below (by omega) (Nat.le_refl _))
    obtain ⟨A, c', rfl, hcap⟩ := row_form hrow
    have hc' := hv.cell
    gi_wp2
    refine ⟨by simp, .inl ⟨_, _, rfl, run_takeDeferred hK, ?_⟩⟩
    refine ⟨_, results_tmp rfl _ _ _, ?_⟩
    have hlen : ps.length = (leavesF wd L).length := by
      rw [hmade.len, HS.out, leavesF_length]; simp [← HL.out]
    have hEf : Ext w (W.putObj D (.deferred none)) := hEw.trans ((But.kb (B := W0.heap.size) (Nat.le_refl W0.heap.size) W D _ _ (by omega) hK rfl rfl).below (by omega) (by omega))
    have hrow' := ownsRow_putObj hrow (.deferred none) hK rfl
    refine ⟨A, c', ps, by rw [← hlen]; rfl, hEf, by omega, fun X hX hag hBase => ⟨?_, ?_⟩⟩
    · rw [← hlen]
      refine (Rd.of_own hrow').agree fun b o hA hb => ⟨by omega, hag b ?_ hb⟩
      have := (row_block hrow' (r := b) (by rw [hA]; rfl)).1
      omega
    refine TMs.of hlen fun j h1 h2 => ?_
    have hx : ((xs.map Subtype.val)[j]'(by rw [← hmade.len]; exact h2)) = j * wd := by simp only [HS.out, List.getElem_map, List.getElem_range]
    obtain ⟨hlo, hp⟩ := hmade.get j h2 (by rw [← hmade.len]; exact h2)
    rw [hx] at hp
    have hp2 := nodes_kept (grownBy_putObj' W D (.deferred none)) (fun r e => by cases e; exact ⟨_, hK, rfl⟩) hp
    have hp2 := (hag _ hlo (Array.getElem?_eq_some_iff.1 hp2).1).trans hp2
    have hjn : j * wd < n := (lt_nch (n := n) hwd).1 (by rw [leavesF_length] at h1; rw [HL.out]; exact h1)
    have hC := hBase.boxes HL.out (j * wd) wd (by omega)
    have hCl := chunk_len L (j * wd) wd
    have ht : (leavesF wd L)[j] = mkL ((L.drop (j * wd)).take wd) := by simp [leavesF, chunks]
    rw [ht]
    have hmn : min wd (n - j * wd) = ((L.drop (j * wd)).take wd).length := by rw [hCl, ← HL.out]
    simp only [hmn] at hp2
    have hC0 : 0 < ((L.drop (j * wd)).take wd).length := by omega
    exact tm_lf hp2 (by intro h; rw [h] at hC0; simp at hC0) (by omega) hC
  case stop =>
    rintro D c pre W _ _ h _
    exact h.elim


set_option maxRecDepth 100000 in
set_option maxHeartbeats 8000000 in
theorem above_any (b o n c wd : Nat) (hwd : 1 ≤ wd) (hw2 : wd ≤ 64) (hn0 : 1 ≤ n) (hn : n ≤ 1048576) (hc : n ≤ c) (w : World) (T0 : List Tr) (ps0 : List Nat) (hR : Rd w 1 (some ⟨b, o, none⟩) n (ptc ps0)) (hL : n = T0.length) (hT : TMs w T0 ps0) :
    Calls Try.prog 43 #[.slice (some ⟨b, o, none⟩) n c, .int .i64 wd] w (LevP (aboveF wd T0) (fun X => Rd X 1 (some ⟨b, o, none⟩) n (ptc ps0) ∧ TMs X T0 ps0) w) := by
  have hbw : b < w.heap.size := by
    obtain ⟨b', o', hA, hb, _⟩ := hR.2 (by omega)
    simp only [Option.some.injEq, Addr.mk.injEq, and_true] at hA
    obtain ⟨rfl, rfl⟩ := hA
    exact hb
  have HL := Lib.hid hL
  have HP : Hid (n = ps0.length) := Lib.hid (by rw [(TMs.get hT).1, hL])
  clear hL
  obtain ⟨i0, hi, hz0, hz1, hz2⟩ := (elNode : El Try.prog 90 84 (.pointer none) 1 8).hi
  refine (callsIn_wide (n := 9)).1 ?_
  refine callsIn_of_wp_marks Try.func43 rfl trivial ?_ rfl
  simp only [Try.ntmps43, List.size_toArray, List.length_cons, List.length_nil, Nat.reduceAdd, Nat.reduceSub, Array.replicate_succ, Array.replicate_zero, List.push_toArray, List.append_toArray, List.nil_append, List.cons_append]
  gi_wp2_with (refine ⟨trivial, ?_⟩; gi_at_call 67; refine (callsIn_to (chunkNod_any (some ⟨b, o, none⟩) n c wd hwd _)).mono ?_; rintro e w' ⟨rfl, rfl⟩)
  have bO := Boxed.new w 90 (.slice none 0 0)
  obtain ⟨W0, hW0⟩ : ∃ W0, ((w.alloc (.cells #[.slice none 0 0] 90)).alloc (.cells #[.slice (some ⟨b, o, none⟩) n c] 90)).alloc (.cells #[.int .i64 wd] 3) = W0 := ⟨_, rfl⟩
  have hsz : W0.heap.size = w.heap.size + 3 := by rw [← hW0]; simp
  have hE0 : Ext w W0 := by rw [← hW0]; exact (by repeat (first | exact Ext.refl' _ | assumption | apply Ext.ex' | apply Ext.al | apply Ext.drN | apply Ext.dr))
  have bB : Boxed W0 w.heap.size 90 (.slice none 0 0) := by rw [← hW0]; exact (bO.alloc _).alloc _
  have c1 : W0.cell? ⟨w.heap.size + 1, 0, none⟩ = some (.slice (some ⟨b, o, none⟩) n c) := by rw [← hW0]; simp [go_sem, ↓IntWalk.iteOmega]
  have c2 : W0.cell? ⟨w.heap.size + 1 + 1, 0, none⟩ = some (.int .i64 wd) := by rw [← hW0]; simp [go_sem, ↓IntWalk.iteOmega]
  clear bO
  try rw [hW0]
  try simp only [World.size_alloc]
  clear hW0
  refine wpIn_rangeFunc_ownG (encs := encNod b o wd n) (F := Fence.wide) (n := 9) (ps := #[13]) (w := W0) (Kp := But W0.heap.size w.heap.size) rfl (by decide) (gf := 93) (lb := #[.pointer (some ⟨w.heap.size + 1, 0, none⟩), .pointer (some ⟨w.heap.size + 1 + 1, 0, none⟩)]) rfl trivial (enters_of Try.func93 (by kernel_rfl) rfl)
    (chunkNod_stops 7 (w.heap.size + 1) (w.heap.size + 1 + 1) W0.heap.size w.heap.size b o wd n c hwd hw2 hn hc (by omega) (by omega) (by omega) (by omega) W0 c1 c2) But.trans (But.kb (Nat.le_refl _)) (Below.refl _ _) (fun _ => rfl)
    (fun (pre : List (Ix n)) W => ∃ v ps, Boxed W w.heap.size 90 v ∧ W.ownsRow W0.heap.size 84 1 v ps.length (ptc ps) ∧ Made W w.heap.size (fun _ => .slice none 0 0) (fun i => .slice (some ⟨b, o + i, none⟩) (min wd (n - i)) (min wd (n - i))) (fun i => (mkN ((T0.drop i).take wd)).r) ps (pre.map Subtype.val) ∧ But W0.heap.size w.heap.size W0 W)
    (fun _ _ _ => False)
    (fun pre W W' row ⟨v, ps, h1, h2, h3, h4⟩ hg hr => ⟨v, ps, boxed_kept hg (fun r e => (hr r e).2) h1, row_kept hg (fun r e => (hr r e).2) h2, h3.mono fun p c f hp => nodes_kept hg (fun r e => (hr r e).2) hp, But.own (β := Unit) (Nat.le_refl _) () W W' row h4 hg hr⟩)
    (fun _ _ _ _ _ hs _ _ => hs)
    ⟨_, [], bB, World.ownsRow_nil _ _ _ _, trivial, But.refl _ _ _⟩
    (fun x => { tmps := #[.slice (some ⟨b, o, none⟩) n c, .int .i64 wd, undef, undef, .slice none 0 0, .pointer (some ⟨w.heap.size, 0, none⟩), .slice (some ⟨b, o + x.1, none⟩) (min wd (n - x.1)) (min wd (n - x.1)), undef, undef, undef, .slice (some ⟨b, o, none⟩) n c, .int .i64 wd, .func (.func 93) #[] #[.pointer (some ⟨w.heap.size + 1, 0, none⟩), .pointer (some ⟨w.heap.size + 1 + 1, 0, none⟩)], .slice (some ⟨b, o + x.1, none⟩) (min wd (n - x.1)) (min wd (n - x.1)), undef, undef, undef, undef, undef, undef, undef, undef, undef, undef, undef, undef, undef, undef, undef, undef, undef, undef, undef, undef, undef, undef, undef, undef, undef, undef, undef, undef, undef, undef, undef, undef, undef], defers := [] }) ?assign ?body ?done ?stop
  case assign =>
    intro l x W K hK
    gi_wp2
    exact hK
  case body =>
    rintro l pre ⟨i, hi'⟩ W ⟨v, ps, hv, hrow, hmade, hbut⟩ hlt
    have hWsz := hbut.size
    have hEw : Ext w W := hE0.trans (hbut.below (by omega) (Nat.le_refl _))
    have hpl : ps.length ≤ 1048576 := by
      have h1 := hmade.len
      rw [List.length_map] at h1
      have h2 := (lt_nch (n := n) hwd).1 hlt
      have h3 : pre.length * 1 ≤ pre.length * wd := Nat.mul_le_mul_left _ hwd
      omega
    have hC := (hR.ext hEw).ptrs HP.out i wd (by omega)
    have hCl := chunk_len T0 i wd
    have hm : min wd (n - i) = ((T0.drop i).take wd).length := by rw [hCl, ← HL.out]
    have hC0 : 0 < ((T0.drop i).take wd).length := by omega
    have HM := Lib.hid hm
    have hTC := (hT.ext hEw).part i wd
    have hPC := (TMs.get hTC).1
    rw [hPC] at hC
    generalize hCC : (T0.drop i).take wd = C at hC hCl hm hC0 HM hTC hPC ⊢
    have HCC := Lib.hid hCC
    generalize (ps0.drop i).take wd = Ps at hC hTC hPC
    generalize ho2 : o + i = o2 at hC ⊢
    have HO2 := Lib.hid ho2
    clear hCC ho2
    have hCs : C.length ≤ 64 := by omega
    have hP0 : 0 < Ps.length := by omega
    rw [← hPC] at hC
    obtain ⟨b', o', he, hbW, d⟩ := hC.ptr hP0
    simp only [Option.some.injEq, Addr.mk.injEq, and_true] at he
    obtain ⟨rfl, rfl⟩ := he
    simp only [Nat.add_zero] at d
    obtain ⟨hp0, d0, d1, d2, d3⟩ := ((TMs.get hTC).2 0 hC0 hP0).rect
    have HPC := Lib.hid hPC
    clear hPC
    simp only [hm]
    clear hm hCl
    have HC0 : Hid (C[0].r = C[0].r) := Lib.hid rfl
    generalize hcc : C[0].r = c0 at d0 d1 d2 d3 HC0
    clear HC0
    have HC0 := Lib.hid hcc
    clear hcc
    generalize Ps[0] = p0 at d d0 d1 d2 d3 hp0
    gi_wp2
    gi_loopw [25] (fun q wr => ∃ k : Nat, k ≤ C.length ∧ q = .int .i64 k ∧ Ext (W.alloc (.cells #[.int .i64 (rN c0 C k).1.1, .int .i64 (rN c0 C k).1.2, .int .i64 (rN c0 C k).2.1, .int .i64 (rN c0 C k).2.2, .slice none 0 0, .slice (some ⟨b, o2, none⟩) C.length C.length] 100)) wr) (fun q _ => C.length - (intOf q).toNat)
    case atStart => exact ⟨0, Nat.zero_le _, rfl, Ext.refl' _⟩
    case round =>
      obtain ⟨k, hk, rfl, hE⟩ := hrel
      obtain ⟨x1, rfl⟩ := hE.get
      clear hE
      by_cases hlt2 : k < C.length
      · have hlt3 : k < Ps.length := by have := HPC.out; omega
        obtain ⟨b', o', he, _, e⟩ := hC.ptr hlt3
        simp only [Option.some.injEq, Addr.mk.injEq, and_true] at he
        obtain ⟨rfl, rfl⟩ := he
        obtain ⟨hpk, e0, e1, e2, e3⟩ := ((TMs.get hTC).2 k hlt2 hlt3).rect
        have HJ := Lib.hid (rN_succ c0 C hlt2)
        generalize C[k].r = ck at e0 e1 e2 e3 HJ
        generalize Ps[k] = pk at e e0 e1 e2 e3 hpk
        generalize rN c0 C k = rk at HJ ⊢
        have HJN := Lib.hid (fun w => join_any rk ck w)
        gi_wp2
        refine wpIn_region_round_held (S := fun _ => True) (by kernel_rfl) (by kernel_rfl) (by rintro ⟨a, w, h⟩; exact h) trivial (fun hHeld => ?_)
        refine wpAnyH_take (i := 0) (oi := ?oi1) (v := ?v1) ?hi1 (by kernel_rfl) (by kernel_rfl) (by kernel_rfl) ?hQ1 ?hy1 (by assumption) ?_
        case hi1 => (simp only [List.getElem?_toArray, List.getElem?_cons_succ, List.getElem?_cons_zero]; rfl)
        case hQ1 => exact fun _ _ _ h => h
        case hy1 => (refine Or.inl ⟨by rfl, ?_⟩; intro wq hSw; (try dsimp only at hSw); go_simp; (try with_reducible rfl))
        (try simp only [Act.put, List.setIfInBounds_toArray, List.set_cons_zero, List.set_cons_succ])
        refine wpAnyH_take (i := 1) (oi := ?oi2) (v := ?v2) ?hi2 (by kernel_rfl) (by kernel_rfl) (by kernel_rfl) ?hQ2 ?hy2 (by assumption) ?_
        case hi2 => (simp only [List.getElem?_toArray, List.getElem?_cons_succ, List.getElem?_cons_zero]; rfl)
        case hQ2 => exact fun _ _ _ h => h
        case hy2 => (refine Or.inl ⟨by rfl, ?_⟩; intro wq hSw; (try dsimp only at hSw); go_simp; (try with_reducible rfl))
        (try simp only [Act.put, List.setIfInBounds_toArray, List.set_cons_zero, List.set_cons_succ])
        refine wpAnyH_take (i := 2) (oi := ?oi3) (v := ?v3) ?hi3 (by kernel_rfl) (by kernel_rfl) (by kernel_rfl) ?hQ3 ?hy3 (by assumption) ?_
        case hi3 => (simp only [List.getElem?_toArray, List.getElem?_cons_succ, List.getElem?_cons_zero]; rfl)
        case hQ3 => exact fun _ _ _ h => h
        case hy3 => (refine Or.inl ⟨by rfl, ?_⟩; intro wq hSw; (try dsimp only at hSw); go_simp; (try with_reducible rfl))
        (try simp only [Act.put, List.setIfInBounds_toArray, List.set_cons_zero, List.set_cons_succ])
        refine wpAnyH_take (i := 3) (oi := ?oi4) (v := ?v4) ?hi4 (by kernel_rfl) (by kernel_rfl) (by kernel_rfl) ?hQ4 ?hy4 (by assumption) ?_
        case hi4 => (simp only [List.getElem?_toArray, List.getElem?_cons_succ, List.getElem?_cons_zero]; rfl)
        case hQ4 => exact fun _ _ _ h => h
        case hy4 => (refine Or.inl ⟨by rfl, ?_⟩; intro wq hSw; (try dsimp only at hSw); go_simp; (try with_reducible rfl))
        (try simp only [Act.put, List.setIfInBounds_toArray, List.set_cons_zero, List.set_cons_succ])
        refine wpAnyH_take (i := 5) (oi := ?oi5) (v := ?v5) ?hi5 (by kernel_rfl) (by kernel_rfl) (by kernel_rfl) ?hQ5 ?hy5 (by assumption) ?_
        case hi5 => (simp only [List.getElem?_toArray, List.getElem?_cons_succ, List.getElem?_cons_zero]; rfl)
        case hQ5 => exact fun _ _ _ h => h
        case hy5 => (refine Or.inl ⟨by rfl, ?_⟩; intro wq hSw; (try dsimp only at hSw); go_simp; (try with_reducible rfl))
        (try simp only [Act.put, List.setIfInBounds_toArray, List.set_cons_zero, List.set_cons_succ])
        refine wpAnyH_take (i := 6) (oi := ?oi6) (v := ?v6) ?hi6 (by kernel_rfl) (by kernel_rfl) (by kernel_rfl) ?hQ6 ?hy6 (by assumption) ?_
        case hi6 => (simp only [List.getElem?_toArray, List.getElem?_cons_succ, List.getElem?_cons_zero]; rfl)
        case hQ6 => exact fun _ _ _ h => h
        case hy6 => (refine Or.inl ⟨by rfl, ?_⟩; intro wq hSw; (try dsimp only at hSw); go_simp; (try with_reducible rfl))
        (try simp only [Act.put, List.setIfInBounds_toArray, List.set_cons_zero, List.set_cons_succ])
        refine wpAnyH_take (i := 7) (oi := ?oi7) (v := ?v7) ?hi7 (by kernel_rfl) (by kernel_rfl) (by kernel_rfl) ?hQ7 ?hy7 (by assumption) ?_
        case hi7 => (simp only [List.getElem?_toArray, List.getElem?_cons_succ, List.getElem?_cons_zero]; rfl)
        case hQ7 => exact fun _ _ _ h => h
        case hy7 => (refine Or.inl ⟨by rfl, ?_⟩; intro wq hSw; (try dsimp only at hSw); go_simp; (try with_reducible rfl))
        (try simp only [Act.put, List.setIfInBounds_toArray, List.set_cons_zero, List.set_cons_succ])
        refine wpAnyH_ready (rs := [4, 8]) (by kernel_rfl) (by simp) ?_
        refine AllReadyH.cons (o := ?oi8) ?hi8 ?ti8 ?ri8
        case hi8 => (simp only [List.getElem?_toArray, List.getElem?_cons_succ, List.getElem?_cons_zero]; rfl)
        case ti8 =>
          intro KQ hKQ
          go_simp
          (try simp [go_sem, ↓IntWalk.iteOmega, *])
          refine hKQ.out _ _ (by trivial) (fun hHeld2 => ?_)
          clear hHeld hKQ KQ; have hHeld := hHeld2; clear hHeld2
          (try simp only [Act.put, List.setIfInBounds_toArray, List.set_cons_zero, List.set_cons_succ])
          refine wpAnyH_ready (rs := [8]) (by kernel_rfl) (by simp) ?_
          refine AllReadyH.cons (o := ?oi9) ?hi9 ?ti9 AllReadyH.nil
          case hi9 => (simp only [List.getElem?_toArray, List.getElem?_cons_succ, List.getElem?_cons_zero]; rfl)
          case ti9 =>
            intro KQ hKQ
            go_simp
            (try simp [go_sem, ↓IntWalk.iteOmega, *])
            refine hKQ.out _ _ (by trivial) (fun hHeld2 => ?_)
            clear hHeld hKQ KQ; have hHeld := hHeld2; clear hHeld2
            (try simp only [Act.put, List.setIfInBounds_toArray, List.set_cons_zero, List.set_cons_succ])
            refine wpAnyH_ready (rs := [9]) (by kernel_rfl) (by simp) ?_
            refine AllReadyH.cons (o := ?oi10) ?hi10 ?ti10 AllReadyH.nil
            case hi10 => (simp only [List.getElem?_toArray, List.getElem?_cons_succ, List.getElem?_cons_zero]; rfl)
            case ti10 =>
              intro KQ hKQ
              go_simp
              (go_at_call 66; (refine (HJN.out _).mono ?_); rintro e w1 ⟨rfl, hb1⟩; obtain ⟨x2, rfl⟩ := hb1.get; clear hb1)
              refine hKQ.out _ _ (by trivial) (fun hHeld2 => ?_)
              clear hHeld hKQ KQ; have hHeld := hHeld2; clear hHeld2
              (try simp only [Act.put, List.setIfInBounds_toArray, List.set_cons_zero, List.set_cons_succ])
              refine wpAnyH_take (i := 10) (oi := ?oi11) (v := ?v11) ?hi11 (by kernel_rfl) (by kernel_rfl) (by kernel_rfl) ?hQ11 ?hy11 (by assumption) ?_
              case hi11 => (simp only [List.getElem?_toArray, List.getElem?_cons_succ, List.getElem?_cons_zero]; rfl)
              case hQ11 => exact fun _ _ _ h => h
              case hy11 => (refine Or.inl ⟨by rfl, ?_⟩; intro wq hSw; (try dsimp only at hSw); go_simp; (try with_reducible rfl))
              (try simp only [Act.put, List.setIfInBounds_toArray, List.set_cons_zero, List.set_cons_succ])
              refine wpAnyH_take (i := 11) (oi := ?oi12) (v := ?v12) ?hi12 (by kernel_rfl) (by kernel_rfl) (by kernel_rfl) ?hQ12 ?hy12 (by assumption) ?_
              case hi12 => (simp only [List.getElem?_toArray, List.getElem?_cons_succ, List.getElem?_cons_zero]; rfl)
              case hQ12 => exact fun _ _ _ h => h
              case hy12 => (refine Or.inl ⟨by rfl, ?_⟩; intro wq hSw; (try dsimp only at hSw); go_simp; (try with_reducible rfl))
              (try simp only [Act.put, List.setIfInBounds_toArray, List.set_cons_zero, List.set_cons_succ])
              refine wpAnyH_ready (rs := [12]) (by kernel_rfl) (by simp) ?_
              refine AllReadyH.cons (o := ?oi13) ?hi13 ?ti13 AllReadyH.nil
              case hi13 => (simp only [List.getElem?_toArray, List.getElem?_cons_succ, List.getElem?_cons_zero]; rfl)
              case ti13 =>
                intro KQ hKQ
                go_simp
                (try simp [go_sem, ↓IntWalk.iteOmega, *])
                refine hKQ.out _ _ (by trivial) (fun hHeld2 => ?_)
                clear hHeld hKQ KQ; have hHeld := hHeld2; clear hHeld2
                (try simp only [Act.put, List.setIfInBounds_toArray, List.set_cons_zero, List.set_cons_succ])
                refine wpAnyH_done (by kernel_rfl) ?_ _
                gi_wp2
                go_roundw
                case rel => exact ⟨k + 1, by omega, by go_num, by rw [HJ.out]; exact (by repeat (first | exact Ext.refl' _ | assumption | apply Ext.ex' | apply Ext.al | apply Ext.drN | apply Ext.dr))⟩
                case measure => simp [intOf]; omega
        case ri8 =>
          refine AllReadyH.cons (o := ?oi14) ?hi14 ?ti14 AllReadyH.nil
          case hi14 => (simp only [List.getElem?_toArray, List.getElem?_cons_succ, List.getElem?_cons_zero]; rfl)
          case ti14 =>
            intro KQ hKQ
            go_simp
            (try simp [go_sem, ↓IntWalk.iteOmega, *])
            refine hKQ.out _ _ (by trivial) (fun hHeld2 => ?_)
            clear hHeld hKQ KQ; have hHeld := hHeld2; clear hHeld2
            (try simp only [Act.put, List.setIfInBounds_toArray, List.set_cons_zero, List.set_cons_succ])
            refine wpAnyH_ready (rs := [4]) (by kernel_rfl) (by simp) ?_
            refine AllReadyH.cons (o := ?oi15) ?hi15 ?ti15 AllReadyH.nil
            case hi15 => (simp only [List.getElem?_toArray, List.getElem?_cons_succ, List.getElem?_cons_zero]; rfl)
            case ti15 =>
              intro KQ hKQ
              go_simp
              (try simp [go_sem, ↓IntWalk.iteOmega, *])
              refine hKQ.out _ _ (by trivial) (fun hHeld2 => ?_)
              clear hHeld hKQ KQ; have hHeld := hHeld2; clear hHeld2
              (try simp only [Act.put, List.setIfInBounds_toArray, List.set_cons_zero, List.set_cons_succ])
              refine wpAnyH_ready (rs := [9]) (by kernel_rfl) (by simp) ?_
              refine AllReadyH.cons (o := ?oi16) ?hi16 ?ti16 AllReadyH.nil
              case hi16 => (simp only [List.getElem?_toArray, List.getElem?_cons_succ, List.getElem?_cons_zero]; rfl)
              case ti16 =>
                intro KQ hKQ
                go_simp
                (go_at_call 66; (refine (HJN.out _).mono ?_); rintro e w1 ⟨rfl, hb1⟩; obtain ⟨x2, rfl⟩ := hb1.get; clear hb1)
                refine hKQ.out _ _ (by trivial) (fun hHeld2 => ?_)
                clear hHeld hKQ KQ; have hHeld := hHeld2; clear hHeld2
                (try simp only [Act.put, List.setIfInBounds_toArray, List.set_cons_zero, List.set_cons_succ])
                refine wpAnyH_take (i := 10) (oi := ?oi17) (v := ?v17) ?hi17 (by kernel_rfl) (by kernel_rfl) (by kernel_rfl) ?hQ17 ?hy17 (by assumption) ?_
                case hi17 => (simp only [List.getElem?_toArray, List.getElem?_cons_succ, List.getElem?_cons_zero]; rfl)
                case hQ17 => exact fun _ _ _ h => h
                case hy17 => (refine Or.inl ⟨by rfl, ?_⟩; intro wq hSw; (try dsimp only at hSw); go_simp; (try with_reducible rfl))
                (try simp only [Act.put, List.setIfInBounds_toArray, List.set_cons_zero, List.set_cons_succ])
                refine wpAnyH_take (i := 11) (oi := ?oi18) (v := ?v18) ?hi18 (by kernel_rfl) (by kernel_rfl) (by kernel_rfl) ?hQ18 ?hy18 (by assumption) ?_
                case hi18 => (simp only [List.getElem?_toArray, List.getElem?_cons_succ, List.getElem?_cons_zero]; rfl)
                case hQ18 => exact fun _ _ _ h => h
                case hy18 => (refine Or.inl ⟨by rfl, ?_⟩; intro wq hSw; (try dsimp only at hSw); go_simp; (try with_reducible rfl))
                (try simp only [Act.put, List.setIfInBounds_toArray, List.set_cons_zero, List.set_cons_succ])
                refine wpAnyH_ready (rs := [12]) (by kernel_rfl) (by simp) ?_
                refine AllReadyH.cons (o := ?oi19) ?hi19 ?ti19 AllReadyH.nil
                case hi19 => (simp only [List.getElem?_toArray, List.getElem?_cons_succ, List.getElem?_cons_zero]; rfl)
                case ti19 =>
                  intro KQ hKQ
                  go_simp
                  (try simp [go_sem, ↓IntWalk.iteOmega, *])
                  refine hKQ.out _ _ (by trivial) (fun hHeld2 => ?_)
                  clear hHeld hKQ KQ; have hHeld := hHeld2; clear hHeld2
                  (try simp only [Act.put, List.setIfInBounds_toArray, List.set_cons_zero, List.set_cons_succ])
                  refine wpAnyH_done (by kernel_rfl) ?_ _
                  gi_wp2
                  go_roundw
                  case rel => exact ⟨k + 1, by omega, by go_num, by rw [HJ.out]; exact (by repeat (first | exact Ext.refl' _ | assumption | apply Ext.ex' | apply Ext.al | apply Ext.drN | apply Ext.dr))⟩
                  case measure => simp [intOf]; omega
      · have HE := Lib.hid (rN_end hC0 (show k = C.length by omega))
        rw [HC0.out] at HE
        generalize rN c0 C k = rk at HE ⊢
        have hE2 : Ext W (ext (W.alloc (.cells #[.int .i64 rk.1.1, .int .i64 rk.1.2, .int .i64 rk.2.1, .int .i64 rk.2.2, .slice none 0 0, .slice (some ⟨b, o2, none⟩) C.length C.length] 100)) x1) := (by repeat (first | exact Ext.refl' _ | assumption | apply Ext.ex' | apply Ext.al | apply Ext.drN | apply Ext.dr))
        have hn2 : (ext (W.alloc (.cells #[.int .i64 rk.1.1, .int .i64 rk.1.2, .int .i64 rk.2.1, .int .i64 rk.2.2, .slice none 0 0, .slice (some ⟨b, o2, none⟩) C.length C.length] 100)) x1).heap[W.heap.size]? = some (.cells #[.int .i64 rk.1.1, .int .i64 rk.1.2, .int .i64 rk.2.1, .int .i64 rk.2.2, .slice none 0 0, .slice (some ⟨b, o2, none⟩) C.length C.length] 100) := by rw [block_ext _ _ _ (by simp)]; exact World.alloc_heap_new W _
        generalize ext (W.alloc (.cells #[.int .i64 rk.1.1, .int .i64 rk.1.2, .int .i64 rk.2.1, .int .i64 rk.2.2, .slice none 0 0, .slice (some ⟨b, o2, none⟩) C.length C.length] 100)) x1 = W2 at hE2 hn2 ⊢
        have hv2 := boxed_ext hv hE2
        have hrow2 := ownsRow_ext hrow hE2
        have hmade2 := hmade.mono (W' := W2) (fun p c f hp => (hE2.block p (Array.getElem?_eq_some_iff.1 hp).1).trans hp)
        have hc2 := hv2.cell
        have hf2 := hv2.frozen
        have hs2 := hE2.size
        gi_wp2_with (gi_at_builtin; refine wpListIn_append_own _ rfl _ _ 90 rfl W0.heap.size 84 i0 (.pointer none) 1 8 Try.underlying90 hi hz0 hz1 hz2 rfl (by decide) _ _ _ rfl (hrow2.alloc _) ⟨W2.heap.size, 0, none⟩ 1 1 [pt W.heap.size] rfl rfl (cell_one_new _ _ _) (by simp [Value.oneCell']) (by unfold maxLen; omega) (by omega) (by simp; omega) ?_; intro v' w1 hown' hgrow _; obtain ⟨g', cap', rfl⟩ := ownsRow_succ hown'; obtain ⟨hv1, hv3, hr3, hk3, hb3, hno3⟩ := boxed_app hv2 (by decide) hrow2 (by omega) hown' hgrow; have hc1 := hv1.cell; have hf1 := hv1.frozen)
        refine ⟨((keepsOthers_ext hE2).trans hk3).from _, (But.ofExt hE2 hWsz).trans hb3, _, ps ++ [W.heap.size], hv3, by simpa [ptc] using hr3, ?_, hbut.trans ((But.ofExt hE2 hWsz).trans hb3)⟩
        rw [List.map_append]
        refine Made.snoc (by omega) ?_ (hmade2.mono fun p c f hp => hno3 p c _ f hp (by decide) (by decide))
        have := hno3 _ _ _ _ hn2 (by decide) (by decide)
        rw [this]
        simp only [HCC.out, HM.out, HO2.out]
        rw [HE.out]
  case done =>
    rintro D xs W hD hS ⟨v, ps, hv, hrow, hmade, hbut⟩ hK
    have HS := Lib.hid hS
    clear hS
    have hWsz := hbut.size
    have hEw : Ext w W := hE0.trans (hbut.below (by omega) (Nat.le_refl _))
    obtain ⟨A, c', rfl, hcap⟩ := row_form hrow
    have hc' := hv.cell
    gi_wp2
    refine ⟨by simp, .inl ⟨_, _, rfl, run_takeDeferred hK, ?_⟩⟩
    refine ⟨_, results_tmp rfl _ _ _, ?_⟩
    have hlen : ps.length = (aboveF wd T0).length := by
      rw [hmade.len, HS.out, aboveF_length]; simp [← HL.out]
    have hEf : Ext w (W.putObj D (.deferred none)) := hEw.trans ((But.kb (B := W0.heap.size) (Nat.le_refl W0.heap.size) W D _ _ (by omega) hK rfl rfl).below (by omega) (by omega))
    have hrow' := ownsRow_putObj hrow (.deferred none) hK rfl
    refine ⟨A, c', ps, by rw [← hlen]; rfl, hEf, by omega, fun X hX hag hBase => ⟨?_, ?_⟩⟩
    · rw [← hlen]
      refine (Rd.of_own hrow').agree fun b o hA hb => ⟨by omega, hag b ?_ hb⟩
      have := (row_block hrow' (r := b) (by rw [hA]; rfl)).1
      omega
    refine TMs.of hlen fun j h1 h2 => ?_
    have hx : ((xs.map Subtype.val)[j]'(by rw [← hmade.len]; exact h2)) = j * wd := by simp only [HS.out, List.getElem_map, List.getElem_range]
    obtain ⟨hlo, hp⟩ := hmade.get j h2 (by rw [← hmade.len]; exact h2)
    rw [hx] at hp
    have hp2 := nodes_kept (grownBy_putObj' W D (.deferred none)) (fun r e => by cases e; exact ⟨_, hK, rfl⟩) hp
    have hp2 := (hag _ hlo (Array.getElem?_eq_some_iff.1 hp2).1).trans hp2
    have hjn : j * wd < n := (lt_nch (n := n) hwd).1 (by rw [aboveF_length] at h1; rw [HL.out]; exact h1)
    have hC := hBase.1.ptrs HP.out (j * wd) wd (by omega)
    have hCl := chunk_len T0 (j * wd) wd
    have ht : (aboveF wd T0)[j] = mkN ((T0.drop (j * wd)).take wd) := by simp [aboveF, chunks]
    rw [ht]
    have hmn : min wd (n - j * wd) = ((T0.drop (j * wd)).take wd).length := by rw [hCl, ← HL.out]
    simp only [hmn] at hp2
    have hC0 : 0 < ((T0.drop (j * wd)).take wd).length := by omega
    have hTC := hBase.2.part (j * wd) wd
    rw [(TMs.get hTC).1] at hC
    exact tm_nd hp2 (by intro h; rw [h] at hC0; simp at hC0) (by omega) hC hTC
  case stop =>
    rintro D c pre W _ _ h _
    exact h.elim

end Go.Proofs.Ytahmkinppighkaa
