/- Lemmas for the rows: TrD TrE TrF. -/
import Derived.Test.YtdiaecgpjgdkdaaGreatThS33
import Derived.Test.YtdiaecgpjgdkdaaGreatThS29
import Derived.StillTailTactics
import Derived.Test.YtdiaecgpjgdkdaaGreatThS05
set_option linter.unusedSimpArgs false
set_option linter.unusedVariables false
namespace Go.Proofs.YtdiaecgpjgdkdaaGreat
open Go.RowKit Go.Shelf

abbrev ptT (p : Nat) : Value := .pointer (some ⟨p, 0, none⟩)
def ptc (ps : List Nat) : List Value := ps.map ptT
mutual
def TM (w : World) : Tr → Nat → Prop
 | .lf r bs, p => ∃ A c, p < w.heap.size ∧ w.cell? ⟨p, 0, none⟩ = some (.int .i64 r.1.1) ∧ w.cell? ⟨p, 1, none⟩ = some (.int .i64 r.1.2) ∧ w.cell? ⟨p, 2, none⟩ = some (.int .i64 r.2.1) ∧ w.cell? ⟨p, 3, none⟩ = some (.int .i64 r.2.2) ∧ w.cell? ⟨p, 4, none⟩ = some (.slice A bs.length c) ∧ w.cell? ⟨p, 5, none⟩ = some (.slice none 0 0) ∧ bs.length ≤ 1048576 ∧ Rd w 5 A bs.length (bxl bs)
 | .nd r ks, p => ∃ A c ps, p < w.heap.size ∧ w.cell? ⟨p, 0, none⟩ = some (.int .i64 r.1.1) ∧ w.cell? ⟨p, 1, none⟩ = some (.int .i64 r.1.2) ∧ w.cell? ⟨p, 2, none⟩ = some (.int .i64 r.2.1) ∧ w.cell? ⟨p, 3, none⟩ = some (.int .i64 r.2.2) ∧ w.cell? ⟨p, 4, none⟩ = some (.slice none 0 0) ∧ w.cell? ⟨p, 5, none⟩ = some (.slice A ks.length c) ∧ ks.length ≤ 1048576 ∧ Rd w 1 A ks.length (ptc ps) ∧ TMs w ks ps
def TMs (w : World) : List Tr → List Nat → Prop
 | [], ps => ps = []
 | t :: ts, ps => ∃ p ps', ps = p :: ps' ∧ TM w t p ∧ TMs w ts ps'
end
mutual
theorem TM.ext {w w' : World} (e : Ext w w') : ∀ {t : Tr} {p : Nat}, TM w t p → TM w' t p
 | .lf r bs, p, h => by
  rw [TM] at h ⊢
  obtain ⟨A, c, h0, h1, h2, h3, h4, h5, h6, h7, h8⟩ := h
  exact ⟨A, c, Nat.lt_of_lt_of_le h0 e.size, e.cell' h1, e.cell' h2, e.cell' h3, e.cell' h4, e.cell' h5, e.cell' h6, h7, h8.ext e⟩
 | .nd r ks, p, h => by
  rw [TM] at h ⊢
  obtain ⟨A, c, ps, h0, h1, h2, h3, h4, h5, h6, h7, h8, h9⟩ := h
  exact ⟨A, c, ps, Nat.lt_of_lt_of_le h0 e.size, e.cell' h1, e.cell' h2, e.cell' h3, e.cell' h4, e.cell' h5, e.cell' h6, h7, h8.ext e, TMs.ext e h9⟩
theorem TMs.ext {w w' : World} (e : Ext w w') : ∀ {ts : List Tr} {ps : List Nat}, TMs w ts ps → TMs w' ts ps
 | [], ps, h => by rw [TMs] at h ⊢; exact h
 | t :: ts, ps, h => by
  rw [TMs] at h ⊢
  obtain ⟨p, ps', h1, h2, h3⟩ := h
  exact ⟨p, ps', h1, TM.ext e h2, TMs.ext e h3⟩
end
theorem TMs.get {w : World} : ∀ {ts : List Tr} {ps : List Nat}, TMs w ts ps → ps.length = ts.length ∧ ∀ j (h1 : j < ts.length) (h2 : j < ps.length), TM w ts[j] ps[j]
 | [], ps, h => by rw [TMs] at h; subst h; exact ⟨rfl, fun j h1 => by simp at h1⟩
 | t :: ts, ps, h => by
  rw [TMs] at h
  obtain ⟨p, ps', rfl, h2, h3⟩ := h
  have := TMs.get h3
  refine ⟨by simp [this.1], fun j h1 h2' => ?_⟩
  cases j with
  | zero => exact h2
  | succ j => exact this.2 j (by simpa using h1) (by simpa using h2')
theorem TMs.of {w : World} : ∀ {ts : List Tr} {ps : List Nat}, ps.length = ts.length → (∀ j (h1 : j < ts.length) (h2 : j < ps.length), TM w ts[j] ps[j]) → TMs w ts ps
 | [], ps, hl, _ => by rw [TMs]; exact List.eq_nil_of_length_eq_zero (by simpa using hl)
 | t :: ts, [], hl, _ => by simp at hl
 | t :: ts, p :: ps, hl, h => by
  rw [TMs]
  refine ⟨p, ps, rfl, h 0 (by simp) (by simp), TMs.of (by simpa using hl) fun j h1 h2 => ?_⟩
  exact h (j + 1) (by simpa using h1) (by simpa using h2)
theorem TM.rect {w : World} {t : Tr} {p : Nat} (h : TM w t p) : p < w.heap.size ∧ w.cell? ⟨p, 0, none⟩ = some (.int .i64 t.r.1.1) ∧ w.cell? ⟨p, 1, none⟩ = some (.int .i64 t.r.1.2) ∧ w.cell? ⟨p, 2, none⟩ = some (.int .i64 t.r.2.1) ∧ w.cell? ⟨p, 3, none⟩ = some (.int .i64 t.r.2.2) := by
 cases t with
 | lf r bs => rw [TM] at h; obtain ⟨A, c, h0, h1, h2, h3, h4, _⟩ := h; exact ⟨h0, h1, h2, h3, h4⟩
 | nd r ks => rw [TM] at h; obtain ⟨A, c, ps, h0, h1, h2, h3, h4, _⟩ := h; exact ⟨h0, h1, h2, h3, h4⟩
theorem ptc_length (ps : List Nat) : (ptc ps).length = ps.length := by simp [ptc]
theorem Rd.ptr {w : World} {A : Option Addr} {ps : List Nat} {n : Nat} (h : Rd w 1 A n (ptc ps)) {k : Nat} (hk : k < ps.length) : ∃ b o, A = some ⟨b, o, none⟩ ∧ b < w.heap.size ∧ w.cell? ⟨b, o + k, none⟩ = some (ptT ps[k]) := by
 have hl := h.1
 rw [ptc_length] at hl
 obtain ⟨b, o, hA, hb, hc⟩ := h.2 (by omega)
 exact ⟨b, o, hA, hb, hc k _ (by simp [ptc, hk])⟩
theorem Rd.part {w : World} {sz n b o : Nat} {xs : List Value} (h : Rd w sz (some ⟨b, o, none⟩) n xs) (i m : Nat) (hi : i + m ≤ n) : Rd w sz (some ⟨b, o + i * sz, none⟩) m ((xs.drop (i * sz)).take (m * sz)) := by
 have hl := h.1
 have h1 : (i + m) * sz ≤ n * sz := Nat.mul_le_mul_right _ hi
 rw [Nat.add_mul] at h1
 refine ⟨by simp; omega, fun hn => ?_⟩
 obtain ⟨b', o', hA, hb, hc⟩ := h.2 (by omega)
 simp only [Option.some.injEq, Addr.mk.injEq, and_true] at hA
 obtain ⟨rfl, rfl⟩ := hA
 refine ⟨b, o + i * sz, rfl, hb, fun j u hu => ?_⟩
 rw [List.getElem?_take] at hu
 split at hu
 ·
  rw [List.getElem?_drop] at hu
  have := hc (i * sz + j) u hu
  rwa [← Nat.add_assoc] at this
 ·
  cases hu
theorem fm_drop {α : Type} {enc : α → List Value} {k : Nat} (h : ∀ a, (enc a).length = k) : ∀ (l : List α) (i : Nat), (l.flatMap enc).drop (i * k) = (l.drop i).flatMap enc
 | l, 0 => by simp
 | [], i + 1 => by simp
 | a :: l, i + 1 => by
  rw [List.flatMap_cons, List.drop_append, h, Nat.add_mul, Nat.one_mul, List.drop_eq_nil_of_le (by rw [h]; omega), List.nil_append, Nat.add_sub_cancel, fm_drop h l i]
  rfl
theorem fm_take {α : Type} {enc : α → List Value} {k : Nat} (h : ∀ a, (enc a).length = k) : ∀ (l : List α) (i : Nat), (l.flatMap enc).take (i * k) = (l.take i).flatMap enc
 | l, 0 => by simp
 | [], i + 1 => by simp
 | a :: l, i + 1 => by
  rw [List.flatMap_cons, List.take_append, h, Nat.add_mul, Nat.one_mul, List.take_of_length_le (by rw [h]; omega), Nat.add_sub_cancel, fm_take h l i]
  rfl
theorem take_self {α : Type} (l : List α) (wd : Nat) : l.take (l.take wd).length = l.take wd := by rw [List.take_eq_take_iff, List.length_take]; omega
theorem Rd.boxes {w : World} {n b o : Nat} {l : List Bxs} (h : Rd w 5 (some ⟨b, o, none⟩) n (bxl l)) (hn : n = l.length) (i wd : Nat) (hi : i ≤ n) : Rd w 5 (some ⟨b, o + i * 5, none⟩) ((l.drop i).take wd).length (bxl ((l.drop i).take wd)) := by
 have := h.part i ((l.drop i).take wd).length (by simp; omega)
 unfold bxl at this ⊢
 rw [fm_drop (enc := encX) (k := 5) (fun _ => rfl), fm_take (enc := encX) (k := 5) (fun _ => rfl)] at this
 rwa [take_self] at this
theorem Rd.ptrs {w : World} {n b o : Nat} {ps : List Nat} (h : Rd w 1 (some ⟨b, o, none⟩) n (ptc ps)) (hn : n = ps.length) (i wd : Nat) (hi : i ≤ n) : Rd w 1 (some ⟨b, o + i, none⟩) ((ps.drop i).take wd).length (ptc ((ps.drop i).take wd)) := by
 have := h.part i ((ps.drop i).take wd).length (by simp; omega)
 unfold ptc at this ⊢
 rw [Nat.mul_one, Nat.mul_one, ← List.map_drop, ← List.map_take] at this
 rwa [take_self] at this
theorem chunk_len {α : Type} (l : List α) (i wd : Nat) : ((l.drop i).take wd).length = min wd (l.length - i) := by simp
theorem elNode : El Tryz.prog 143 137 (.pointer none) 1 8 := ⟨Tryz.underlying143, info_parts (by kernel_rfl), rfl, by decide⟩
theorem chunkBox_stops (m bs bn h B b o wd n c : Nat) (hwd : 1 ≤ wd) (hw2 : wd ≤ 64) (hn : n ≤ 1048576) (hc : n ≤ c) (hbs : bs < h) (hbn : bn < h) (nbs : bs ≠ B) (nbn : bn ≠ B) (w0 : World)
  (h1 : w0.cell? ⟨bs, 0, none⟩ = some (.slice (some ⟨b, o, none⟩) n c)) (h2 : w0.cell? ⟨bn, 0, none⟩ = some (.int .i64 wd)) :
  SeqStopsK Fence.wide (m + 1) Tryz.prog 53 #[.pointer (some ⟨bs, 0, none⟩), .pointer (some ⟨bn, 0, none⟩)] (encBox b o wd n) (But h B) (fun xs => xs.map Subtype.val = (List.range (nch wd n)).map (· * wd)) (fun _ => True) (nch wd n) w0 :=
 fun l J Jx W hW hJ _ hY h0 => chunkBox_in m l bs bn h B b o wd n c hwd hw2 hn hc hbs hbn nbs nbn J Jx (fun pre A A' hj hg => hJ pre A A' none hj hg (fun r e => by cases e)) hY W (Ext.cell' hW h1) (Ext.cell' hW h2) h0

theorem chunkNod_stops (m bs bn h B b o wd n c : Nat) (hwd : 1 ≤ wd) (hw2 : wd ≤ 64) (hn : n ≤ 1048576) (hc : n ≤ c) (hbs : bs < h) (hbn : bn < h) (nbs : bs ≠ B) (nbn : bn ≠ B) (w0 : World)
  (h1 : w0.cell? ⟨bs, 0, none⟩ = some (.slice (some ⟨b, o, none⟩) n c)) (h2 : w0.cell? ⟨bn, 0, none⟩ = some (.int .i64 wd)) :
  SeqStopsK Fence.wide (m + 1) Tryz.prog 137 #[.pointer (some ⟨bs, 0, none⟩), .pointer (some ⟨bn, 0, none⟩)] (encNod b o wd n) (But h B) (fun xs => xs.map Subtype.val = (List.range (nch wd n)).map (· * wd)) (fun _ => True) (nch wd n) w0 :=
 fun l J Jx W hW hJ _ hY h0 => chunkNod_in m l bs bn h B b o wd n c hwd hw2 hn hc hbs hbn nbs nbn J Jx (fun pre A A' hj hg => hJ pre A A' none hj hg (fun r e => by cases e)) hY W (Ext.cell' hW h1) (Ext.cell' hW h2) h0

end Go.Proofs.YtdiaecgpjgdkdaaGreat

namespace Go.Proofs.YtdiaecgpjgdkdaaGreat
open Go.RowKit Go.Shelf

attribute [local go_sem] Oper.semAt_some

theorem TMs.part {w : World} {T : List Tr} {ps : List Nat} (h : TMs w T ps) (i m : Nat) : TMs w ((T.drop i).take m) ((ps.drop i).take m) := by
 obtain ⟨hl, hg⟩ := TMs.get h
 refine TMs.of (by simp [hl]) fun j h1 h2 => ?_
 simp only [List.getElem_take, List.getElem_drop]
 exact hg (i + j) _ _
abbrev nodeObj (r : Rct) (u v : Value) : Obj := .cells #[.int .i64 r.1.1, .int .i64 r.1.2, .int .i64 r.2.1, .int .i64 r.2.2, u, v] 187
theorem node_cells {w : World} {p : Nat} {r : Rct} {u v : Value} (h : w.heap[p]? = some (nodeObj r u v)) : p < w.heap.size ∧ w.cell? ⟨p, 0, none⟩ = some (.int .i64 r.1.1) ∧ w.cell? ⟨p, 1, none⟩ = some (.int .i64 r.1.2) ∧ w.cell? ⟨p, 2, none⟩ = some (.int .i64 r.2.1) ∧ w.cell? ⟨p, 3, none⟩ = some (.int .i64 r.2.2) ∧ w.cell? ⟨p, 4, none⟩ = some u ∧ w.cell? ⟨p, 5, none⟩ = some v := by
 refine ⟨(Array.getElem?_eq_some_iff.1 h).1, ?_, ?_, ?_, ?_, ?_, ?_⟩ <;> simp [World.cell?, h]
theorem tm_lf {w : World} {p : Nat} {C : List Bxs} {A : Option Addr} {c : Nat} (hp : w.heap[p]? = some (nodeObj (mkL C).r (.slice A C.length c) (.slice none 0 0))) (hne : C ≠ []) (hl : C.length ≤ 1048576) (hR : Rd w 5 A C.length (bxl C)) : TM w (mkL C) p := by
 cases C with
 | nil => exact absurd rfl hne
 | cons b l =>
  obtain ⟨h0, h1, h2, h3, h4, h5, h6⟩ := node_cells hp
  rw [mkL] at h1 h2 h3 h4 ⊢
  rw [TM]
  exact ⟨A, c, h0, h1, h2, h3, h4, h5, h6, hl, hR⟩
theorem tm_nd {w : World} {p : Nat} {C : List Tr} {ps : List Nat} {A : Option Addr} {c : Nat} (hp : w.heap[p]? = some (nodeObj (mkN C).r (.slice none 0 0) (.slice A C.length c))) (hne : C ≠ []) (hl : C.length ≤ 1048576) (hR : Rd w 1 A C.length (ptc ps)) (hT : TMs w C ps) : TM w (mkN C) p := by
 cases C with
 | nil => exact absurd rfl hne
 | cons b l =>
  obtain ⟨h0, h1, h2, h3, h4, h5, h6⟩ := node_cells hp
  rw [mkN] at h1 h2 h3 h4 ⊢
  rw [TM]
  exact ⟨A, c, ps, h0, h1, h2, h3, h4, h5, h6, hl, hR, hT⟩
def rL (c0 : Rct) (C : List Bxs) (k : Nat) : Rct := (C.take k).foldl (fun r x => jn r x.1) c0
theorem rL_succ (c0 : Rct) (C : List Bxs) {k : Nat} (h : k < C.length) : rL c0 C (k + 1) = jn (rL c0 C k) C[k].1 := by
 unfold rL; rw [List.take_succ_eq_append_getElem h, List.foldl_append]; rfl
theorem rL_end {C : List Bxs} (h : 0 < C.length) {k : Nat} (hk : k = C.length) : rL C[0].1 C k = (mkL C).r := by
 subst hk
 cases C with
 | nil => simp at h
 | cons b l => unfold rL; rw [List.take_length]; rfl
def rN (c0 : Rct) (C : List Tr) (k : Nat) : Rct := (C.take k).foldl (fun r x => jn r x.r) c0
theorem rN_succ (c0 : Rct) (C : List Tr) {k : Nat} (h : k < C.length) : rN c0 C (k + 1) = jn (rN c0 C k) C[k].r := by
 unfold rN; rw [List.take_succ_eq_append_getElem h, List.foldl_append]; rfl
theorem rN_end {C : List Tr} (h : 0 < C.length) {k : Nat} (hk : k = C.length) : rN C[0].r C k = (mkN C).r := by
 subst hk
 cases C with
 | nil => simp at h
 | cons b l => unfold rN; rw [List.take_length]; rfl
def LevP (T : List Tr) (Base : World → Prop) (w : World) (e : Ending) (w' : World) : Prop := ∃ A c ps, e = .returned (.slice A T.length c) ∧ Ext w w' ∧ T.length ≤ c ∧
 ∀ X : World, w'.heap.size ≤ X.heap.size → (∀ k, w.heap.size ≤ k → k < w'.heap.size → X.heap[k]? = w'.heap[k]?) → Base X → Rd X 1 A T.length (ptc ps) ∧ TMs X T ps
theorem Rd.agree {w X : World} {sz n : Nat} {A : Option Addr} {xs : List Value} (h : Rd w sz A n xs) (hk : ∀ b o, A = some ⟨b, o, none⟩ → b < w.heap.size → b < X.heap.size ∧ X.heap[b]? = w.heap[b]?) : Rd X sz A n xs := by
 refine ⟨h.1, fun hn => ?_⟩
 obtain ⟨b, o, hA, hb, hc⟩ := h.2 hn
 obtain ⟨h1, h2⟩ := hk b o hA hb
 exact ⟨b, o, hA, h1, fun j u hu => (World.cell?_of_block h2).trans (hc j u hu)⟩
def Made (W : World) (lo : Nat) (u v : Nat → Value) (rr : Nat → Rct) : List Nat → List Nat → Prop
 | [], [] => True
 | p :: ps, i :: is => (lo ≤ p ∧ W.heap[p]? = some (nodeObj (rr i) (u i) (v i))) ∧ Made W lo u v rr ps is
 | _, _ => False
theorem Made.len {W : World} {lo : Nat} {u v : Nat → Value} {rr : Nat → Rct} : ∀ {ps is : List Nat}, Made W lo u v rr ps is → ps.length = is.length
 | [], [], _ => rfl
 | p :: ps, i :: is, h => by simp [Made.len h.2]
 | [], _ :: _, h => h.elim
 | _ :: _, [], h => h.elim
theorem Made.get {W : World} {lo : Nat} {u v : Nat → Value} {rr : Nat → Rct} : ∀ {ps is : List Nat}, Made W lo u v rr ps is → ∀ j (h1 : j < ps.length) (h2 : j < is.length), lo ≤ ps[j] ∧ W.heap[ps[j]]? = some (nodeObj (rr is[j]) (u is[j]) (v is[j]))
 | [], [], _, j, h1, _ => by simp at h1
 | p :: ps, i :: is, h, 0, _, _ => h.1
 | p :: ps, i :: is, h, j + 1, h1, h2 => Made.get h.2 j (by simpa using h1) (by simpa using h2)
 | [], _ :: _, h, _, _, _ => h.elim
 | _ :: _, [], h, _, _, _ => h.elim
theorem Made.mono {W W' : World} {lo : Nat} {u v : Nat → Value} {rr : Nat → Rct} (hk : ∀ (p : Nat) (c : Array Value) (f : Nat × Nat), W.heap[p]? = some (.cells c 187 f) → W'.heap[p]? = some (.cells c 187 f)) : ∀ {ps is : List Nat}, Made W lo u v rr ps is → Made W' lo u v rr ps is
 | [], [], _ => trivial
 | p :: ps, i :: is, h => ⟨⟨h.1.1, hk _ _ _ h.1.2⟩, Made.mono hk h.2⟩
 | [], _ :: _, h => h.elim
 | _ :: _, [], h => h.elim
theorem Made.snoc {W : World} {lo : Nat} {u v : Nat → Value} {rr : Nat → Rct} {p i : Nat} (hlo : lo ≤ p) (hp : W.heap[p]? = some (nodeObj (rr i) (u i) (v i))) : ∀ {ps is : List Nat}, Made W lo u v rr ps is → Made W lo u v rr (ps ++ [p]) (is ++ [i])
 | [], [], _ => ⟨⟨hlo, hp⟩, trivial⟩
 | q :: ps, j :: is, h => ⟨h.1, Made.snoc hlo hp h.2⟩
 | [], _ :: _, h => h.elim
 | _ :: _, [], h => h.elim

theorem row_form {W : World} {base e size n : Nat} {v : Value} {xs : List Value} (h : W.ownsRow base e size v n xs) : ∃ A c, v = .slice A n c ∧ n ≤ c := by
 rcases h.2 with ⟨rfl, rfl⟩ | ⟨g, cap, cur, rfl, hb, hg, hnc, _⟩
 ·
  exact ⟨none, 0, rfl, Nat.le_refl _⟩
 ·
  exact ⟨_, _, rfl, hnc⟩

set_option maxRecDepth 100000 in
set_option maxHeartbeats 8000000 in
theorem leaves_any (b o n c wd : Nat) (hwd : 1 ≤ wd) (hw2 : wd ≤ 64) (hn0 : 1 ≤ n) (hn : n ≤ 1048576) (hc : n ≤ c) (w : World) (L : List Bxs) (hR : Rd w 5 (some ⟨b, o, none⟩) n (bxl L)) (hL : n = L.length) :
  Calls Tryz.prog 58 #[.slice (some ⟨b, o, none⟩) n c, .int .i64 wd] w (LevP (leavesF wd L) (fun X => Rd X 5 (some ⟨b, o, none⟩) n (bxl L)) w) := by
 have hbw : b < w.heap.size := by
  obtain ⟨b', o', hA, hb, _⟩ := hR.2 (by omega)
  simp only [Option.some.injEq, Addr.mk.injEq, and_true] at hA
  obtain ⟨rfl, rfl⟩ := hA
  exact hb
 have HL := Lib.hid hL
 clear hL
 obtain ⟨i0, hi, hz0, hz1, hz2⟩ := (elNode : El Tryz.prog 143 137 (.pointer none) 1 8).hi
 refine (callsIn_wide (n := 9)).1 ?_
 refine callsIn_of_wp_marks Tryz.func58 rfl trivial ?_ rfl
 simp only [Tryz.ntmps58, List.size_toArray, List.length_cons, List.length_nil, Nat.reduceAdd, Nat.reduceSub, Array.replicate_succ, Array.replicate_zero, List.push_toArray, List.append_toArray, List.nil_append, List.cons_append]
 gi_wp2_with (refine ⟨trivial, ?_⟩; gi_at_call 28; refine (callsIn_to (chunkBox_any (some ⟨b, o, none⟩) n c wd hwd _)).mono ?_; rintro e w' ⟨rfl, rfl⟩)
 have bO := Boxed.new w 143 (.slice none 0 0)
 obtain ⟨W0, hW0⟩ : ∃ W0, ((w.alloc (.cells #[.slice none 0 0] 143)).alloc (.cells #[.slice (some ⟨b, o, none⟩) n c] 79)).alloc (.cells #[.int .i64 wd] 3) = W0 := ⟨_, rfl⟩
 have hsz : W0.heap.size = w.heap.size + 3 := by rw [← hW0]; simp
 have hE0 : Ext w W0 := by rw [← hW0]; exact (ex_)
 have bB : Boxed W0 w.heap.size 143 (.slice none 0 0) := by rw [← hW0]; exact (bO.alloc _).alloc _
 have c1 : W0.cell? ⟨w.heap.size + 1, 0, none⟩ = some (.slice (some ⟨b, o, none⟩) n c) := by rw [← hW0]; simp [go_sem, ↓IntWalk.iteOmega]
 have c2 : W0.cell? ⟨w.heap.size + 1 + 1, 0, none⟩ = some (.int .i64 wd) := by rw [← hW0]; simp [go_sem, ↓IntWalk.iteOmega]
 clear bO
 try rw [hW0]
 try simp only [World.size_alloc]
 clear hW0
 refine wpIn_rangeFunc_ownG (encs := encBox b o wd n) (F := Fence.wide) (n := 9) (ps := #[13]) (w := W0) (Kp := But W0.heap.size w.heap.size) rfl (by decide) (gf := 53) (lb := #[.pointer (some ⟨w.heap.size + 1, 0, none⟩), .pointer (some ⟨w.heap.size + 1 + 1, 0, none⟩)]) rfl trivial (enters_of Tryz.func53 (by kernel_rfl) rfl)
  (chunkBox_stops 7 (w.heap.size + 1) (w.heap.size + 1 + 1) W0.heap.size w.heap.size b o wd n c hwd hw2 hn hc (by omega) (by omega) (by omega) (by omega) W0 c1 c2) But.trans (But.kb (Nat.le_refl _)) (Below.refl _ _) (fun _ => rfl)
  (fun (pre : List (Ix n)) W => ∃ v ps, Boxed W w.heap.size 143 v ∧ W.ownsRow W0.heap.size 137 1 v ps.length (ptc ps) ∧ Made W w.heap.size (fun i => .slice (some ⟨b, o + i * 5, none⟩) (min wd (n - i)) (min wd (n - i))) (fun _ => .slice none 0 0) (fun i => (mkL ((L.drop i).take wd)).r) ps (pre.map Subtype.val) ∧ But W0.heap.size w.heap.size W0 W)
  (fun _ _ _ => False)
  (fun pre W W' row ⟨v, ps, h1, h2, h3, h4⟩ hg hr => ⟨v, ps, boxed_kept hg (fun r e => (hr r e).2) h1, row_kept hg (fun r e => (hr r e).2) h2, h3.mono fun p c f hp => nodes_kept hg (fun r e => (hr r e).2) hp, But.own (β := Unit) (Nat.le_refl _) () W W' row h4 hg hr⟩)
  (fun _ _ _ _ _ hs _ _ => hs)
  ⟨_, [], bB, World.ownsRow_nil _ _ _ _, trivial, But.refl _ _ _⟩
  (fun x => { tmps := #[.slice (some ⟨b, o, none⟩) n c, .int .i64 wd, undef, undef, .slice none 0 0, .pointer (some ⟨w.heap.size, 0, none⟩), .slice (some ⟨b, o + x.1 * 5, none⟩) (min wd (n - x.1)) (min wd (n - x.1)), undef, undef, undef, .slice (some ⟨b, o, none⟩) n c, .int .i64 wd, .func (.func 53) #[] #[.pointer (some ⟨w.heap.size + 1, 0, none⟩), .pointer (some ⟨w.heap.size + 1 + 1, 0, none⟩)], .slice (some ⟨b, o + x.1 * 5, none⟩) (min wd (n - x.1)) (min wd (n - x.1)), undef, undef, undef, undef, undef, undef, undef, undef, undef, undef, undef, undef, undef, undef, undef, undef, undef, undef, undef, undef, undef, undef, undef, undef, undef, undef, undef, undef, undef], defers := [] }) ?assign ?body ?done ?stop
 case assign =>
  intro l x W K hK
  gi_wp2
  exact hK
 case body =>
  rintro l pre ⟨i, hi'⟩ W ⟨v, ps, hv, hrow, hmade, hbut⟩ hlt
  have hWsz := hbut.size
  have hEw : Ext w W := hE0.trans (hbut.below (by omega) (Nat.le_refl _))
  have hpl : ps.length ≤ 1048576 := by
   have h1 := hmade.len
   rw [List.length_map] at h1
   have h2 := (lt_nch (n := n) hwd).1 hlt
   have h3 : pre.length * 1 ≤ pre.length * wd := Nat.mul_le_mul_left _ hwd
   omega
  have hC := (hR.ext hEw).boxes HL.out i wd (by omega)
  have hCl := chunk_len L i wd
  have hm : min wd (n - i) = ((L.drop i).take wd).length := by rw [hCl, ← HL.out]
  have hC0 : 0 < ((L.drop i).take wd).length := by omega
  have HM := Lib.hid hm
  have HCC : Hid ((L.drop i).take wd = (L.drop i).take wd) := Lib.hid rfl
  generalize hCC : (L.drop i).take wd = C at hC hCl hm hC0 HM HCC ⊢
  clear HCC
  have HCC := Lib.hid hCC
  generalize ho2 : o + i * 5 = o2 at hC ⊢
  have HO2 := Lib.hid ho2
  clear hCC ho2
  have hCs : C.length ≤ 64 := by omega
  obtain ⟨b', o', he, hbW, d0, d1, d2, d3, _⟩ := hC.box rfl hC0
  simp only [Option.some.injEq, Addr.mk.injEq, and_true] at he
  obtain ⟨rfl, rfl⟩ := he
  simp only [Nat.zero_mul, Nat.add_zero] at d0 d1 d2 d3
  simp only [hm]
  clear hm hCl
  have HC0 : Hid (C[0].1 = C[0].1) := Lib.hid rfl
  generalize hcc : C[0].1 = c0 at d0 d1 d2 d3 HC0
  clear HC0
  have HC0 := Lib.hid hcc
  clear hcc
  gi_wp2
  gi_loopw [23] (fun q wr => ∃ k : Nat, k ≤ C.length ∧ q = .int .i64 k ∧ Ext (W.alloc (.cells #[.int .i64 (rL c0 C k).1.1, .int .i64 (rL c0 C k).1.2, .int .i64 (rL c0 C k).2.1, .int .i64 (rL c0 C k).2.2, .slice (some ⟨b, o2, none⟩) C.length C.length, .slice none 0 0] 187)) wr) (fun q _ => C.length - (intOf q).toNat)
  case atStart => exact ⟨0, Nat.zero_le _, rfl, Ext.refl' _⟩
  case round =>
   obtain ⟨k, hk, rfl, hE⟩ := hrel
   obtain ⟨x1, rfl⟩ := hE.get
   clear hE
   by_cases hlt2 : k < C.length
   ·
    obtain ⟨b', o', he, _, e0, e1, e2, e3, e4⟩ := hC.box rfl hlt2
    simp only [Option.some.injEq, Addr.mk.injEq, and_true] at he
    obtain ⟨rfl, rfl⟩ := he
    have HJ := Lib.hid (rL_succ c0 C hlt2)
    generalize C[k] = ck at e0 e1 e2 e3 e4 HJ
    generalize rL c0 C k = rk at HJ ⊢
    have HJN := Lib.hid (fun w => join_anyT rk ck.1 w)
    gi_wp2
    refine wpIn_region_round_held (S := fun _ => True) (by kernel_rfl) (by kernel_rfl) (by rintro ⟨a, w, h⟩; exact h) trivial (fun hHeld => ?_)
    refine tkH 0 ?oi1 (?v1) ?hi1 ?hy1 ?_
    case hi1 => (simp only [gA, gS, gZ]; rfl)
    case hy1 => (refine Or.inl ⟨by rfl, ?_⟩; intro wq hSw; (try dsimp only at hSw); go_simp; (try with_reducible rfl))
    (try simp only [Act.put, pA, pZ, pS])
    refine tkH 1 ?oi2 (?v2) ?hi2 ?hy2 ?_
    case hi2 => (simp only [gA, gS, gZ]; rfl)
    case hy2 => (refine Or.inl ⟨by rfl, ?_⟩; intro wq hSw; (try dsimp only at hSw); go_simp; (try with_reducible rfl))
    (try simp only [Act.put, pA, pZ, pS])
    refine tkH 2 ?oi3 (?v3) ?hi3 ?hy3 ?_
    case hi3 => (simp only [gA, gS, gZ]; rfl)
    case hy3 => (refine Or.inl ⟨by rfl, ?_⟩; intro wq hSw; (try dsimp only at hSw); go_simp; (try with_reducible rfl))
    (try simp only [Act.put, pA, pZ, pS])
    refine tkH 3 ?oi4 (?v4) ?hi4 ?hy4 ?_
    case hi4 => (simp only [gA, gS, gZ]; rfl)
    case hy4 => (refine Or.inl ⟨by rfl, ?_⟩; intro wq hSw; (try dsimp only at hSw); go_simp; (try with_reducible rfl))
    (try simp only [Act.put, pA, pZ, pS])
    refine tkH 5 ?oi5 (?v5) ?hi5 ?hy5 ?_
    case hi5 => (simp only [gA, gS, gZ]; rfl)
    case hy5 => (refine Or.inl ⟨by rfl, ?_⟩; intro wq hSw; (try dsimp only at hSw); go_simp; (try with_reducible rfl))
    (try simp only [Act.put, pA, pZ, pS])
    refine wpAnyH_ready (rs := [4, 6]) (by kernel_rfl) (by simp) ?_
    refine AllReadyH.cons (o := ?oi6) ?hi6 ?ti6 ?ri6
    case hi6 => (simp only [gA, gS, gZ]; rfl)
    case ti6 =>
     intro KQ hKQ
     go_simp
     (try simp [go_sem, ↓IntWalk.iteOmega, *])
     refine hKQ.out _ _ (by trivial) (fun hHeld2 => ?_)
     clear hHeld hKQ KQ; have hHeld := hHeld2; clear hHeld2
     (try simp only [Act.put, pA, pZ, pS])
     refine wpAnyH_ready (rs := [6]) (by kernel_rfl) (by simp) ?_
     refine AllReadyH.cons (o := ?oi7) ?hi7 ?ti7 AllReadyH.nil
     case hi7 => (simp only [gA, gS, gZ]; rfl)
     case ti7 =>
      intro KQ hKQ
      go_simp
      (try simp [go_sem, ↓IntWalk.iteOmega, *])
      refine hKQ.out _ _ (by trivial) (fun hHeld2 => ?_)
      clear hHeld hKQ KQ; have hHeld := hHeld2; clear hHeld2
      (try simp only [Act.put, pA, pZ, pS])
      refine wpAnyH_ready (rs := [7]) (by kernel_rfl) (by simp) ?_
      refine AllReadyH.cons (o := ?oi8) ?hi8 ?ti8 AllReadyH.nil
      case hi8 => (simp only [gA, gS, gZ]; rfl)
      case ti8 =>
       intro KQ hKQ
       go_simp
       (go_at_call 97; (refine (HJN.out _).mono ?_); rintro e w1 ⟨rfl, hb1⟩; obtain ⟨x2, rfl⟩ := hb1.get; clear hb1)
       refine hKQ.out _ _ (by trivial) (fun hHeld2 => ?_)
       clear hHeld hKQ KQ; have hHeld := hHeld2; clear hHeld2
       (try simp only [Act.put, pA, pZ, pS])
       refine tkH 8 ?oi9 (?v9) ?hi9 ?hy9 ?_
       case hi9 => (simp only [gA, gS, gZ]; rfl)
       case hy9 => (refine Or.inl ⟨by rfl, ?_⟩; intro wq hSw; (try dsimp only at hSw); go_simp; (try with_reducible rfl))
       (try simp only [Act.put, pA, pZ, pS])
       refine tkH 9 ?oi10 (?v10) ?hi10 ?hy10 ?_
       case hi10 => (simp only [gA, gS, gZ]; rfl)
       case hy10 => (refine Or.inl ⟨by rfl, ?_⟩; intro wq hSw; (try dsimp only at hSw); go_simp; (try with_reducible rfl))
       (try simp only [Act.put, pA, pZ, pS])
       refine wpAnyH_ready (rs := [10]) (by kernel_rfl) (by simp) ?_
       refine AllReadyH.cons (o := ?oi11) ?hi11 ?ti11 AllReadyH.nil
       case hi11 => (simp only [gA, gS, gZ]; rfl)
       case ti11 =>
        intro KQ hKQ
        go_simp
        (try simp [go_sem, ↓IntWalk.iteOmega, *])
        refine hKQ.out _ _ (by trivial) (fun hHeld2 => ?_)
        clear hHeld hKQ KQ; have hHeld := hHeld2; clear hHeld2
        (try simp only [Act.put, pA, pZ, pS])
        refine wpAnyH_done (by kernel_rfl) ?_ _
        gi_wp2
        go_roundw
        case rel => exact ⟨k + 1, by omega, by go_num, by rw [HJ.out]; exact (ex_)⟩
        case measure => simp [intOf]; omega
    case ri6 =>
     refine AllReadyH.cons (o := ?oi12) ?hi12 ?ti12 AllReadyH.nil
     case hi12 => (simp only [gA, gS, gZ]; rfl)
     case ti12 =>
      intro KQ hKQ
      go_simp
      (try simp [go_sem, ↓IntWalk.iteOmega, *])
      refine hKQ.out _ _ (by trivial) (fun hHeld2 => ?_)
      clear hHeld hKQ KQ; have hHeld := hHeld2; clear hHeld2
      (try simp only [Act.put, pA, pZ, pS])
      refine wpAnyH_ready (rs := [4]) (by kernel_rfl) (by simp) ?_
      refine AllReadyH.cons (o := ?oi13) ?hi13 ?ti13 AllReadyH.nil
      case hi13 => (simp only [gA, gS, gZ]; rfl)
      case ti13 =>
       intro KQ hKQ
       go_simp
       (try simp [go_sem, ↓IntWalk.iteOmega, *])
       refine hKQ.out _ _ (by trivial) (fun hHeld2 => ?_)
       clear hHeld hKQ KQ; have hHeld := hHeld2; clear hHeld2
       (try simp only [Act.put, pA, pZ, pS])
       refine wpAnyH_ready (rs := [7]) (by kernel_rfl) (by simp) ?_
       refine AllReadyH.cons (o := ?oi14) ?hi14 ?ti14 AllReadyH.nil
       case hi14 => (simp only [gA, gS, gZ]; rfl)
       case ti14 =>
        intro KQ hKQ
        go_simp
        (go_at_call 97; (refine (HJN.out _).mono ?_); rintro e w1 ⟨rfl, hb1⟩; obtain ⟨x2, rfl⟩ := hb1.get; clear hb1)
        refine hKQ.out _ _ (by trivial) (fun hHeld2 => ?_)
        clear hHeld hKQ KQ; have hHeld := hHeld2; clear hHeld2
        (try simp only [Act.put, pA, pZ, pS])
        refine tkH 8 ?oi15 (?v15) ?hi15 ?hy15 ?_
        case hi15 => (simp only [gA, gS, gZ]; rfl)
        case hy15 => (refine Or.inl ⟨by rfl, ?_⟩; intro wq hSw; (try dsimp only at hSw); go_simp; (try with_reducible rfl))
        (try simp only [Act.put, pA, pZ, pS])
        refine tkH 9 ?oi16 (?v16) ?hi16 ?hy16 ?_
        case hi16 => (simp only [gA, gS, gZ]; rfl)
        case hy16 => (refine Or.inl ⟨by rfl, ?_⟩; intro wq hSw; (try dsimp only at hSw); go_simp; (try with_reducible rfl))
        (try simp only [Act.put, pA, pZ, pS])
        refine wpAnyH_ready (rs := [10]) (by kernel_rfl) (by simp) ?_
        refine AllReadyH.cons (o := ?oi17) ?hi17 ?ti17 AllReadyH.nil
        case hi17 => (simp only [gA, gS, gZ]; rfl)
        case ti17 =>
         intro KQ hKQ
         go_simp
         (try simp [go_sem, ↓IntWalk.iteOmega, *])
         refine hKQ.out _ _ (by trivial) (fun hHeld2 => ?_)
         clear hHeld hKQ KQ; have hHeld := hHeld2; clear hHeld2
         (try simp only [Act.put, pA, pZ, pS])
         refine wpAnyH_done (by kernel_rfl) ?_ _
         gi_wp2
         go_roundw
         case rel => exact ⟨k + 1, by omega, by go_num, by rw [HJ.out]; exact (ex_)⟩
         case measure => simp [intOf]; omega
   ·
    have HE := Lib.hid (rL_end hC0 (show k = C.length by omega))
    rw [HC0.out] at HE
    generalize rL c0 C k = rk at HE ⊢
    have hE2 : Ext W (ext (W.alloc (.cells #[.int .i64 rk.1.1, .int .i64 rk.1.2, .int .i64 rk.2.1, .int .i64 rk.2.2, .slice (some ⟨b, o2, none⟩) C.length C.length, .slice none 0 0] 187)) x1) := (ex_)
    have hn2 : (ext (W.alloc (.cells #[.int .i64 rk.1.1, .int .i64 rk.1.2, .int .i64 rk.2.1, .int .i64 rk.2.2, .slice (some ⟨b, o2, none⟩) C.length C.length, .slice none 0 0] 187)) x1).heap[W.heap.size]? = some (.cells #[.int .i64 rk.1.1, .int .i64 rk.1.2, .int .i64 rk.2.1, .int .i64 rk.2.2, .slice (some ⟨b, o2, none⟩) C.length C.length, .slice none 0 0] 187) := by rw [block_ext _ _ _ (by simp)]; exact World.alloc_heap_new W _
    generalize ext (W.alloc (.cells #[.int .i64 rk.1.1, .int .i64 rk.1.2, .int .i64 rk.2.1, .int .i64 rk.2.2, .slice (some ⟨b, o2, none⟩) C.length C.length, .slice none 0 0] 187)) x1 = W2 at hE2 hn2 ⊢
    have hv2 := boxed_ext hv hE2
    have hrow2 := ownsRow_ext hrow hE2
    have hmade2 := hmade.mono (W' := W2) (fun p c f hp => (hE2.block p (Array.getElem?_eq_some_iff.1 hp).1).trans hp)
    have hc2 := hv2.cell
    have hf2 := hv2.frozen
    have hs2 := hE2.size
    gi_wp2_with (gi_at_builtin; refine wpListIn_append_own _ rfl _ _ 143 rfl W0.heap.size 137 i0 (.pointer none) 1 8 Tryz.underlying143 hi hz0 hz1 hz2 rfl (by decide) _ _ _ rfl (hrow2.alloc _) ⟨W2.heap.size, 0, none⟩ 1 1 [ptT W.heap.size] rfl rfl (cell_one_new _ _ _) (by simp [Value.oneCell']) (by unfold maxLen; omega) (by omega) (by simp; omega) ?_; intro v' w1 hown' hgrow _; obtain ⟨g', cap', rfl⟩ := ownsRow_succ hown'; obtain ⟨hv1, hv3, hr3, hk3, hb3, hno3⟩ := boxed_app hv2 (by decide) hrow2 (by omega) hown' hgrow; have hc1 := hv1.cell; have hf1 := hv1.frozen)
    refine ⟨((keepsOthers_ext hE2).trans hk3).from _, (But.ofExt hE2 hWsz).trans hb3, _, ps ++ [W.heap.size], hv3, by simpa [ptc] using hr3, ?_, hbut.trans ((But.ofExt hE2 hWsz).trans hb3)⟩
    rw [List.map_append]
    refine Made.snoc (by omega) ?_ (hmade2.mono fun p c f hp => hno3 p c _ f hp (by decide) (by decide))
    have := hno3 _ _ _ _ hn2 (by decide) (by decide)
    rw [this]
    simp only [HCC.out, HM.out, HO2.out]
    rw [HE.out]
 case done =>
  rintro D xs W hD hS ⟨v, ps, hv, hrow, hmade, hbut⟩ hK
  have HS := Lib.hid hS
  clear hS
  have hWsz := hbut.size
  have hEw : Ext w W := hE0.trans (hbut.below (by omega) (Nat.le_refl _))
  obtain ⟨A, c', rfl, hcap⟩ := row_form hrow
  have hc' := hv.cell
  gi_wp2
  refine ⟨by simp, .inl ⟨_, _, rfl, run_takeDeferred hK, ?_⟩⟩
  refine ⟨_, results_tmp rfl _ _ _, ?_⟩
  have hlen : ps.length = (leavesF wd L).length := by
   rw [hmade.len, HS.out, leavesF_length]; simp [← HL.out]
  have hEf : Ext w (W.putObj D (.deferred none)) := hEw.trans ((But.kb (B := W0.heap.size) (Nat.le_refl W0.heap.size) W D _ _ (by omega) hK rfl rfl).below (by omega) (by omega))
  have hrow' := ownsRow_putObj hrow (.deferred none) hK rfl
  refine ⟨A, c', ps, by rw [← hlen]; rfl, hEf, by omega, fun X hX hag hBase => ⟨?_, ?_⟩⟩
  ·
   rw [← hlen]
   refine (Rd.of_own hrow').agree fun b o hA hb => ⟨by omega, hag b ?_ hb⟩
   have := (row_block hrow' (r := b) (by rw [hA]; rfl)).1
   omega
  refine TMs.of hlen fun j h1 h2 => ?_
  have hx : ((xs.map Subtype.val)[j]'(by rw [← hmade.len]; exact h2)) = j * wd := by simp only [HS.out, List.getElem_map, List.getElem_range]
  obtain ⟨hlo, hp⟩ := hmade.get j h2 (by rw [← hmade.len]; exact h2)
  rw [hx] at hp
  have hp2 := nodes_kept (grownBy_putObj' W D (.deferred none)) (fun r e => by cases e; exact ⟨_, hK, rfl⟩) hp
  have hp2 := (hag _ hlo (Array.getElem?_eq_some_iff.1 hp2).1).trans hp2
  have hjn : j * wd < n := (lt_nch (n := n) hwd).1 (by rw [leavesF_length] at h1; rw [HL.out]; exact h1)
  have hC := hBase.boxes HL.out (j * wd) wd (by omega)
  have hCl := chunk_len L (j * wd) wd
  have ht : (leavesF wd L)[j] = mkL ((L.drop (j * wd)).take wd) := by simp [leavesF, chunks]
  rw [ht]
  have hmn : min wd (n - j * wd) = ((L.drop (j * wd)).take wd).length := by rw [hCl, ← HL.out]
  simp only [hmn] at hp2
  have hC0 : 0 < ((L.drop (j * wd)).take wd).length := by omega
  exact tm_lf hp2 (by intro h; rw [h] at hC0; simp at hC0) (by omega) hC
 case stop =>
  rintro D c pre W _ _ h _
  exact h.elim

set_option maxRecDepth 100000 in
set_option maxHeartbeats 8000000 in
theorem above_any (b o n c wd : Nat) (hwd : 1 ≤ wd) (hw2 : wd ≤ 64) (hn0 : 1 ≤ n) (hn : n ≤ 1048576) (hc : n ≤ c) (w : World) (T0 : List Tr) (ps0 : List Nat) (hR : Rd w 1 (some ⟨b, o, none⟩) n (ptc ps0)) (hL : n = T0.length) (hT : TMs w T0 ps0) :
  Calls Tryz.prog 59 #[.slice (some ⟨b, o, none⟩) n c, .int .i64 wd] w (LevP (aboveF wd T0) (fun X => Rd X 1 (some ⟨b, o, none⟩) n (ptc ps0) ∧ TMs X T0 ps0) w) := by
 have hbw : b < w.heap.size := by
  obtain ⟨b', o', hA, hb, _⟩ := hR.2 (by omega)
  simp only [Option.some.injEq, Addr.mk.injEq, and_true] at hA
  obtain ⟨rfl, rfl⟩ := hA
  exact hb
 have HL := Lib.hid hL
 have HP : Hid (n = ps0.length) := Lib.hid (by rw [(TMs.get hT).1, hL])
 clear hL
 obtain ⟨i0, hi, hz0, hz1, hz2⟩ := (elNode : El Tryz.prog 143 137 (.pointer none) 1 8).hi
 refine (callsIn_wide (n := 9)).1 ?_
 refine callsIn_of_wp_marks Tryz.func59 rfl trivial ?_ rfl
 simp only [Tryz.ntmps59, List.size_toArray, List.length_cons, List.length_nil, Nat.reduceAdd, Nat.reduceSub, Array.replicate_succ, Array.replicate_zero, List.push_toArray, List.append_toArray, List.nil_append, List.cons_append]
 gi_wp2_with (refine ⟨trivial, ?_⟩; gi_at_call 98; refine (callsIn_to (chunkNod_any (some ⟨b, o, none⟩) n c wd hwd _)).mono ?_; rintro e w' ⟨rfl, rfl⟩)
 have bO := Boxed.new w 143 (.slice none 0 0)
 obtain ⟨W0, hW0⟩ : ∃ W0, ((w.alloc (.cells #[.slice none 0 0] 143)).alloc (.cells #[.slice (some ⟨b, o, none⟩) n c] 143)).alloc (.cells #[.int .i64 wd] 3) = W0 := ⟨_, rfl⟩
 have hsz : W0.heap.size = w.heap.size + 3 := by rw [← hW0]; simp
 have hE0 : Ext w W0 := by rw [← hW0]; exact (ex_)
 have bB : Boxed W0 w.heap.size 143 (.slice none 0 0) := by rw [← hW0]; exact (bO.alloc _).alloc _
 have c1 : W0.cell? ⟨w.heap.size + 1, 0, none⟩ = some (.slice (some ⟨b, o, none⟩) n c) := by rw [← hW0]; simp [go_sem, ↓IntWalk.iteOmega]
 have c2 : W0.cell? ⟨w.heap.size + 1 + 1, 0, none⟩ = some (.int .i64 wd) := by rw [← hW0]; simp [go_sem, ↓IntWalk.iteOmega]
 clear bO
 try rw [hW0]
 try simp only [World.size_alloc]
 clear hW0
 refine wpIn_rangeFunc_ownG (encs := encNod b o wd n) (F := Fence.wide) (n := 9) (ps := #[13]) (w := W0) (Kp := But W0.heap.size w.heap.size) rfl (by decide) (gf := 137) (lb := #[.pointer (some ⟨w.heap.size + 1, 0, none⟩), .pointer (some ⟨w.heap.size + 1 + 1, 0, none⟩)]) rfl trivial (enters_of Tryz.func137 (by kernel_rfl) rfl)
  (chunkNod_stops 7 (w.heap.size + 1) (w.heap.size + 1 + 1) W0.heap.size w.heap.size b o wd n c hwd hw2 hn hc (by omega) (by omega) (by omega) (by omega) W0 c1 c2) But.trans (But.kb (Nat.le_refl _)) (Below.refl _ _) (fun _ => rfl)
  (fun (pre : List (Ix n)) W => ∃ v ps, Boxed W w.heap.size 143 v ∧ W.ownsRow W0.heap.size 137 1 v ps.length (ptc ps) ∧ Made W w.heap.size (fun _ => .slice none 0 0) (fun i => .slice (some ⟨b, o + i, none⟩) (min wd (n - i)) (min wd (n - i))) (fun i => (mkN ((T0.drop i).take wd)).r) ps (pre.map Subtype.val) ∧ But W0.heap.size w.heap.size W0 W)
  (fun _ _ _ => False)
  (fun pre W W' row ⟨v, ps, h1, h2, h3, h4⟩ hg hr => ⟨v, ps, boxed_kept hg (fun r e => (hr r e).2) h1, row_kept hg (fun r e => (hr r e).2) h2, h3.mono fun p c f hp => nodes_kept hg (fun r e => (hr r e).2) hp, But.own (β := Unit) (Nat.le_refl _) () W W' row h4 hg hr⟩)
  (fun _ _ _ _ _ hs _ _ => hs)
  ⟨_, [], bB, World.ownsRow_nil _ _ _ _, trivial, But.refl _ _ _⟩
  (fun x => { tmps := #[.slice (some ⟨b, o, none⟩) n c, .int .i64 wd, undef, undef, .slice none 0 0, .pointer (some ⟨w.heap.size, 0, none⟩), .slice (some ⟨b, o + x.1, none⟩) (min wd (n - x.1)) (min wd (n - x.1)), undef, undef, undef, .slice (some ⟨b, o, none⟩) n c, .int .i64 wd, .func (.func 137) #[] #[.pointer (some ⟨w.heap.size + 1, 0, none⟩), .pointer (some ⟨w.heap.size + 1 + 1, 0, none⟩)], .slice (some ⟨b, o + x.1, none⟩) (min wd (n - x.1)) (min wd (n - x.1)), undef, undef, undef, undef, undef, undef, undef, undef, undef, undef, undef, undef, undef, undef, undef, undef, undef, undef, undef, undef, undef, undef, undef, undef, undef, undef, undef, undef, undef, undef, undef, undef, undef], defers := [] }) ?assign ?body ?done ?stop
 case assign =>
  intro l x W K hK
  gi_wp2
  exact hK
 case body =>
  rintro l pre ⟨i, hi'⟩ W ⟨v, ps, hv, hrow, hmade, hbut⟩ hlt
  have hWsz := hbut.size
  have hEw : Ext w W := hE0.trans (hbut.below (by omega) (Nat.le_refl _))
  have hpl : ps.length ≤ 1048576 := by
   have h1 := hmade.len
   rw [List.length_map] at h1
   have h2 := (lt_nch (n := n) hwd).1 hlt
   have h3 : pre.length * 1 ≤ pre.length * wd := Nat.mul_le_mul_left _ hwd
   omega
  have hC := (hR.ext hEw).ptrs HP.out i wd (by omega)
  have hCl := chunk_len T0 i wd
  have hm : min wd (n - i) = ((T0.drop i).take wd).length := by rw [hCl, ← HL.out]
  have hC0 : 0 < ((T0.drop i).take wd).length := by omega
  have HM := Lib.hid hm
  have hTC := (hT.ext hEw).part i wd
  have hPC := (TMs.get hTC).1
  rw [hPC] at hC
  generalize hCC : (T0.drop i).take wd = C at hC hCl hm hC0 HM hTC hPC ⊢
  have HCC := Lib.hid hCC
  generalize (ps0.drop i).take wd = Ps at hC hTC hPC
  generalize ho2 : o + i = o2 at hC ⊢
  have HO2 := Lib.hid ho2
  clear hCC ho2
  have hCs : C.length ≤ 64 := by omega
  have hP0 : 0 < Ps.length := by omega
  rw [← hPC] at hC
  obtain ⟨b', o', he, hbW, d⟩ := hC.ptr hP0
  simp only [Option.some.injEq, Addr.mk.injEq, and_true] at he
  obtain ⟨rfl, rfl⟩ := he
  simp only [Nat.add_zero] at d
  obtain ⟨hp0, d0, d1, d2, d3⟩ := ((TMs.get hTC).2 0 hC0 hP0).rect
  have HPC := Lib.hid hPC
  clear hPC
  simp only [hm]
  clear hm hCl
  have HC0 : Hid (C[0].r = C[0].r) := Lib.hid rfl
  generalize hcc : C[0].r = c0 at d0 d1 d2 d3 HC0
  clear HC0
  have HC0 := Lib.hid hcc
  clear hcc
  generalize Ps[0] = p0 at d d0 d1 d2 d3 hp0
  gi_wp2
  gi_loopw [25] (fun q wr => ∃ k : Nat, k ≤ C.length ∧ q = .int .i64 k ∧ Ext (W.alloc (.cells #[.int .i64 (rN c0 C k).1.1, .int .i64 (rN c0 C k).1.2, .int .i64 (rN c0 C k).2.1, .int .i64 (rN c0 C k).2.2, .slice none 0 0, .slice (some ⟨b, o2, none⟩) C.length C.length] 187)) wr) (fun q _ => C.length - (intOf q).toNat)
  case atStart => exact ⟨0, Nat.zero_le _, rfl, Ext.refl' _⟩
  case round =>
   obtain ⟨k, hk, rfl, hE⟩ := hrel
   obtain ⟨x1, rfl⟩ := hE.get
   clear hE
   by_cases hlt2 : k < C.length
   ·
    have hlt3 : k < Ps.length := by have := HPC.out; omega
    obtain ⟨b', o', he, _, e⟩ := hC.ptr hlt3
    simp only [Option.some.injEq, Addr.mk.injEq, and_true] at he
    obtain ⟨rfl, rfl⟩ := he
    obtain ⟨hpk, e0, e1, e2, e3⟩ := ((TMs.get hTC).2 k hlt2 hlt3).rect
    have HJ := Lib.hid (rN_succ c0 C hlt2)
    generalize C[k].r = ck at e0 e1 e2 e3 HJ
    generalize Ps[k] = pk at e e0 e1 e2 e3 hpk
    generalize rN c0 C k = rk at HJ ⊢
    have HJN := Lib.hid (fun w => join_anyT rk ck w)
    gi_wp2
    refine wpIn_region_round_held (S := fun _ => True) (by kernel_rfl) (by kernel_rfl) (by rintro ⟨a, w, h⟩; exact h) trivial (fun hHeld => ?_)
    refine tkH 0 ?oi1 (?v1) ?hi1 ?hy1 ?_
    case hi1 => (simp only [gA, gS, gZ]; rfl)
    case hy1 => (refine Or.inl ⟨by rfl, ?_⟩; intro wq hSw; (try dsimp only at hSw); go_simp; (try with_reducible rfl))
    (try simp only [Act.put, pA, pZ, pS])
    refine tkH 1 ?oi2 (?v2) ?hi2 ?hy2 ?_
    case hi2 => (simp only [gA, gS, gZ]; rfl)
    case hy2 => (refine Or.inl ⟨by rfl, ?_⟩; intro wq hSw; (try dsimp only at hSw); go_simp; (try with_reducible rfl))
    (try simp only [Act.put, pA, pZ, pS])
    refine tkH 2 ?oi3 (?v3) ?hi3 ?hy3 ?_
    case hi3 => (simp only [gA, gS, gZ]; rfl)
    case hy3 => (refine Or.inl ⟨by rfl, ?_⟩; intro wq hSw; (try dsimp only at hSw); go_simp; (try with_reducible rfl))
    (try simp only [Act.put, pA, pZ, pS])
    refine tkH 3 ?oi4 (?v4) ?hi4 ?hy4 ?_
    case hi4 => (simp only [gA, gS, gZ]; rfl)
    case hy4 => (refine Or.inl ⟨by rfl, ?_⟩; intro wq hSw; (try dsimp only at hSw); go_simp; (try with_reducible rfl))
    (try simp only [Act.put, pA, pZ, pS])
    refine tkH 5 ?oi5 (?v5) ?hi5 ?hy5 ?_
    case hi5 => (simp only [gA, gS, gZ]; rfl)
    case hy5 => (refine Or.inl ⟨by rfl, ?_⟩; intro wq hSw; (try dsimp only at hSw); go_simp; (try with_reducible rfl))
    (try simp only [Act.put, pA, pZ, pS])
    refine tkH 6 ?oi6 (?v6) ?hi6 ?hy6 ?_
    case hi6 => (simp only [gA, gS, gZ]; rfl)
    case hy6 => (refine Or.inl ⟨by rfl, ?_⟩; intro wq hSw; (try dsimp only at hSw); go_simp; (try with_reducible rfl))
    (try simp only [Act.put, pA, pZ, pS])
    refine tkH 7 ?oi7 (?v7) ?hi7 ?hy7 ?_
    case hi7 => (simp only [gA, gS, gZ]; rfl)
    case hy7 => (refine Or.inl ⟨by rfl, ?_⟩; intro wq hSw; (try dsimp only at hSw); go_simp; (try with_reducible rfl))
    (try simp only [Act.put, pA, pZ, pS])
    refine wpAnyH_ready (rs := [4, 8]) (by kernel_rfl) (by simp) ?_
    refine AllReadyH.cons (o := ?oi8) ?hi8 ?ti8 ?ri8
    case hi8 => (simp only [gA, gS, gZ]; rfl)
    case ti8 =>
     intro KQ hKQ
     go_simp
     (try simp [go_sem, ↓IntWalk.iteOmega, *])
     refine hKQ.out _ _ (by trivial) (fun hHeld2 => ?_)
     clear hHeld hKQ KQ; have hHeld := hHeld2; clear hHeld2
     (try simp only [Act.put, pA, pZ, pS])
     refine wpAnyH_ready (rs := [8]) (by kernel_rfl) (by simp) ?_
     refine AllReadyH.cons (o := ?oi9) ?hi9 ?ti9 AllReadyH.nil
     case hi9 => (simp only [gA, gS, gZ]; rfl)
     case ti9 =>
      intro KQ hKQ
      go_simp
      (try simp [go_sem, ↓IntWalk.iteOmega, *])
      refine hKQ.out _ _ (by trivial) (fun hHeld2 => ?_)
      clear hHeld hKQ KQ; have hHeld := hHeld2; clear hHeld2
      (try simp only [Act.put, pA, pZ, pS])
      refine wpAnyH_ready (rs := [9]) (by kernel_rfl) (by simp) ?_
      refine AllReadyH.cons (o := ?oi10) ?hi10 ?ti10 AllReadyH.nil
      case hi10 => (simp only [gA, gS, gZ]; rfl)
      case ti10 =>
       intro KQ hKQ
       go_simp
       (go_at_call 97; (refine (HJN.out _).mono ?_); rintro e w1 ⟨rfl, hb1⟩; obtain ⟨x2, rfl⟩ := hb1.get; clear hb1)
       refine hKQ.out _ _ (by trivial) (fun hHeld2 => ?_)
       clear hHeld hKQ KQ; have hHeld := hHeld2; clear hHeld2
       (try simp only [Act.put, pA, pZ, pS])
       refine tkH 10 ?oi11 (?v11) ?hi11 ?hy11 ?_
       case hi11 => (simp only [gA, gS, gZ]; rfl)
       case hy11 => (refine Or.inl ⟨by rfl, ?_⟩; intro wq hSw; (try dsimp only at hSw); go_simp; (try with_reducible rfl))
       (try simp only [Act.put, pA, pZ, pS])
       refine tkH 11 ?oi12 (?v12) ?hi12 ?hy12 ?_
       case hi12 => (simp only [gA, gS, gZ]; rfl)
       case hy12 => (refine Or.inl ⟨by rfl, ?_⟩; intro wq hSw; (try dsimp only at hSw); go_simp; (try with_reducible rfl))
       (try simp only [Act.put, pA, pZ, pS])
       refine wpAnyH_ready (rs := [12]) (by kernel_rfl) (by simp) ?_
       refine AllReadyH.cons (o := ?oi13) ?hi13 ?ti13 AllReadyH.nil
       case hi13 => (simp only [gA, gS, gZ]; rfl)
       case ti13 =>
        intro KQ hKQ
        go_simp
        (try simp [go_sem, ↓IntWalk.iteOmega, *])
        refine hKQ.out _ _ (by trivial) (fun hHeld2 => ?_)
        clear hHeld hKQ KQ; have hHeld := hHeld2; clear hHeld2
        (try simp only [Act.put, pA, pZ, pS])
        refine wpAnyH_done (by kernel_rfl) ?_ _
        gi_wp2
        go_roundw
        case rel => exact ⟨k + 1, by omega, by go_num, by rw [HJ.out]; exact (ex_)⟩
        case measure => simp [intOf]; omega
    case ri8 =>
     refine AllReadyH.cons (o := ?oi14) ?hi14 ?ti14 AllReadyH.nil
     case hi14 => (simp only [gA, gS, gZ]; rfl)
     case ti14 =>
      intro KQ hKQ
      go_simp
      (try simp [go_sem, ↓IntWalk.iteOmega, *])
      refine hKQ.out _ _ (by trivial) (fun hHeld2 => ?_)
      clear hHeld hKQ KQ; have hHeld := hHeld2; clear hHeld2
      (try simp only [Act.put, pA, pZ, pS])
      refine wpAnyH_ready (rs := [4]) (by kernel_rfl) (by simp) ?_
      refine AllReadyH.cons (o := ?oi15) ?hi15 ?ti15 AllReadyH.nil
      case hi15 => (simp only [gA, gS, gZ]; rfl)
      case ti15 =>
       intro KQ hKQ
       go_simp
       (try simp [go_sem, ↓IntWalk.iteOmega, *])
       refine hKQ.out _ _ (by trivial) (fun hHeld2 => ?_)
       clear hHeld hKQ KQ; have hHeld := hHeld2; clear hHeld2
       (try simp only [Act.put, pA, pZ, pS])
       refine wpAnyH_ready (rs := [9]) (by kernel_rfl) (by simp) ?_
       refine AllReadyH.cons (o := ?oi16) ?hi16 ?ti16 AllReadyH.nil
       case hi16 => (simp only [gA, gS, gZ]; rfl)
       case ti16 =>
        intro KQ hKQ
        go_simp
        (go_at_call 97; (refine (HJN.out _).mono ?_); rintro e w1 ⟨rfl, hb1⟩; obtain ⟨x2, rfl⟩ := hb1.get; clear hb1)
        refine hKQ.out _ _ (by trivial) (fun hHeld2 => ?_)
        clear hHeld hKQ KQ; have hHeld := hHeld2; clear hHeld2
        (try simp only [Act.put, pA, pZ, pS])
        refine tkH 10 ?oi17 (?v17) ?hi17 ?hy17 ?_
        case hi17 => (simp only [gA, gS, gZ]; rfl)
        case hy17 => (refine Or.inl ⟨by rfl, ?_⟩; intro wq hSw; (try dsimp only at hSw); go_simp; (try with_reducible rfl))
        (try simp only [Act.put, pA, pZ, pS])
        refine tkH 11 ?oi18 (?v18) ?hi18 ?hy18 ?_
        case hi18 => (simp only [gA, gS, gZ]; rfl)
        case hy18 => (refine Or.inl ⟨by rfl, ?_⟩; intro wq hSw; (try dsimp only at hSw); go_simp; (try with_reducible rfl))
        (try simp only [Act.put, pA, pZ, pS])
        refine wpAnyH_ready (rs := [12]) (by kernel_rfl) (by simp) ?_
        refine AllReadyH.cons (o := ?oi19) ?hi19 ?ti19 AllReadyH.nil
        case hi19 => (simp only [gA, gS, gZ]; rfl)
        case ti19 =>
         intro KQ hKQ
         go_simp
         (try simp [go_sem, ↓IntWalk.iteOmega, *])
         refine hKQ.out _ _ (by trivial) (fun hHeld2 => ?_)
         clear hHeld hKQ KQ; have hHeld := hHeld2; clear hHeld2
         (try simp only [Act.put, pA, pZ, pS])
         refine wpAnyH_done (by kernel_rfl) ?_ _
         gi_wp2
         go_roundw
         case rel => exact ⟨k + 1, by omega, by go_num, by rw [HJ.out]; exact (ex_)⟩
         case measure => simp [intOf]; omega
   ·
    have HE := Lib.hid (rN_end hC0 (show k = C.length by omega))
    rw [HC0.out] at HE
    generalize rN c0 C k = rk at HE ⊢
    have hE2 : Ext W (ext (W.alloc (.cells #[.int .i64 rk.1.1, .int .i64 rk.1.2, .int .i64 rk.2.1, .int .i64 rk.2.2, .slice none 0 0, .slice (some ⟨b, o2, none⟩) C.length C.length] 187)) x1) := (ex_)
    have hn2 : (ext (W.alloc (.cells #[.int .i64 rk.1.1, .int .i64 rk.1.2, .int .i64 rk.2.1, .int .i64 rk.2.2, .slice none 0 0, .slice (some ⟨b, o2, none⟩) C.length C.length] 187)) x1).heap[W.heap.size]? = some (.cells #[.int .i64 rk.1.1, .int .i64 rk.1.2, .int .i64 rk.2.1, .int .i64 rk.2.2, .slice none 0 0, .slice (some ⟨b, o2, none⟩) C.length C.length] 187) := by rw [block_ext _ _ _ (by simp)]; exact World.alloc_heap_new W _
    generalize ext (W.alloc (.cells #[.int .i64 rk.1.1, .int .i64 rk.1.2, .int .i64 rk.2.1, .int .i64 rk.2.2, .slice none 0 0, .slice (some ⟨b, o2, none⟩) C.length C.length] 187)) x1 = W2 at hE2 hn2 ⊢
    have hv2 := boxed_ext hv hE2
    have hrow2 := ownsRow_ext hrow hE2
    have hmade2 := hmade.mono (W' := W2) (fun p c f hp => (hE2.block p (Array.getElem?_eq_some_iff.1 hp).1).trans hp)
    have hc2 := hv2.cell
    have hf2 := hv2.frozen
    have hs2 := hE2.size
    gi_wp2_with (gi_at_builtin; refine wpListIn_append_own _ rfl _ _ 143 rfl W0.heap.size 137 i0 (.pointer none) 1 8 Tryz.underlying143 hi hz0 hz1 hz2 rfl (by decide) _ _ _ rfl (hrow2.alloc _) ⟨W2.heap.size, 0, none⟩ 1 1 [ptT W.heap.size] rfl rfl (cell_one_new _ _ _) (by simp [Value.oneCell']) (by unfold maxLen; omega) (by omega) (by simp; omega) ?_; intro v' w1 hown' hgrow _; obtain ⟨g', cap', rfl⟩ := ownsRow_succ hown'; obtain ⟨hv1, hv3, hr3, hk3, hb3, hno3⟩ := boxed_app hv2 (by decide) hrow2 (by omega) hown' hgrow; have hc1 := hv1.cell; have hf1 := hv1.frozen)
    refine ⟨((keepsOthers_ext hE2).trans hk3).from _, (But.ofExt hE2 hWsz).trans hb3, _, ps ++ [W.heap.size], hv3, by simpa [ptc] using hr3, ?_, hbut.trans ((But.ofExt hE2 hWsz).trans hb3)⟩
    rw [List.map_append]
    refine Made.snoc (by omega) ?_ (hmade2.mono fun p c f hp => hno3 p c _ f hp (by decide) (by decide))
    have := hno3 _ _ _ _ hn2 (by decide) (by decide)
    rw [this]
    simp only [HCC.out, HM.out, HO2.out]
    rw [HE.out]
 case done =>
  rintro D xs W hD hS ⟨v, ps, hv, hrow, hmade, hbut⟩ hK
  have HS := Lib.hid hS
  clear hS
  have hWsz := hbut.size
  have hEw : Ext w W := hE0.trans (hbut.below (by omega) (Nat.le_refl _))
  obtain ⟨A, c', rfl, hcap⟩ := row_form hrow
  have hc' := hv.cell
  gi_wp2
  refine ⟨by simp, .inl ⟨_, _, rfl, run_takeDeferred hK, ?_⟩⟩
  refine ⟨_, results_tmp rfl _ _ _, ?_⟩
  have hlen : ps.length = (aboveF wd T0).length := by
   rw [hmade.len, HS.out, aboveF_length]; simp [← HL.out]
  have hEf : Ext w (W.putObj D (.deferred none)) := hEw.trans ((But.kb (B := W0.heap.size) (Nat.le_refl W0.heap.size) W D _ _ (by omega) hK rfl rfl).below (by omega) (by omega))
  have hrow' := ownsRow_putObj hrow (.deferred none) hK rfl
  refine ⟨A, c', ps, by rw [← hlen]; rfl, hEf, by omega, fun X hX hag hBase => ⟨?_, ?_⟩⟩
  ·
   rw [← hlen]
   refine (Rd.of_own hrow').agree fun b o hA hb => ⟨by omega, hag b ?_ hb⟩
   have := (row_block hrow' (r := b) (by rw [hA]; rfl)).1
   omega
  refine TMs.of hlen fun j h1 h2 => ?_
  have hx : ((xs.map Subtype.val)[j]'(by rw [← hmade.len]; exact h2)) = j * wd := by simp only [HS.out, List.getElem_map, List.getElem_range]
  obtain ⟨hlo, hp⟩ := hmade.get j h2 (by rw [← hmade.len]; exact h2)
  rw [hx] at hp
  have hp2 := nodes_kept (grownBy_putObj' W D (.deferred none)) (fun r e => by cases e; exact ⟨_, hK, rfl⟩) hp
  have hp2 := (hag _ hlo (Array.getElem?_eq_some_iff.1 hp2).1).trans hp2
  have hjn : j * wd < n := (lt_nch (n := n) hwd).1 (by rw [aboveF_length] at h1; rw [HL.out]; exact h1)
  have hC := hBase.1.ptrs HP.out (j * wd) wd (by omega)
  have hCl := chunk_len T0 (j * wd) wd
  have ht : (aboveF wd T0)[j] = mkN ((T0.drop (j * wd)).take wd) := by simp [aboveF, chunks]
  rw [ht]
  have hmn : min wd (n - j * wd) = ((T0.drop (j * wd)).take wd).length := by rw [hCl, ← HL.out]
  simp only [hmn] at hp2
  have hC0 : 0 < ((T0.drop (j * wd)).take wd).length := by omega
  have hTC := hBase.2.part (j * wd) wd
  rw [(TMs.get hTC).1] at hC
  exact tm_nd hp2 (by intro h; rw [h] at hC0; simp at hC0) (by omega) hC hTC
 case stop =>
  rintro D c pre W _ _ h _
  exact h.elim

end Go.Proofs.YtdiaecgpjgdkdaaGreat

namespace Go.Proofs.YtdiaecgpjgdkdaaGreat
open Go.RowKit Go.Shelf

attribute [local go_sem] Oper.semAt_some

theorem exam_eq (q : Rct) (t : Tr) : exam q t = t :: examS q t.ks := by cases t <;> simp [exam, examS, Tr.ks]
theorem examS_append (q : Rct) : ∀ (a b : List Tr), examS q (a ++ b) = examS q a ++ examS q b
 | [], b => rfl
 | x :: a, b => by rw [List.cons_append, examS, examS, examS_append q a b, List.append_assoc]
theorem examS_take (q : Rct) (l : List Tr) {k : Nat} (h : k < l.length) : examS q (l.take (k + 1)) = examS q (l.take k) ++ if ovlB l[k].r q then exam q l[k] else [] := by
 rw [List.take_succ_eq_append_getElem h, examS_append]
 congr 1
 simp [examS]
theorem examS_take_le (q : Rct) (l : List Tr) (k : Nat) : (examS q (l.take k)).length ≤ (examS q l).length := by
 conv => rhs; rw [← List.take_append_drop k l, examS_append, List.length_append]
 omega
theorem TM.kids {w : World} {t : Tr} {p : Nat} (h : TM w t p) : ∃ A c ps, p < w.heap.size ∧ w.cell? ⟨p, 5, none⟩ = some (.slice A t.ks.length c) ∧ t.ks.length ≤ 1048576 ∧ Rd w 1 A t.ks.length (ptc ps) ∧ TMs w t.ks ps := by
 cases t with
 | lf r bs =>
  rw [TM] at h
  obtain ⟨A, c, h0, h1, h2, h3, h4, h5, h6, h7, h8⟩ := h
  exact ⟨none, 0, [], h0, h6, by simp [Tr.ks], Rd.nil, by simp [Tr.ks, TMs]⟩
 | nd r ks =>
  rw [TM] at h
  obtain ⟨A, c, ps, h0, h1, h2, h3, h4, h5, h6, h7, h8, h9⟩ := h
  exact ⟨A, c, ps, h0, h6, h7, h8, h9⟩
theorem sz_kid {t k : Tr} (h : k ∈ t.ks) : SizeOf.sizeOf k < SizeOf.sizeOf t := by
 cases t with
 | lf r bs => simp [Tr.ks] at h
 | nd r ks => have := List.sizeOf_lt_of_mem h; simp [Tr.ks] at this ⊢; omega
abbrev Nd (w0 : World) := { x : Nat × Tr // TM w0 x.2 x.1 }
def Bx3 (q : Rct) (l bY bR bV : Nat) (W : World) : Prop :=
 W.heap[bY]? = some (.cells #[.func (.yield l) #[] #[]] 277) ∧ W.heap[bR]? = some (.cells #[.int .i64 q.1.1, .int .i64 q.1.2, .int .i64 q.2.1, .int .i64 q.2.2] 37) ∧ W.heap[bV]? = some (.cells #[.func (.func 211) #[] #[.pointer (some ⟨bY, 0, none⟩), .pointer (some ⟨bR, 0, none⟩), .pointer (some ⟨bV, 0, none⟩)]] 277)
theorem Bx3.ext {q : Rct} {l bY bR bV : Nat} {W W' : World} (h : Bx3 q l bY bR bV W) (e : Ext W W') : Bx3 q l bY bR bV W' := by
 obtain ⟨h1, h2, h3⟩ := h
 exact ⟨(e.block _ (Array.getElem?_eq_some_iff.1 h1).1).trans h1, (e.block _ (Array.getElem?_eq_some_iff.1 h2).1).trans h2, (e.block _ (Array.getElem?_eq_some_iff.1 h3).1).trans h3⟩
theorem Bx3.kp {q : Rct} {l bY bR bV h B : Nat} {W W' : World} (hb : Bx3 q l bY bR bV W) (k : KpT h B 3 23 W W') : Bx3 q l bY bR bV W' := by
 obtain ⟨h1, h2, h3⟩ := hb
 exact ⟨k.blk _ _ _ _ h1 (by decide) (by decide), k.blk _ _ _ _ h2 (by decide) (by decide), k.blk _ _ _ _ h3 (by decide) (by decide)⟩
theorem Bx3.cells {q : Rct} {l bY bR bV : Nat} {W : World} (hb : Bx3 q l bY bR bV W) : (bY < W.heap.size ∧ bR < W.heap.size ∧ bV < W.heap.size) ∧ W.cell? ⟨bY, 0, none⟩ = some (.func (.yield l) #[] #[]) ∧ (W.cell? ⟨bR, 0, none⟩ = some (.int .i64 q.1.1) ∧ W.cell? ⟨bR, 1, none⟩ = some (.int .i64 q.1.2) ∧ W.cell? ⟨bR, 2, none⟩ = some (.int .i64 q.2.1) ∧ W.cell? ⟨bR, 3, none⟩ = some (.int .i64 q.2.2)) ∧ W.cell? ⟨bV, 0, none⟩ = some (.func (.func 211) #[] #[.pointer (some ⟨bY, 0, none⟩), .pointer (some ⟨bR, 0, none⟩), .pointer (some ⟨bV, 0, none⟩)]) := by
 obtain ⟨h1, h2, h3⟩ := hb
 refine ⟨⟨(Array.getElem?_eq_some_iff.1 h1).1, (Array.getElem?_eq_some_iff.1 h2).1, (Array.getElem?_eq_some_iff.1 h3).1⟩, ?_, ⟨?_, ?_, ?_, ?_⟩, ?_⟩ <;> simp [World.cell?, h1, h2, h3]
def VQ {w0 : World} (J Jx : List (Nd w0) → World → Prop) (q : Rct) (l bY bR bV : Nat) (pre : List (Nd w0)) (X : List Tr) (bb : Bool) (W : World) : Prop :=
 (bb = true ∧ ∃ xs : List (Nd w0), xs.map (·.1.2) = X ∧ J (pre ++ xs) W ∧ Ext w0 W ∧ Bx3 q l bY bR bV W) ∨ (bb = false ∧ ∃ pre', Jx pre' W)
def VisP {w0 : World} (J Jx : List (Nd w0) → World → Prop) (q : Rct) (l bY bR bV : Nat) (pre : List (Nd w0)) (X : List Tr) (e : Ending) (W : World) : Prop := ∃ bb : Bool, e = .returned (.bool bb) ∧ VQ J Jx q l bY bR bV pre X bb W

set_option maxRecDepth 100000 in
set_option maxHeartbeats 8000000 in
theorem visit_in (q : Rct) (l h B N bY bR bV : Nat) (w0 : World) (hh0 : w0.heap.size ≤ h) (hB0 : w0.heap.size ≤ B) (J Jx : List (Nd w0) → World → Prop) (hJa : ∀ pre W W', J pre W → W.grownBy W' none → J pre W')
  (hY : ∀ pre (x : Nd w0) W, J pre W → pre.length < N → YieldAt Fence.wide 2 Tryz.prog l #[ptT x.1.1] W fun e W' => (e = .returned (.bool true) ∧ J (pre ++ [x]) W' ∧ KpT h B 3 23 W W') ∨ (e = .returned (.bool false) ∧ Jx (pre ++ [x]) W')) (m : Nat) :
  ∀ (t : Tr) (p : Nat), SizeOf.sizeOf t = m → ∀ (hT : TM w0 t p) (pre : List (Nd w0)) (W : World), J pre W → Ext w0 W → Bx3 q l bY bR bV W → pre.length + (exam q t).length ≤ N →
  Calls Tryz.prog 211 #[ptT p, .pointer (some ⟨bY, 0, none⟩), .pointer (some ⟨bR, 0, none⟩), .pointer (some ⟨bV, 0, none⟩)] W (VisP J Jx q l bY bR bV pre (exam q t)) := by
 induction m using Nat.strongRecOn with
 | _ m ih =>
  intro t p hm hT pre W hJ hE hBx hN
  have IH := Lib.hid ih
  have HM := Lib.hid hm
  have HY := Lib.hid hY
  have HJA := Lib.hid hJa
  clear ih hm hY hJa
  have hex := exam_eq q t
  rw [hex] at hN ⊢
  clear hex
  simp only [List.length_cons] at hN
  obtain ⟨A, c, ps, hpw, hc5, hkl, hRk, hTk⟩ := hT.kids
  have HSZ := Lib.hid (fun k (hk : k ∈ t.ks) => sz_kid hk)
  generalize hks : t.ks = ks at hN hc5 hkl hRk hTk HSZ ⊢
  have HKS := Lib.hid hks
  clear hks
  obtain ⟨x0, hx1, hx2⟩ : ∃ x0 : Nd w0, x0.1.1 = p ∧ x0.1.2 = t := ⟨⟨(p, t), hT⟩, rfl, rfl⟩
  obtain ⟨fn, tmps, assign, body, hy, hR⟩ := HY.out pre x0 W hJ (by omega)
  have HR := Lib.hid hR
  rw [hx1] at hy
  have HX2 := Lib.hid hx2
  clear hx1 hx2
  clear hR
  obtain ⟨⟨s1, s2, s3⟩, d1, ⟨d2, d3, d4, d5⟩, d6⟩ := hBx.cells
  refine (callsIn_wide (n := 3)).1 ?_
  refine callsIn_of_wp Tryz.func211 rfl trivial ?_ rfl
  simp only [Tryz.ntmps211, List.size_toArray, List.length_cons, List.length_nil, Nat.reduceAdd, Nat.reduceSub, Array.replicate_succ, Array.replicate_zero, List.push_toArray, List.append_toArray, List.nil_append, List.cons_append]
  gi_wp2
  refine RoundIn.mono HR.out ?_
  rintro e W3 (⟨rfl, hJ3, hK3⟩ | ⟨rfl, hJx3⟩)
  case inr =>
   gi_wp2
   go_ret
   exact ⟨false, rfl, .inr ⟨rfl, _, hJx3⟩⟩
  case inl =>
   have hE3 : Ext w0 W3 := hE.trans (hK3.but.below hh0 hB0)
   have hB3 := hBx.kp hK3
   clear hy HR d1 d2 d3 d4 d5 d6 s1 s2 s3
   have e5 := hE3.cell' hc5
   gi_wp2
   gi_loopw [17] (fun i wr => ∃ (k : Nat) (xs : List (Nd w0)), i = .int .i64 k ∧ k ≤ ks.length ∧ xs.map (·.1.2) = examS q (ks.take k) ∧ J (pre ++ [x0] ++ xs) wr ∧ Ext w0 wr ∧ Bx3 q l bY bR bV wr) (fun i _ => ks.length - (intOf i).toNat)
   case atStart => exact ⟨0, [], rfl, Nat.zero_le _, rfl, by simpa using hJ3, hE3, hB3⟩
   case round =>
    obtain ⟨k, xs, rfl, hk, hxs, hJ4, hE4, hB4⟩ := hrel
    have HXS := Lib.hid hxs
    clear hxs e5
    by_cases hlt : k < ks.length
    ·
     have HEX0 := Lib.hid (examS_take q ks hlt)
     obtain ⟨hpl, hg⟩ := TMs.get hTk
     have HPL := Lib.hid hpl
     have hlt3 : k < ps.length := by omega
     have hTM := hg k hlt hlt3
     clear hg hpl
     have hRw := hRk.ext hE4
     obtain ⟨b, o, rfl, hbw, ec⟩ := hRw.ptr hlt3
     obtain ⟨hpk, r0, r1, r2, r3⟩ := (hTM.ext hE4).rect
     obtain ⟨⟨s1, s2, s3⟩, d1, ⟨d2, d3, d4, d5⟩, d6⟩ := hB4.cells
     have hlen : (examS q (ks.take (k + 1))).length ≤ (examS q ks).length := examS_take_le q ks (k + 1)
     have hxl : xs.length = (examS q (ks.take k)).length := by rw [← HXS.out, List.length_map]
     have hSZ := HSZ.out ks[k] (List.getElem_mem hlt)
     have hsm : SizeOf.sizeOf ks[k] < m := by have := HM.out; omega
     have HIH := Lib.hid (fun (W4 : World) h1 h2 h3 (h4 : (pre ++ [x0] ++ xs).length + (exam q ks[k]).length ≤ N) => IH.out _ hsm ks[k] ps[k] rfl hTM (pre ++ [x0] ++ xs) W4 h1 h2 h3 h4)
     have HOV := Lib.hid (fun w => overlapsX_any ks[k].r q w)
     have HL := Lib.hid hxl
     have HLL := Lib.hid hlen
     clear hSZ hxl hlen hTM hRw hsm
     rcases hov : ovlB ks[k].r q with _ | _
     ·
      have HEX : Hid (examS q (ks.take (k + 1)) = examS q (ks.take k)) := Lib.hid (by rw [HEX0.out, hov]; simp)
      rw [hov] at HOV
      clear HIH hov
      generalize ks[k].r = rk at HOV r0 r1 r2 r3
      generalize ps[k] = pk at ec hpk r0 r1 r2 r3
      clear HEX0
      gi_wp2
      refine wpIn_wide.2 ?_
      refine wp_region_held_drew (S := fun _ => True) (by kernel_rfl) trivial (fun hHeld => ?_)
      refine tkH 0 ?oi1 (?v1) ?hi1 ?hy1 ?_
      case hi1 => (simp only [gA, gS, gZ]; rfl)
      case hy1 => (refine Or.inl ⟨by rfl, ?_⟩; intro wq hSw; (try dsimp only at hSw); go_simp; (try with_reducible rfl))
      (try simp only [Act.put, pA, pZ, pS])
      refine tkH 1 ?oi2 (?v2) ?hi2 ?hy2 ?_
      case hi2 => (simp only [gA, gS, gZ]; rfl)
      case hy2 => (refine Or.inl ⟨by rfl, ?_⟩; intro wq hSw; (try dsimp only at hSw); go_simp; (try with_reducible rfl))
      (try simp only [Act.put, pA, pZ, pS])
      refine tkH 2 ?oi3 (?v3) ?hi3 ?hy3 ?_
      case hi3 => (simp only [gA, gS, gZ]; rfl)
      case hy3 => (refine Or.inl ⟨by rfl, ?_⟩; intro wq hSw; (try dsimp only at hSw); go_simp; (try with_reducible rfl))
      (try simp only [Act.put, pA, pZ, pS])
      refine wpAnyH_ready (rs := [3, 4]) (by kernel_rfl) (by simp) ?_
      refine AllReadyH.cons (o := ?oi4) ?hi4 ?ti4 ?ri4
      case hi4 => (simp only [gA, gS, gZ]; rfl)
      case ti4 =>
       intro KQ hKQ
       go_simp
       (try simp [go_sem, ↓IntWalk.iteOmega, *])
       refine hKQ.out _ _ (by trivial) (fun hHeld2 => ?_)
       clear hHeld hKQ KQ; have hHeld := hHeld2; clear hHeld2
       (try simp only [Act.put, pA, pZ, pS])
       refine wpAnyH_ready (rs := [4]) (by kernel_rfl) (by simp) ?_
       refine AllReadyH.cons (o := ?oi5) ?hi5 ?ti5 AllReadyH.nil
       case hi5 => (simp only [gA, gS, gZ]; rfl)
       case ti5 =>
        intro KQ hKQ
        go_simp
        (try simp [go_sem, ↓IntWalk.iteOmega, *])
        refine hKQ.out _ _ (by trivial) (fun hHeld2 => ?_)
        clear hHeld hKQ KQ; have hHeld := hHeld2; clear hHeld2
        (try simp only [Act.put, pA, pZ, pS])
        refine wpAnyH_ready (rs := [5]) (by kernel_rfl) (by simp) ?_
        refine AllReadyH.cons (o := ?oi6) ?hi6 ?ti6 AllReadyH.nil
        case hi6 => (simp only [gA, gS, gZ]; rfl)
        case ti6 =>
         intro KQ hKQ
         go_simp
         (go_at_call 209; (refine (HOV.out _).mono ?_); rintro e w1 ⟨rfl, hb1⟩; obtain ⟨x1, rfl⟩ := hb1.get; clear hb1)
         refine hKQ.out _ _ (by trivial) (fun hHeld2 => ?_)
         clear hHeld hKQ KQ; have hHeld := hHeld2; clear hHeld2
         (try simp only [Act.put, pA, pZ, pS])
         refine tkH 6 ?oi7 (?v7) ?hi7 ?hy7 ?_
         case hi7 => (simp only [gA, gS, gZ]; rfl)
         case hy7 => (refine Or.inl ⟨by rfl, ?_⟩; intro wq hSw; (try dsimp only at hSw); go_simp; (try with_reducible rfl))
         (try simp only [Act.put, pA, pZ, pS])
         refine tkH 7 ?oi8 (undef) ?hi8 ?hy8 ?_
         case hi8 => (simp only [gA, gS, gZ]; rfl)
         case hy8 => exact Or.inr ⟨by rfl, rfl⟩
         (try simp only [Act.put, pA, pZ, pS])
         refine tkH 8 ?oi9 (undef) ?hi9 ?hy9 ?_
         case hi9 => (simp only [gA, gS, gZ]; rfl)
         case hy9 => exact Or.inr ⟨by rfl, rfl⟩
         (try simp only [Act.put, pA, pZ, pS])
         refine tkH 9 ?oi10 (undef) ?hi10 ?hy10 ?_
         case hi10 => (simp only [gA, gS, gZ]; rfl)
         case hy10 => exact Or.inr ⟨by rfl, rfl⟩
         (try simp only [Act.put, pA, pZ, pS])
         refine tkH 10 ?oi11 (undef) ?hi11 ?hy11 ?_
         case hi11 => (simp only [gA, gS, gZ]; rfl)
         case hy11 => exact Or.inr ⟨by rfl, rfl⟩
         (try simp only [Act.put, pA, pZ, pS])
         refine tkH 11 ?oi12 (?v12) ?hi12 ?hy12 ?_
         case hi12 => (simp only [gA, gS, gZ]; rfl)
         case hy12 => (refine Or.inl ⟨by rfl, ?_⟩; intro wq hSw; (try dsimp only at hSw); go_simp; (try with_reducible rfl))
         (try simp only [Act.put, pA, pZ, pS])
         refine wpAnyH_done (by kernel_rfl) ?_ _
         gi_wp2
         go_roundw
         case rel => exact ⟨k + 1, xs, by go_num, by omega, by rw [HXS.out, HEX.out], HJA.out _ wr _ hJ4 (ext_grown (ex_)), hE4.trans (Below.mono (show Ext wr _ from (ex_)) hE4.size), hB4.ext (ex_)⟩
         case measure => simp [intOf]; omega
      case ri4 =>
       refine AllReadyH.cons (o := ?oi13) ?hi13 ?ti13 AllReadyH.nil
       case hi13 => (simp only [gA, gS, gZ]; rfl)
       case ti13 =>
        intro KQ hKQ
        go_simp
        (try simp [go_sem, ↓IntWalk.iteOmega, *])
        refine hKQ.out _ _ (by trivial) (fun hHeld2 => ?_)
        clear hHeld hKQ KQ; have hHeld := hHeld2; clear hHeld2
        (try simp only [Act.put, pA, pZ, pS])
        refine wpAnyH_ready (rs := [3]) (by kernel_rfl) (by simp) ?_
        refine AllReadyH.cons (o := ?oi14) ?hi14 ?ti14 AllReadyH.nil
        case hi14 => (simp only [gA, gS, gZ]; rfl)
        case ti14 =>
         intro KQ hKQ
         go_simp
         (try simp [go_sem, ↓IntWalk.iteOmega, *])
         refine hKQ.out _ _ (by trivial) (fun hHeld2 => ?_)
         clear hHeld hKQ KQ; have hHeld := hHeld2; clear hHeld2
         (try simp only [Act.put, pA, pZ, pS])
         refine wpAnyH_ready (rs := [5]) (by kernel_rfl) (by simp) ?_
         refine AllReadyH.cons (o := ?oi15) ?hi15 ?ti15 AllReadyH.nil
         case hi15 => (simp only [gA, gS, gZ]; rfl)
         case ti15 =>
          intro KQ hKQ
          go_simp
          (go_at_call 209; (refine (HOV.out _).mono ?_); rintro e w1 ⟨rfl, hb1⟩; obtain ⟨x1, rfl⟩ := hb1.get; clear hb1)
          refine hKQ.out _ _ (by trivial) (fun hHeld2 => ?_)
          clear hHeld hKQ KQ; have hHeld := hHeld2; clear hHeld2
          (try simp only [Act.put, pA, pZ, pS])
          refine tkH 6 ?oi16 (?v16) ?hi16 ?hy16 ?_
          case hi16 => (simp only [gA, gS, gZ]; rfl)
          case hy16 => (refine Or.inl ⟨by rfl, ?_⟩; intro wq hSw; (try dsimp only at hSw); go_simp; (try with_reducible rfl))
          (try simp only [Act.put, pA, pZ, pS])
          refine tkH 7 ?oi17 (undef) ?hi17 ?hy17 ?_
          case hi17 => (simp only [gA, gS, gZ]; rfl)
          case hy17 => exact Or.inr ⟨by rfl, rfl⟩
          (try simp only [Act.put, pA, pZ, pS])
          refine tkH 8 ?oi18 (undef) ?hi18 ?hy18 ?_
          case hi18 => (simp only [gA, gS, gZ]; rfl)
          case hy18 => exact Or.inr ⟨by rfl, rfl⟩
          (try simp only [Act.put, pA, pZ, pS])
          refine tkH 9 ?oi19 (undef) ?hi19 ?hy19 ?_
          case hi19 => (simp only [gA, gS, gZ]; rfl)
          case hy19 => exact Or.inr ⟨by rfl, rfl⟩
          (try simp only [Act.put, pA, pZ, pS])
          refine tkH 10 ?oi20 (undef) ?hi20 ?hy20 ?_
          case hi20 => (simp only [gA, gS, gZ]; rfl)
          case hy20 => exact Or.inr ⟨by rfl, rfl⟩
          (try simp only [Act.put, pA, pZ, pS])
          refine tkH 11 ?oi21 (?v21) ?hi21 ?hy21 ?_
          case hi21 => (simp only [gA, gS, gZ]; rfl)
          case hy21 => (refine Or.inl ⟨by rfl, ?_⟩; intro wq hSw; (try dsimp only at hSw); go_simp; (try with_reducible rfl))
          (try simp only [Act.put, pA, pZ, pS])
          refine wpAnyH_done (by kernel_rfl) ?_ _
          gi_wp2
          go_roundw
          case rel => exact ⟨k + 1, xs, by go_num, by omega, by rw [HXS.out, HEX.out], HJA.out _ wr _ hJ4 (ext_grown (ex_)), hE4.trans (Below.mono (show Ext wr _ from (ex_)) hE4.size), hB4.ext (ex_)⟩
          case measure => simp [intOf]; omega
     ·
      have HEX : Hid (examS q (ks.take (k + 1)) = examS q (ks.take k) ++ exam q ks[k]) := Lib.hid (by rw [HEX0.out, hov]; simp)
      rw [hov] at HOV
      have HIH := Lib.hid (fun W4 h1 h2 h3 => HIH.out W4 h1 h2 h3 (by have a := HLL.out; have b := HL.out; rw [HEX.out, List.length_append] at a; simp; omega))
      clear hov
      generalize hrk : ks[k].r = rk at HOV r0 r1 r2 r3
      clear hrk
      generalize ps[k] = pk at ec hpk r0 r1 r2 r3 HIH
      clear HEX0
      gi_wp2
      refine wpIn_wide.2 ?_
      refine wp_region_held_drew (S := fun _ => True) (by kernel_rfl) trivial (fun hHeld => ?_)
      refine tkH 0 ?oi201 (?v201) ?hi201 ?hy201 ?_
      case hi201 => (simp only [gA, gS, gZ]; rfl)
      case hy201 => (refine Or.inl ⟨by rfl, ?_⟩; intro wq hSw; (try dsimp only at hSw); go_simp; (try with_reducible rfl))
      (try simp only [Act.put, pA, pZ, pS])
      refine tkH 1 ?oi202 (?v202) ?hi202 ?hy202 ?_
      case hi202 => (simp only [gA, gS, gZ]; rfl)
      case hy202 => (refine Or.inl ⟨by rfl, ?_⟩; intro wq hSw; (try dsimp only at hSw); go_simp; (try with_reducible rfl))
      (try simp only [Act.put, pA, pZ, pS])
      refine tkH 2 ?oi203 (?v203) ?hi203 ?hy203 ?_
      case hi203 => (simp only [gA, gS, gZ]; rfl)
      case hy203 => (refine Or.inl ⟨by rfl, ?_⟩; intro wq hSw; (try dsimp only at hSw); go_simp; (try with_reducible rfl))
      (try simp only [Act.put, pA, pZ, pS])
      refine wpAnyH_ready (rs := [3, 4]) (by kernel_rfl) (by simp) ?_
      refine AllReadyH.cons (o := ?oi204) ?hi204 ?ti204 ?ri204
      case hi204 => (simp only [gA, gS, gZ]; rfl)
      case ti204 =>
       intro KQ hKQ
       go_simp
       (try simp [go_sem, ↓IntWalk.iteOmega, *])
       refine hKQ.out _ _ (by trivial) (fun hHeld2 => ?_)
       clear hHeld hKQ KQ; have hHeld := hHeld2; clear hHeld2
       (try simp only [Act.put, pA, pZ, pS])
       refine wpAnyH_ready (rs := [4]) (by kernel_rfl) (by simp) ?_
       refine AllReadyH.cons (o := ?oi205) ?hi205 ?ti205 AllReadyH.nil
       case hi205 => (simp only [gA, gS, gZ]; rfl)
       case ti205 =>
        intro KQ hKQ
        go_simp
        (try simp [go_sem, ↓IntWalk.iteOmega, *])
        refine hKQ.out _ _ (by trivial) (fun hHeld2 => ?_)
        clear hHeld hKQ KQ; have hHeld := hHeld2; clear hHeld2
        (try simp only [Act.put, pA, pZ, pS])
        refine wpAnyH_ready (rs := [5]) (by kernel_rfl) (by simp) ?_
        refine AllReadyH.cons (o := ?oi206) ?hi206 ?ti206 AllReadyH.nil
        case hi206 => (simp only [gA, gS, gZ]; rfl)
        case ti206 =>
         intro KQ hKQ
         go_simp
         (go_at_call 209; (refine (HOV.out _).mono ?_); rintro e w1 ⟨rfl, hb1⟩; obtain ⟨x1, rfl⟩ := hb1.get; clear hb1)
         refine hKQ.out _ _ (by trivial) (fun hHeld2 => ?_)
         clear hHeld hKQ KQ; have hHeld := hHeld2; clear hHeld2
         (try simp only [Act.put, pA, pZ, pS])
         refine tkH 6 ?oi207 (?v207) ?hi207 ?hy207 ?_
         case hi207 => (simp only [gA, gS, gZ]; rfl)
         case hy207 => (refine Or.inl ⟨by rfl, ?_⟩; intro wq hSw; (try dsimp only at hSw); go_simp; (try with_reducible rfl))
         (try simp only [Act.put, pA, pZ, pS])
         refine tkH 8 ?oi208 (?v208) ?hi208 ?hy208 ?_
         case hi208 => (simp only [gA, gS, gZ]; rfl)
         case hy208 => (refine Or.inl ⟨by rfl, ?_⟩; intro wq hSw; (try dsimp only at hSw); go_simp; (try with_reducible rfl))
         (try simp only [Act.put, pA, pZ, pS])
         refine wpAnyH_ready (rs := [7]) (by kernel_rfl) (by simp) ?_
         refine AllReadyH.cons (o := ?oi209) ?hi209 ?ti209 AllReadyH.nil
         case hi209 => (simp only [gA, gS, gZ]; rfl)
         case ti209 =>
          intro KQ hKQ
          go_simp
          (try simp [go_sem, ↓IntWalk.iteOmega, *])
          refine hKQ.out _ _ (by trivial) (fun hHeld2 => ?_)
          clear hHeld hKQ KQ; have hHeld := hHeld2; clear hHeld2
          (try simp only [Act.put, pA, pZ, pS])
          refine wpAnyH_ready (rs := [9]) (by kernel_rfl) (by simp) ?_
          refine AllReadyH.cons (o := ?oi210) ?hi210 ?ti210 AllReadyH.nil
          case hi210 => (simp only [gA, gS, gZ]; rfl)
          case ti210 =>
           intro KQ hKQ
           go_simp
           (go_at_call 211; (refine (HIH.out _ (HJA.out _ wr _ hJ4 (ext_grown (ex_))) (hE4.trans (Below.mono (show Ext wr _ from (ex_)) hE4.size)) (hB4.ext (ex_))).mono ?_); rintro e w2 ⟨bb, rfl, hV⟩)
           refine hKQ.out _ _ (by trivial) (fun hHeld2 => ?_)
           clear hHeld hKQ KQ; have hHeld := hHeld2; clear hHeld2
           (try simp only [Act.put, pA, pZ, pS])
           refine tkH 10 ?oi211 (?v211) ?hi211 ?hy211 ?_
           case hi211 => (simp only [gA, gS, gZ]; rfl)
           case hy211 => (refine Or.inl ⟨by rfl, ?_⟩; intro wq hSw; (try dsimp only at hSw); go_simp; (try with_reducible rfl))
           (try simp only [Act.put, pA, pZ, pS])
           refine tkH 11 ?oi212 (?v212) ?hi212 ?hy212 ?_
           case hi212 => (simp only [gA, gS, gZ]; rfl)
           case hy212 => (refine Or.inl ⟨by rfl, ?_⟩; intro wq hSw; (try dsimp only at hSw); go_simp; (try with_reducible rfl))
           (try simp only [Act.put, pA, pZ, pS])
           refine wpAnyH_done (by kernel_rfl) ?_ _
           cases bb
           ·
            gi_wp2
            go_ret
            rcases hV with ⟨h, _⟩ | ⟨_, pre', hp⟩
            ·
             cases h
            ·
             exact ⟨false, rfl, .inr ⟨rfl, pre', hp⟩⟩
           ·
            rcases hV with ⟨_, ys, hys, hJ5, hE5, hB5⟩ | ⟨h, _⟩
            ·
             gi_wp2
             go_roundw
             case rel => exact ⟨k + 1, xs ++ ys, by go_num, by omega, by rw [List.map_append, HXS.out, hys, HEX.out], by rw [← List.append_assoc]; exact hJ5, hE5, hB5⟩
             case measure => simp [intOf]; omega
            ·
             cases h
      case ri204 =>
       refine AllReadyH.cons (o := ?oi213) ?hi213 ?ti213 AllReadyH.nil
       case hi213 => (simp only [gA, gS, gZ]; rfl)
       case ti213 =>
        intro KQ hKQ
        go_simp
        (try simp [go_sem, ↓IntWalk.iteOmega, *])
        refine hKQ.out _ _ (by trivial) (fun hHeld2 => ?_)
        clear hHeld hKQ KQ; have hHeld := hHeld2; clear hHeld2
        (try simp only [Act.put, pA, pZ, pS])
        refine wpAnyH_ready (rs := [3]) (by kernel_rfl) (by simp) ?_
        refine AllReadyH.cons (o := ?oi214) ?hi214 ?ti214 AllReadyH.nil
        case hi214 => (simp only [gA, gS, gZ]; rfl)
        case ti214 =>
         intro KQ hKQ
         go_simp
         (try simp [go_sem, ↓IntWalk.iteOmega, *])
         refine hKQ.out _ _ (by trivial) (fun hHeld2 => ?_)
         clear hHeld hKQ KQ; have hHeld := hHeld2; clear hHeld2
         (try simp only [Act.put, pA, pZ, pS])
         refine wpAnyH_ready (rs := [5]) (by kernel_rfl) (by simp) ?_
         refine AllReadyH.cons (o := ?oi215) ?hi215 ?ti215 AllReadyH.nil
         case hi215 => (simp only [gA, gS, gZ]; rfl)
         case ti215 =>
          intro KQ hKQ
          go_simp
          (go_at_call 209; (refine (HOV.out _).mono ?_); rintro e w1 ⟨rfl, hb1⟩; obtain ⟨x1, rfl⟩ := hb1.get; clear hb1)
          refine hKQ.out _ _ (by trivial) (fun hHeld2 => ?_)
          clear hHeld hKQ KQ; have hHeld := hHeld2; clear hHeld2
          (try simp only [Act.put, pA, pZ, pS])
          refine tkH 6 ?oi216 (?v216) ?hi216 ?hy216 ?_
          case hi216 => (simp only [gA, gS, gZ]; rfl)
          case hy216 => (refine Or.inl ⟨by rfl, ?_⟩; intro wq hSw; (try dsimp only at hSw); go_simp; (try with_reducible rfl))
          (try simp only [Act.put, pA, pZ, pS])
          refine tkH 8 ?oi217 (?v217) ?hi217 ?hy217 ?_
          case hi217 => (simp only [gA, gS, gZ]; rfl)
          case hy217 => (refine Or.inl ⟨by rfl, ?_⟩; intro wq hSw; (try dsimp only at hSw); go_simp; (try with_reducible rfl))
          (try simp only [Act.put, pA, pZ, pS])
          refine wpAnyH_ready (rs := [7]) (by kernel_rfl) (by simp) ?_
          refine AllReadyH.cons (o := ?oi218) ?hi218 ?ti218 AllReadyH.nil
          case hi218 => (simp only [gA, gS, gZ]; rfl)
          case ti218 =>
           intro KQ hKQ
           go_simp
           (try simp [go_sem, ↓IntWalk.iteOmega, *])
           refine hKQ.out _ _ (by trivial) (fun hHeld2 => ?_)
           clear hHeld hKQ KQ; have hHeld := hHeld2; clear hHeld2
           (try simp only [Act.put, pA, pZ, pS])
           refine wpAnyH_ready (rs := [9]) (by kernel_rfl) (by simp) ?_
           refine AllReadyH.cons (o := ?oi219) ?hi219 ?ti219 AllReadyH.nil
           case hi219 => (simp only [gA, gS, gZ]; rfl)
           case ti219 =>
            intro KQ hKQ
            go_simp
            (go_at_call 211; (refine (HIH.out _ (HJA.out _ wr _ hJ4 (ext_grown (ex_))) (hE4.trans (Below.mono (show Ext wr _ from (ex_)) hE4.size)) (hB4.ext (ex_))).mono ?_); rintro e w2 ⟨bb, rfl, hV⟩)
            refine hKQ.out _ _ (by trivial) (fun hHeld2 => ?_)
            clear hHeld hKQ KQ; have hHeld := hHeld2; clear hHeld2
            (try simp only [Act.put, pA, pZ, pS])
            refine tkH 10 ?oi220 (?v220) ?hi220 ?hy220 ?_
            case hi220 => (simp only [gA, gS, gZ]; rfl)
            case hy220 => (refine Or.inl ⟨by rfl, ?_⟩; intro wq hSw; (try dsimp only at hSw); go_simp; (try with_reducible rfl))
            (try simp only [Act.put, pA, pZ, pS])
            refine tkH 11 ?oi221 (?v221) ?hi221 ?hy221 ?_
            case hi221 => (simp only [gA, gS, gZ]; rfl)
            case hy221 => (refine Or.inl ⟨by rfl, ?_⟩; intro wq hSw; (try dsimp only at hSw); go_simp; (try with_reducible rfl))
            (try simp only [Act.put, pA, pZ, pS])
            refine wpAnyH_done (by kernel_rfl) ?_ _
            cases bb
            ·
             gi_wp2
             go_ret
             rcases hV with ⟨h, _⟩ | ⟨_, pre', hp⟩
             ·
              cases h
             ·
              exact ⟨false, rfl, .inr ⟨rfl, pre', hp⟩⟩
            ·
             rcases hV with ⟨_, ys, hys, hJ5, hE5, hB5⟩ | ⟨h, _⟩
             ·
              gi_wp2
              go_roundw
              case rel => exact ⟨k + 1, xs ++ ys, by go_num, by omega, by rw [List.map_append, HXS.out, hys, HEX.out], by rw [← List.append_assoc]; exact hJ5, hE5, hB5⟩
              case measure => simp [intOf]; omega
             ·
              cases h
    ·
     have hkk : k = ks.length := by omega
     have HX3 : Hid (xs.map (·.1.2) = examS q ks) := Lib.hid (by rw [HXS.out, hkk, List.take_length])
     clear hkk
     gi_wp2
     go_ret
     exact ⟨true, rfl, .inl ⟨rfl, x0 :: xs, by rw [List.map_cons, HX3.out, HX2.out], by simpa using hJ4, hE4, hB4⟩⟩

end Go.Proofs.YtdiaecgpjgdkdaaGreat
