/- Packed trees in memory: the nodes of the program, chunks as iterators. -/
import Derived.Test.YtahmkinppighkaaTrB
import Derived.Test.YtahmkinppighkaaTrC
set_option linter.unusedSimpArgs false
set_option linter.unusedVariables false
namespace Go.Proofs.Ytahmkinppighkaa
open Go.RowKit Go.Shelf


/-- pointers to blocks -/
abbrev pt (p : Nat) : Value := .pointer (some ⟨p, 0, none⟩)
def ptc (ps : List Nat) : List Value := ps.map pt
mutual
/-- block p holds the node -/
def TM (w : World) : Tr → Nat → Prop
  | .lf r bs, p => ∃ A c, p < w.heap.size ∧ w.cell? ⟨p, 0, none⟩ = some (.int .i64 r.1.1) ∧ w.cell? ⟨p, 1, none⟩ = some (.int .i64 r.1.2) ∧ w.cell? ⟨p, 2, none⟩ = some (.int .i64 r.2.1) ∧ w.cell? ⟨p, 3, none⟩ = some (.int .i64 r.2.2) ∧ w.cell? ⟨p, 4, none⟩ = some (.slice A bs.length c) ∧ w.cell? ⟨p, 5, none⟩ = some (.slice none 0 0) ∧ bs.length ≤ 1048576 ∧ Rd w 5 A bs.length (bxl bs)
  | .nd r ks, p => ∃ A c ps, p < w.heap.size ∧ w.cell? ⟨p, 0, none⟩ = some (.int .i64 r.1.1) ∧ w.cell? ⟨p, 1, none⟩ = some (.int .i64 r.1.2) ∧ w.cell? ⟨p, 2, none⟩ = some (.int .i64 r.2.1) ∧ w.cell? ⟨p, 3, none⟩ = some (.int .i64 r.2.2) ∧ w.cell? ⟨p, 4, none⟩ = some (.slice none 0 0) ∧ w.cell? ⟨p, 5, none⟩ = some (.slice A ks.length c) ∧ ks.length ≤ 1048576 ∧ Rd w 1 A ks.length (ptc ps) ∧ TMs w ks ps
def TMs (w : World) : List Tr → List Nat → Prop
  | [], ps => ps = []
  | t :: ts, ps => ∃ p ps', ps = p :: ps' ∧ TM w t p ∧ TMs w ts ps'
end
mutual
theorem TM.ext {w w' : World} (e : Ext w w') : ∀ {t : Tr} {p : Nat}, TM w t p → TM w' t p
  | .lf r bs, p, h => by
    rw [TM] at h ⊢
    obtain ⟨A, c, h0, h1, h2, h3, h4, h5, h6, h7, h8⟩ := h
    exact ⟨A, c, Nat.lt_of_lt_of_le h0 e.size, e.cell' h1, e.cell' h2, e.cell' h3, e.cell' h4, e.cell' h5, e.cell' h6, h7, h8.ext e⟩
  | .nd r ks, p, h => by
    rw [TM] at h ⊢
    obtain ⟨A, c, ps, h0, h1, h2, h3, h4, h5, h6, h7, h8, h9⟩ := h
    exact ⟨A, c, ps, Nat.lt_of_lt_of_le h0 e.size, e.cell' h1, e.cell' h2, e.cell' h3, e.cell' h4, e.cell' h5, e.cell' h6, h7, h8.ext e, TMs.ext e h9⟩
theorem TMs.ext {w w' : World} (e : Ext w w') : ∀ {ts : List Tr} {ps : List Nat}, TMs w ts ps → TMs w' ts ps
  | [], ps, h => by rw [TMs] at h ⊢; exact h
  | t :: ts, ps, h => by
    rw [TMs] at h ⊢
    obtain ⟨p, ps', h1, h2, h3⟩ := h
    exact ⟨p, ps', h1, TM.ext e h2, TMs.ext e h3⟩
end
theorem TMs.get {w : World} : ∀ {ts : List Tr} {ps : List Nat}, TMs w ts ps → ps.length = ts.length ∧ ∀ j (h1 : j < ts.length) (h2 : j < ps.length), TM w ts[j] ps[j]
  | [], ps, h => by rw [TMs] at h; subst h; exact ⟨rfl, fun j h1 => by simp at h1⟩
  | t :: ts, ps, h => by
    rw [TMs] at h
    obtain ⟨p, ps', rfl, h2, h3⟩ := h
    have := TMs.get h3
    refine ⟨by simp [this.1], fun j h1 h2' => ?_⟩
    cases j with
    | zero => exact h2
    | succ j => exact this.2 j (by simpa using h1) (by simpa using h2')
theorem TMs.of {w : World} : ∀ {ts : List Tr} {ps : List Nat}, ps.length = ts.length → (∀ j (h1 : j < ts.length) (h2 : j < ps.length), TM w ts[j] ps[j]) → TMs w ts ps
  | [], ps, hl, _ => by rw [TMs]; exact List.eq_nil_of_length_eq_zero (by simpa using hl)
  | t :: ts, [], hl, _ => by simp at hl
  | t :: ts, p :: ps, hl, h => by
    rw [TMs]
    refine ⟨p, ps, rfl, h 0 (by simp) (by simp), TMs.of (by simpa using hl) fun j h1 h2 => ?_⟩
    exact h (j + 1) (by simpa using h1) (by simpa using h2)
theorem TM.rect {w : World} {t : Tr} {p : Nat} (h : TM w t p) : p < w.heap.size ∧ w.cell? ⟨p, 0, none⟩ = some (.int .i64 t.r.1.1) ∧ w.cell? ⟨p, 1, none⟩ = some (.int .i64 t.r.1.2) ∧ w.cell? ⟨p, 2, none⟩ = some (.int .i64 t.r.2.1) ∧ w.cell? ⟨p, 3, none⟩ = some (.int .i64 t.r.2.2) := by
  cases t with
  | lf r bs => rw [TM] at h; obtain ⟨A, c, h0, h1, h2, h3, h4, _⟩ := h; exact ⟨h0, h1, h2, h3, h4⟩
  | nd r ks => rw [TM] at h; obtain ⟨A, c, ps, h0, h1, h2, h3, h4, _⟩ := h; exact ⟨h0, h1, h2, h3, h4⟩
theorem ptc_length (ps : List Nat) : (ptc ps).length = ps.length := by simp [ptc]
theorem Rd.ptr {w : World} {A : Option Addr} {ps : List Nat} {n : Nat} (h : Rd w 1 A n (ptc ps)) {k : Nat} (hk : k < ps.length) : ∃ b o, A = some ⟨b, o, none⟩ ∧ b < w.heap.size ∧ w.cell? ⟨b, o + k, none⟩ = some (pt ps[k]) := by
  have hl := h.1
  rw [ptc_length] at hl
  obtain ⟨b, o, hA, hb, hc⟩ := h.2 (by omega)
  exact ⟨b, o, hA, hb, hc k _ (by simp [ptc, hk])⟩
/-- a part of a row -/
theorem Rd.part {w : World} {sz n b o : Nat} {xs : List Value} (h : Rd w sz (some ⟨b, o, none⟩) n xs) (i m : Nat) (hi : i + m ≤ n) : Rd w sz (some ⟨b, o + i * sz, none⟩) m ((xs.drop (i * sz)).take (m * sz)) := by
  have hl := h.1
  have h1 : (i + m) * sz ≤ n * sz := Nat.mul_le_mul_right _ hi
  rw [Nat.add_mul] at h1
  refine ⟨by simp; omega, fun hn => ?_⟩
  obtain ⟨b', o', hA, hb, hc⟩ := h.2 (by omega)
  simp only [Option.some.injEq, Addr.mk.injEq, and_true] at hA
  obtain ⟨rfl, rfl⟩ := hA
  refine ⟨b, o + i * sz, rfl, hb, fun j u hu => ?_⟩
  rw [List.getElem?_take] at hu
  split at hu
  · rw [List.getElem?_drop] at hu
    have := hc (i * sz + j) u hu
    rwa [← Nat.add_assoc] at this
  · cases hu
theorem fm_drop {α : Type} {enc : α → List Value} {k : Nat} (h : ∀ a, (enc a).length = k) : ∀ (l : List α) (i : Nat), (l.flatMap enc).drop (i * k) = (l.drop i).flatMap enc
  | l, 0 => by simp
  | [], i + 1 => by simp
  | a :: l, i + 1 => by
    rw [List.flatMap_cons, List.drop_append, h, Nat.add_mul, Nat.one_mul, List.drop_eq_nil_of_le (by rw [h]; omega), List.nil_append, Nat.add_sub_cancel, fm_drop h l i]
    rfl
theorem fm_take {α : Type} {enc : α → List Value} {k : Nat} (h : ∀ a, (enc a).length = k) : ∀ (l : List α) (i : Nat), (l.flatMap enc).take (i * k) = (l.take i).flatMap enc
  | l, 0 => by simp
  | [], i + 1 => by simp
  | a :: l, i + 1 => by
    rw [List.flatMap_cons, List.take_append, h, Nat.add_mul, Nat.one_mul, List.take_of_length_le (by rw [h]; omega), Nat.add_sub_cancel, fm_take h l i]
    rfl
theorem take_self {α : Type} (l : List α) (wd : Nat) : l.take (l.take wd).length = l.take wd := by rw [List.take_eq_take_iff, List.length_take]; omega
theorem Rd.boxes {w : World} {n b o : Nat} {l : List Bxs} (h : Rd w 5 (some ⟨b, o, none⟩) n (bxl l)) (hn : n = l.length) (i wd : Nat) (hi : i ≤ n) : Rd w 5 (some ⟨b, o + i * 5, none⟩) ((l.drop i).take wd).length (bxl ((l.drop i).take wd)) := by
  have := h.part i ((l.drop i).take wd).length (by simp; omega)
  unfold bxl at this ⊢
  rw [fm_drop (enc := encX) (k := 5) (fun _ => rfl), fm_take (enc := encX) (k := 5) (fun _ => rfl)] at this
  rwa [take_self] at this
theorem Rd.ptrs {w : World} {n b o : Nat} {ps : List Nat} (h : Rd w 1 (some ⟨b, o, none⟩) n (ptc ps)) (hn : n = ps.length) (i wd : Nat) (hi : i ≤ n) : Rd w 1 (some ⟨b, o + i, none⟩) ((ps.drop i).take wd).length (ptc ((ps.drop i).take wd)) := by
  have := h.part i ((ps.drop i).take wd).length (by simp; omega)
  unfold ptc at this ⊢
  rw [Nat.mul_one, Nat.mul_one, ← List.map_drop, ← List.map_take] at this
  rwa [take_self] at this
theorem chunk_len {α : Type} (l : List α) (i wd : Nat) : ((l.drop i).take wd).length = min wd (l.length - i) := by simp
theorem elNode : El Try.prog 90 84 (.pointer none) 1 8 := ⟨Try.underlying90, info_parts (by kernel_rfl), rfl, by decide⟩
theorem oneCell_pt (p : Nat) : ∀ u ∈ [pt p], u.oneCell' = true := by intro u hu; simp at hu; subst hu; rfl


theorem chunkBox_stops (m bs bn h B b o wd n c : Nat) (hwd : 1 ≤ wd) (hw2 : wd ≤ 64) (hn : n ≤ 1048576) (hc : n ≤ c) (hbs : bs < h) (hbn : bn < h) (nbs : bs ≠ B) (nbn : bn ≠ B) (w0 : World)
    (h1 : w0.cell? ⟨bs, 0, none⟩ = some (.slice (some ⟨b, o, none⟩) n c)) (h2 : w0.cell? ⟨bn, 0, none⟩ = some (.int .i64 wd)) :
    SeqStopsK Fence.wide (m + 1) Try.prog 91 #[.pointer (some ⟨bs, 0, none⟩), .pointer (some ⟨bn, 0, none⟩)] (encBox b o wd n) (But h B) (fun xs => xs.map Subtype.val = (List.range (nch wd n)).map (· * wd)) (fun _ => True) (nch wd n) w0 :=
  fun l J Jx W hW hJ _ hY h0 => chunkBox_in m l bs bn h B b o wd n c hwd hw2 hn hc hbs hbn nbs nbn J Jx (fun pre A A' hj hg => hJ pre A A' none hj hg (fun r e => by cases e)) hY W (Ext.cell' hW h1) (Ext.cell' hW h2) h0


theorem chunkNod_stops (m bs bn h B b o wd n c : Nat) (hwd : 1 ≤ wd) (hw2 : wd ≤ 64) (hn : n ≤ 1048576) (hc : n ≤ c) (hbs : bs < h) (hbn : bn < h) (nbs : bs ≠ B) (nbn : bn ≠ B) (w0 : World)
    (h1 : w0.cell? ⟨bs, 0, none⟩ = some (.slice (some ⟨b, o, none⟩) n c)) (h2 : w0.cell? ⟨bn, 0, none⟩ = some (.int .i64 wd)) :
    SeqStopsK Fence.wide (m + 1) Try.prog 93 #[.pointer (some ⟨bs, 0, none⟩), .pointer (some ⟨bn, 0, none⟩)] (encNod b o wd n) (But h B) (fun xs => xs.map Subtype.val = (List.range (nch wd n)).map (· * wd)) (fun _ => True) (nch wd n) w0 :=
  fun l J Jx W hW hJ _ hY h0 => chunkNod_in m l bs bn h B b o wd n c hwd hw2 hn hc hbs hbn nbs nbn J Jx (fun pre A A' hj hg => hJ pre A A' none hj hg (fun r e => by cases e)) hY W (Ext.cell' hW h1) (Ext.cell' hW h2) h0

end Go.Proofs.Ytahmkinppighkaa
