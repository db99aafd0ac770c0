/- The contracts of predicate.Conditions, of slices.IndexFunc with the closure of access.prefix, and of access.prefix. -/
import Derived.Test.YtflhikpihbenaaaGreatEch
set_option linter.unusedSimpArgs false
set_option linter.unusedVariables false
namespace Go.Proofs.YtflhikpihbenaaaGreat
open Go.RowKit

set_option maxHeartbeats 1600000 in
theorem conditions_any (o i : Int) (v : Va) (nm : ByteArray) (A : Option Addr) (args : List Ex) (c : Nat) (css : List (List Value)) (w : World) (hR : Rd w 7 A args.length css.flatten) (hs : REs w args css) (hl : args.length ≤ 9223372036854775807) (hb : (conds (.mk o i v nm args)).length ≤ 1048576) :
    Calls Tryz.prog 48 #[exag o i v nm A args.length c] w fun e w' => ∃ v', e = .returned v' ∧ Ext w w' ∧ w'.ownsRow w.heap.size 96 5 v' (conds (.mk o i v nm args)).length (cdc (conds (.mk o i v nm args))) := by
  obtain ⟨w0, hw0⟩ : ∃ w0, w0 = w.alloc (.cells #[.int .i64 o, .int .i64 i, .int .i64 v.k, .int .i64 v.i, .string v.t, .string nm, .slice A args.length c] 31) := ⟨_, rfl⟩
  have hE : Ext w w0 := by rw [hw0]; exact Ext.al1 _ _
  have hsz : w0.heap.size = w.heap.size + 1 := by rw [hw0]; simp
  obtain ⟨x0, hx0⟩ := (Ext.refl' (w0.alloc (.cells #[.slice none 0 0] 92))).get
  have HE := Lib.hid (each_any (w.heap.size + 1) w0 hsz 0 (szs args) o i v nm A args c css x0 (.slice none 0 0) [] (Nat.le_refl _) (hR.ext hE) (REs.ext hE hs) hl (own_nil _ _ _ _) (by simpa using hb))
  rw [← hx0, List.nil_append] at HE
  have HSZ := Lib.hid hsz
  subst hw0
  clear hx0 hsz hb
  generalize conds (.mk o i v nm args) = cs at HE ⊢
  go_enter Tryz.func48, Tryz.ntmps48
  go_wp2_with (go_at_call 68; (refine HE.out.mono ?_; rintro e w1 ⟨rfl, v', x', rfl, hown'⟩; obtain ⟨A', c', rfl, he1, he2⟩ := Own.form hown'))
  go_ret
  exact ⟨_, rfl, by repeat (first | exact Ext.refl' _ | assumption | apply Ext.ex' | apply Ext.al | apply Ext.drN | apply Ext.dr), own_mono hown' (by (try simp); (try omega))⟩

theorem flatMap_get {α : Type} (g : α → List Value) (sz : Nat) (hg : ∀ a, (g a).length = sz) : ∀ (l : List α) (k : Nat) (hk : k < l.length) (j : Nat), j < sz → (l.flatMap g)[k * sz + j]? = (g l[k])[j]?
  | [], k, hk, j, _ => by simp at hk
  | a :: l, 0, hk, j, hj => by
    rw [List.flatMap_cons, Nat.zero_mul, Nat.zero_add, List.getElem?_append_left (by rw [hg]; exact hj)]; rfl
  | a :: l, k + 1, hk, j, hj => by
    have := flatMap_get g sz hg l k (by simpa using hk) j hj
    rw [List.flatMap_cons, List.getElem?_append_right (by rw [hg, Nat.add_mul]; omega), List.getElem_cons_succ, ← this, hg, Nat.add_mul]
    congr 1
    omega
theorem Rd.elem {α : Type} {g : α → List Value} {w : World} {A : Option Addr} {l : List α} {sz n : Nat} (h : Rd w sz A n (l.flatMap g)) (hg : ∀ a, (g a).length = sz) (hsz : 0 < sz) (hn : n = l.length) {k : Nat} (hk : k < l.length) :
    ∃ b o, A = some ⟨b, o, none⟩ ∧ b < w.heap.size ∧ ∀ j u, (g l[k])[j]? = some u → w.cell? ⟨b, o + (k * sz + j), none⟩ = some u := by
  obtain ⟨b, o, hA, hb, hc⟩ := h.2 (Nat.mul_pos (by omega) hsz)
  refine ⟨b, o, hA, hb, fun j u hu => hc _ _ ?_⟩
  rw [flatMap_get g sz hg l k hk j (by have := (List.getElem?_eq_some_iff.1 hu).1; rw [hg] at this; exact this)]
  exact hu
theorem Rd.cond {w : World} {A : Option Addr} {l : List Cd} {n : Nat} (h : Rd w 5 A n (cdc l)) (hn : n = l.length) {k : Nat} (hk : k < l.length) :
    ∃ b o, A = some ⟨b, o, none⟩ ∧ b < w.heap.size ∧ w.cell? ⟨b, o + k * 5, none⟩ = some (.int .i64 l[k].op) ∧ w.cell? ⟨b, o + k * 5 + 1, none⟩ = some (.int .i64 l[k].col) ∧ w.cell? ⟨b, o + k * 5 + 2, none⟩ = some (.int .i64 l[k].v.k) ∧ w.cell? ⟨b, o + k * 5 + 3, none⟩ = some (.int .i64 l[k].v.i) ∧ w.cell? ⟨b, o + k * 5 + 4, none⟩ = some (.string l[k].v.t) := by
  obtain ⟨b, o, hA, hb, hc⟩ := Rd.elem h (fun _ => rfl) (by decide) hn hk
  exact ⟨b, o, hA, hb, hc 0 _ rfl, hc 1 _ rfl, hc 2 _ rfl, hc 3 _ rfl, hc 4 _ rfl⟩

def isEq (k : Int) (c : Cd) : Bool := c.op == 7 && c.col == k

set_option maxHeartbeats 800000 in
theorem preclos_any (cd : Cd) (kb : Nat) (k : Int) (w : World) (hk : w.cell? ⟨kb, 0, none⟩ = some (.int .i64 k)) (hkb : kb < w.heap.size) :
    Calls Tryz.prog 50 #[cdag cd, .pointer (some ⟨kb, 0, none⟩)] w fun e w' => e = .returned (.bool (isEq k cd)) ∧ Ext w w' := by
  go_enter Tryz.func50, Tryz.ntmps50
  go_wp2
  all_goals go_ret
  all_goals refine ⟨?_, by repeat (first | exact Ext.refl' _ | assumption | apply Ext.ex' | apply Ext.al | apply Ext.drN | apply Ext.dr)⟩
  all_goals simp_all [isEq]

/-- the first equation of column k, from place j on -/
def idxF (k : Int) : Nat → List Cd → Int
  | _, [] => -1
  | j, c :: l => if isEq k c then (j : Int) else idxF k (j + 1) l

set_option maxHeartbeats 800000 in
theorem index_any (A : Option Addr) (c : Nat) (l : List Cd) (kb : Nat) (k : Int) (w : World) (hR : Rd w 5 A l.length (cdc l)) (hl : l.length ≤ 9223372036854775807) (hk : w.cell? ⟨kb, 0, none⟩ = some (.int .i64 k)) (hkb : kb < w.heap.size) :
    Calls Tryz.prog 49 #[.slice A l.length c, .func (.func 50) #[] #[.pointer (some ⟨kb, 0, none⟩)]] w fun e w' => e = .returned (.int .i64 (idxF k 0 l)) ∧ Ext w w' := by
  go_enter Tryz.func49, Tryz.ntmps49
  go_wp2
  go_loopw [8] (fun i wr => ∃ j : Nat, j ≤ l.length ∧ i = .int .i64 j ∧ Hid (idxF k 0 l = idxF k j (l.drop j)) ∧ Ext w wr) (fun i _ => l.length - (intOf i).toNat)
  case atStart => exact ⟨0, Nat.zero_le _, rfl, Lib.hid rfl, Ext.refl' _⟩
  case round =>
    obtain ⟨j, hj, rfl, HC, hext⟩ := hrel
    obtain ⟨x, rfl⟩ := hext.get
    clear hext
    by_cases hlt : j < l.length
    · obtain ⟨b, o, rfl, hb, c0, c1, c2, c3, c4⟩ := hR.cond rfl hlt
      have HD : Hid (idxF k 0 l = idxF k j (l[j] :: l.drop (j + 1))) := Lib.hid (by rw [HC.out, List.drop_eq_getElem_cons hlt])
      clear HC
      generalize l[j] = cd at c0 c1 c2 c3 c4 HD
      have HK : Hid ((ext w x).cell? ⟨kb, 0, none⟩ = some (.int .i64 k)) := Lib.hid (cell_ex hk)
      have HKB : Hid (kb < (ext w x).heap.size) := Lib.hid (by simp; omega)
      rcases hq : isEq k cd with _ | _
      · have H0 : Hid (idxF k 0 l = idxF k (j + 1) (l.drop (j + 1))) := Lib.hid (by rw [HD.out, idxF, hq]; rfl)
        clear HD
        go_wp2_with (go_at_call 50; (refine (preclos_any cd kb k _ HK.out HKB.out).mono ?_; rintro e w1 ⟨rfl, hb1⟩; obtain ⟨x1, rfl⟩ := hb1.get; clear hb1))
        go_roundw
        case rel => go_light; exact ⟨j + 1, by omega, by go_num, H0, by repeat (first | exact Ext.refl' _ | assumption | apply Ext.ex' | apply Ext.al | apply Ext.drN | apply Ext.dr)⟩
        case measure => go_light; simp [intOf]; omega
      · have H0 : Hid (idxF k 0 l = (j : Int)) := Lib.hid (by rw [HD.out, idxF, hq]; rfl)
        clear HD
        go_wp2_with (go_at_call 50; (refine (preclos_any cd kb k _ HK.out HKB.out).mono ?_; rintro e w1 ⟨rfl, hb1⟩; obtain ⟨x1, rfl⟩ := hb1.get; clear hb1))
        go_ret
        exact ⟨by rw [H0.out]; rfl, by repeat (first | exact Ext.refl' _ | assumption | apply Ext.ex' | apply Ext.al | apply Ext.drN | apply Ext.dr)⟩
    · have H0 : Hid (idxF k 0 l = -1) := Lib.hid (by rw [HC.out, List.drop_eq_nil_of_le (Nat.le_of_not_lt hlt)]; rfl)
      clear HC
      go_wp2
      go_ret
      exact ⟨by rw [H0.out]; rfl, by repeat (first | exact Ext.refl' _ | assumption | apply Ext.ex' | apply Ext.al | apply Ext.drN | apply Ext.dr)⟩

/-- the values that equations give to the first columns -/
def prefF (cs : List Cd) : List Int → List Va
  | [] => []
  | k :: ks => match cs.find? (isEq k) with
    | none => []
    | some c => c.v :: prefF cs ks
theorem idx_none {k : Int} : ∀ {l : List Cd} {j : Nat}, l.find? (isEq k) = none → idxF k j l = -1
  | [], j, _ => rfl
  | c :: l, j, h => by
    rw [List.find?_cons] at h
    split at h
    · cases h
    · rename_i hq
      rw [idxF, hq]
      exact idx_none h
theorem idx_some {k : Int} {cd : Cd} : ∀ {l : List Cd} {j : Nat}, l.find? (isEq k) = some cd → ∃ m, ∃ h : m < l.length, idxF k j l = ((j + m : Nat) : Int) ∧ l[m] = cd
  | [], j, h => by cases h
  | c :: l, j, h => by
    rw [List.find?_cons] at h
    split at h
    · rename_i hq
      cases h
      exact ⟨0, by simp, by rw [idxF, hq]; rfl, rfl⟩
    · rename_i hq
      obtain ⟨m, hm, h1, h2⟩ := idx_some (j := j + 1) h
      refine ⟨m + 1, by simpa using hm, ?_, by simpa using h2⟩
      rw [idxF, hq]
      simp only [Bool.false_eq_true, if_false, h1]
      congr 1
      omega
theorem prefF_length (cs : List Cd) : ∀ ks : List Int, (prefF cs ks).length ≤ ks.length
  | [] => by simp [prefF]
  | k :: ks => by
    have := prefF_length cs ks
    rw [prefF]
    split <;> simp; omega

/-- the cells of values -/
def vcs (l : List Va) : List Value := l.flatMap vc
theorem oneCell_vcs (l : List Va) : ∀ u ∈ vcs l, u.oneCell' = true := by
  intro u hu
  simp only [vcs, List.mem_flatMap, vc] at hu
  obtain ⟨c, _, hc⟩ := hu
  simp at hc
  rcases hc with rfl | rfl | rfl <;> rfl
theorem elVal : El Tryz.prog 36 29 (.agg #[.int .i64 0, .int .i64 0, .string ⟨#[]⟩]) 3 32 := ⟨Tryz.underlying36, info_parts (by kernel_rfl), rfl, by decide⟩

set_option maxHeartbeats 4000000 in
theorem prefix_any (t0 t1 t3 t4 : Value) (K : Option Addr) (ks : List Int) (kc : Nat) (o i : Int) (v : Va) (nm : ByteArray) (A : Option Addr) (args : List Ex) (c : Nat) (css : List (List Value)) (w : World) (ht0 : ∃ s, t0 = .string s) (ht1 : ∃ a n c, t1 = .slice a n c) (ht3 : ∃ a n c, t3 = .slice a n c) (ht4 : ∃ a n c, t4 = .slice a n c)
    (hK : Rd w 1 K ks.length (ic ks)) (hkl : ks.length ≤ 1048576) (hR : Rd w 7 A args.length css.flatten) (hs : REs w args css) (hl : args.length ≤ 9223372036854775807) (hb : (conds (.mk o i v nm args)).length ≤ 1048576) :
    Calls Tryz.prog 23 #[.agg #[t0, t1, .slice K ks.length kc, t3, t4], exag o i v nm A args.length c] w fun e w' => ∃ v', e = .returned v' ∧ Ext w w' ∧ w'.ownsRow w.heap.size 29 3 v' (prefF (conds (.mk o i v nm args)) ks).length (vcs (prefF (conds (.mk o i v nm args)) ks)) := by
  obtain ⟨s0, rfl⟩ := ht0
  obtain ⟨a1, n1, m1, rfl⟩ := ht1
  obtain ⟨a3, n3, m3, rfl⟩ := ht3
  obtain ⟨a4, n4, m4, rfl⟩ := ht4
  have HC := Lib.hid (fun w h1 h2 => conditions_any o i v nm A args c css w h1 h2 hl hb)
  generalize conds (.mk o i v nm args) = cs at HC hb ⊢
  go_enter Tryz.func23, Tryz.ntmps23
  go_wp2_with (go_at_call 48; (refine (HC.out _ (hR.ext (by repeat (first | exact Ext.refl' _ | assumption | apply Ext.ex' | apply Ext.al | apply Ext.drN | apply Ext.dr))) (REs.ext (by repeat (first | exact Ext.refl' _ | assumption | apply Ext.ex' | apply Ext.al | apply Ext.drN | apply Ext.dr)) hs)).mono ?_; rintro e w1 ⟨v1, rfl, hb1, ho1⟩; obtain ⟨x1, rfl⟩ := hb1.get; obtain ⟨A1, c1, rfl, hd1, hd2⟩ := Own.form ho1; have hR1 := Rd.of_own ho1; clear hb1 ho1 hd1 hd2))
  have hE1 : Ext w (ext ((w.alloc (.cells #[.string s0, .slice a1 n1 m1, .slice K ks.length kc, .slice a3 n3 m3, .slice a4 n4 m4] 27)).alloc (.cells #[.int .i64 o, .int .i64 i, .int .i64 v.k, .int .i64 v.i, .string v.t, .string nm, .slice A args.length c] 31)) x1) := (by repeat (first | exact Ext.refl' _ | assumption | apply Ext.ex' | apply Ext.al | apply Ext.drN | apply Ext.dr))
  generalize ext ((w.alloc (.cells #[.string s0, .slice a1 n1 m1, .slice K ks.length kc, .slice a3 n3 m3, .slice a4 n4 m4] 27)).alloc (.cells #[.int .i64 o, .int .i64 i, .int .i64 v.k, .int .i64 v.i, .string v.t, .string nm, .slice A args.length c] 31)) x1 = W1 at hR1 hE1 ⊢
  have hK1 := hK.ext hE1
  have HCL : Hid (cs.length ≤ 9223372036854775807) := Lib.hid (by omega)
  go_loopw [6, 15] (fun out i wr => ∃ (k : Nat) (acc : List Va), k ≤ ks.length ∧ i = .int .i64 k ∧ acc.length ≤ k ∧ Hid (prefF cs ks = acc ++ prefF cs (ks.drop k)) ∧ Ext W1 wr ∧ wr.ownsRow W1.heap.size 29 3 out acc.length (vcs acc)) (fun _ i _ => ks.length - (intOf i).toNat)
  case atStart => exact ⟨0, [], Nat.zero_le _, rfl, Nat.zero_le _, Lib.hid rfl, Ext.refl' _, World.ownsRow_nil _ _ _ _⟩
  case round =>
    obtain ⟨k, acc, hk, rfl, hal, HC, hext, hown⟩ := hrel
    obtain ⟨x, rfl⟩ := hext.get
    clear hext
    by_cases hlt : k < ks.length
    · obtain ⟨b, o', rfl, hb', hc1⟩ := hK1.int hlt
      have HD := HC.out
      rw [List.drop_eq_getElem_cons hlt, prefF] at HD
      generalize ks[k] = kk at hc1 HD
      cases hf : cs.find? (isEq kk) with
      | none =>
        rw [hf, List.append_nil] at HD
        have HI := idx_none (j := 0) hf
        have H0 := Lib.hid HD
        clear HC HD hf
        go_wp2_with (go_at_call 49; (refine (index_any A1 c1 cs (W1.heap.size + x.n) kk _ (hR1.ext (by repeat (first | exact Ext.refl' _ | assumption | apply Ext.ex' | apply Ext.al | apply Ext.drN | apply Ext.dr))) HCL.out (by simp [go_sem, ↓IntWalk.iteOmega]) (by simp)).mono ?_; rintro e w1 ⟨rfl, hb2⟩; obtain ⟨x2, rfl⟩ := hb2.get; clear hb2))
        go_ret
        exact ⟨_, rfl, hE1.tr (by repeat (first | exact Ext.refl' _ | assumption | apply Ext.ex' | apply Ext.al | apply Ext.drN | apply Ext.dr)), by rw [H0.out]; exact own_mono (by repeat (first | exact hown | apply own_ext | apply World.ownsRow.alloc | apply World.ownsRow.drew)) hE1.size⟩
      | some cd =>
        rw [hf] at HD
        simp only at HD
        obtain ⟨m, hm, HI, hcd⟩ := idx_some (j := 0) hf
        rw [Nat.zero_add] at HI
        obtain ⟨bb, oo, rfl, hbb, d0, d1, d2, d3, d4⟩ := hR1.cond rfl hm
        rw [hcd] at d0 d1 d2 d3 d4
        have H0 : Hid (prefF cs ks = (acc ++ [cd.v]) ++ prefF cs (ks.drop (k + 1))) := Lib.hid (by rw [HD]; simp)
        have HMX : Hid (acc.length + 1 ≤ maxLen) := Lib.hid (by unfold maxLen; omega)
        have HBY : Hid ((acc.length + 1) * 32 ≤ 140737488355328) := Lib.hid (by omega)
        clear HC HD hf hcd d0 d1
        go_wp2_with (first
          | (go_at_call 49; (refine (index_any _ c1 cs (W1.heap.size + x.n) kk _ (hR1.ext (by repeat (first | exact Ext.refl' _ | assumption | apply Ext.ex' | apply Ext.al | apply Ext.drN | apply Ext.dr))) HCL.out (by simp [go_sem, ↓IntWalk.iteOmega]) (by simp)).mono ?_; rintro e w1 ⟨rfl, hb2⟩; obtain ⟨x2, rfl⟩ := hb2.get; clear hb2))
          | (at_builtin; (refine wpList_app _ rfl (.tmp 24) (.tmp 30) rfl elVal W1 (by repeat (first | exact Ext.refl' _ | assumption | apply Ext.ex' | apply Ext.al | apply Ext.drN | apply Ext.dr)) _ acc.length (vcs acc) rfl (by repeat (first | exact hown | apply own_ext | apply World.ownsRow.alloc | apply World.ownsRow.drew)) _ 1 1 (vcs [cd.v]) rfl (Rd.lit _ #[.int .i64 cd.v.k, .int .i64 cd.v.i, .string cd.v.t] _ 1 3 rfl (by simp [size_ext])) (oneCell_vcs [cd.v]) HMX.out HBY.out ?_; intro v' x' hown' hg; have HO := Lib.hid hown'; clear hg hown')))
        go_roundw
        case rel =>
          go_light
          exact ⟨k + 1, acc ++ [cd.v], by omega, by go_num, by simp; omega, H0, by repeat (first | exact Ext.refl' _ | assumption | apply Ext.ex' | apply Ext.al | apply Ext.drN | apply Ext.dr), by simpa [vcs] using HO.out⟩
        case measure => go_light; simp [intOf]; omega
    · have H0 : Hid (prefF cs ks = acc) := Lib.hid (by rw [HC.out, List.drop_eq_nil_of_le (Nat.le_of_not_lt hlt), prefF, List.append_nil])
      clear HC
      go_wp2
      go_ret
      exact ⟨_, rfl, hE1.tr (by repeat (first | exact Ext.refl' _ | assumption | apply Ext.ex' | apply Ext.al | apply Ext.drN | apply Ext.dr)), by rw [H0.out]; exact own_mono hown hE1.size⟩
end Go.Proofs.YtflhikpihbenaaaGreat
