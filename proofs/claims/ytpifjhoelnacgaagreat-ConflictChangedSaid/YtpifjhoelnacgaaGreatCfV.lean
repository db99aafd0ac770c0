/- Versions and marks in memory; at, differ of package conflict. -/
import Derived.Test.YtpifjhoelnacgaaGreatCfG
import Derived.Deep.RegionHeld3
set_option linter.unusedSimpArgs false
set_option linter.unusedVariables false
namespace Go.Proofs.YtpifjhoelnacgaaGreat
open Go.RowKit


/-- a version: the row as a slice value -/
structure Ve where
  id : Int
  sch : Int
  rA : Option Addr
  rn : Nat
  rc : Nat
  v : Int × Int
  s : Int × Int
  by_ : Int
  un : Int
deriving Inhabited
def ev (v : Ve) : List Value := [.int .i64 v.id, .int .i64 v.sch, .slice v.rA v.rn v.rc, .int .i64 v.v.1, .int .i64 v.v.2, .int .i64 v.s.1, .int .i64 v.s.2, .int .i64 v.by_, .int .i64 v.un]
abbrev evg (v : Ve) : Value := .agg #[.int .i64 v.id, .int .i64 v.sch, .slice v.rA v.rn v.rc, .int .i64 v.v.1, .int .i64 v.v.2, .int .i64 v.s.1, .int .i64 v.s.2, .int .i64 v.by_, .int .i64 v.un]
def evl (l : List Ve) : List Value := l.flatMap ev
theorem evl_length : ∀ (l : List Ve), (evl l).length = l.length * 9
  | [] => rfl
  | a :: l => by have := evl_length l; simp [evl, ev, Nat.add_mul] at *; omega
theorem evl_append (a b : List Ve) : evl (a ++ b) = evl a ++ evl b := by simp [evl]
theorem evl_one (a : Ve) : evl [a] = ev a := by simp [evl]
theorem oneCell_evl (l : List Ve) : ∀ u ∈ evl l, u.oneCell' = true := by
  intro u hu; obtain ⟨v, _, hv⟩ := List.mem_flatMap.1 hu; simp [ev] at hv; rcases hv with rfl | rfl | rfl | rfl | rfl | rfl | rfl | rfl | rfl <;> rfl
theorem elVe : El Tryz.prog 22 41 (.agg #[.int .i64 0, .int .i64 0, .slice none 0 0, .int .i64 0, .int .i64 0, .int .i64 0, .int .i64 0, .int .i64 0, .int .i64 0]) 9 88 := ⟨Tryz.underlying22, info_parts (by kernel_rfl), rfl, by decide⟩
theorem Rd.ve {w : World} {A : Option Addr} {l : List Ve} {n : Nat} (h : Rd w 9 A n (evl l)) (hn : n = l.length) {k : Nat} (hk : k < l.length) :
    ∃ b o, A = some ⟨b, o, none⟩ ∧ b < w.heap.size ∧ ∀ j u, (ev l[k])[j]? = some u → w.cell? ⟨b, o + k * 9 + j, none⟩ = some u := by
  obtain ⟨b, o, hA, hb, hc⟩ := h.2 (by omega)
  refine ⟨b, o, hA, hb, fun j u hu => ?_⟩
  have hj : j < 9 := by have := (List.getElem?_eq_some_iff.1 hu).1; simpa [ev] using this
  have := fmv_get ev 9 (fun _ => rfl) l k hk j hj
  rw [Nat.add_assoc]
  exact hc _ _ (this.trans hu)
/-- a mark -/
structure Mk where
  sch : Int
  A : Option Addr
  n : Nat
  c : Nat
  row : List Va
  k : Int
def mk3 (m : Mk) : List Value := [.int .i64 m.sch, .slice m.A m.n m.c, .int .i64 m.k]
def mkl (l : List Mk) : List Value := l.flatMap mk3
theorem mkl_length : ∀ (l : List Mk), (mkl l).length = l.length * 3
  | [] => rfl
  | a :: l => by have := mkl_length l; simp [mkl, mk3, Nat.add_mul] at *; omega
theorem mkl_append (a b : List Mk) : mkl (a ++ b) = mkl a ++ mkl b := by simp [mkl]
theorem mkl_one (a : Mk) : mkl [a] = mk3 a := by simp [mkl]
theorem oneCell_mkl (l : List Mk) : ∀ u ∈ mkl l, u.oneCell' = true := by
  intro u hu; obtain ⟨v, _, hv⟩ := List.mem_flatMap.1 hu; simp [mk3] at hv; rcases hv with rfl | rfl | rfl <;> rfl
theorem elMk : El Tryz.prog 66 68 (.agg #[.int .i64 0, .slice none 0 0, .int .i64 0]) 3 40 := ⟨Tryz.underlying66, info_parts (by kernel_rfl), rfl, by decide⟩
theorem Rd.mk {w : World} {A : Option Addr} {l : List Mk} {n : Nat} (h : Rd w 3 A n (mkl l)) (hn : n = l.length) {k : Nat} (hk : k < l.length) :
    ∃ b o, A = some ⟨b, o, none⟩ ∧ b < w.heap.size ∧ w.cell? ⟨b, o + k * 3, none⟩ = some (.int .i64 l[k].sch) ∧ w.cell? ⟨b, o + k * 3 + 1, none⟩ = some (.slice l[k].A l[k].n l[k].c) ∧ w.cell? ⟨b, o + k * 3 + 2, none⟩ = some (.int .i64 l[k].k) := by
  obtain ⟨b, o, hA, hb, hc⟩ := h.2 (by omega)
  have f := fun j hj => fmv_get mk3 3 (fun _ => rfl) l k hk j hj
  exact ⟨b, o, hA, hb, hc _ _ (f 0 (by omega)), hc _ _ (f 1 (by omega)), hc _ _ (f 2 (by omega))⟩
def Mk.key (m : Mk) : Int × List Va := (m.sch, m.row)
/-- count one -/
def addM : List Mk → Mk → List Mk
  | [], x => [x]
  | m :: l, x => if m.key = x.key then { m with k := m.k + x.k } :: l else m :: addM l x
theorem addM_end {l : List Mk} {x : Mk} (h : ∀ m ∈ l, m.key ≠ x.key) : addM l x = l ++ [x] := by
  induction l with
  | nil => rfl
  | cons m l ih => rw [addM, if_neg (h m (by simp)), ih fun y hy => h y (by simp [hy])]; rfl
theorem addM_at {l : List Mk} {x : Mk} : ∀ {k : Nat} (hk : k < l.length), (∀ m ∈ l.take k, m.key ≠ x.key) → l[k].key = x.key → addM l x = l.set k { l[k] with k := l[k].k + x.k } := by
  induction l with
  | nil => intro k hk; simp at hk
  | cons m l ih =>
    intro k hk h1 h2
    cases k with
    | zero =>
      have h3 : m.key = x.key := h2
      rw [addM, if_pos h3]; rfl
    | succ k =>
      rw [addM, if_neg (h1 m (by simp)), ih (by simpa using hk) (fun y hy => h1 y (by simp [hy])) h2]
      rfl
theorem mkl_set (l : List Mk) (z : Int) : ∀ (k : Nat) (hk : k < l.length), (mkl l).set (k * 3 + 2) (.int .i64 z) = mkl (l.set k { l[k] with k := z }) := by
  induction l with
  | nil => intro k hk; simp at hk
  | cons m l ih =>
    intro k hk
    cases k with
    | zero => simp [mkl, mk3]
    | succ k =>
      have := ih k (by simpa using hk)
      simp only [List.set_cons_succ, List.getElem_cons_succ]
      have e : mkl (m :: l) = mk3 m ++ mkl l := rfl
      rw [e, List.set_append_right _ _ (by simp [mk3]; omega)]
      show mk3 m ++ _ = mk3 m ++ mkl (l.set k _)
      rw [← this, show (k + 1) * 3 + 2 - (mk3 m).length = k * 3 + 2 by simp [mk3]; omega]
theorem cmpI_zero {a b : Int} : cmpI a b = 0 ↔ a = b := ⟨fun h => by rcases Classical.em (a = b) with e | e; exact e; exact absurd h (cmpI_ne e), cmpI_eq⟩
theorem cb_zero {x y : List UInt8} : Lib.compareBytes x y = 0 ↔ x = y := by
  rw [cb_spec, bytesLess_eq]
  constructor
  · intro h
    split at h
    · cases h
    · split at h
      · assumption
      · cases h
  · rintro rfl; rw [if_neg (by simp [lt_irr]), if_pos rfl]
theorem cmpV_zero {a b : Va} : cmpV a b = 0 ↔ a = b := by
  unfold cmpV
  simp only [orF]
  constructor
  · intro h
    split at h
    · rename_i h1
      split at h
      · rename_i h2
        split at h
        · rename_i h3
          obtain ⟨ak, ai, at'⟩ := a; obtain ⟨bk, bi, bt⟩ := b
          rw [cmpI_zero] at h1 h2
          rw [cb_zero] at h3
          simp only at h1 h2 h3
          have : at' = bt := ByteArray.ext (Array.toList_inj.1 h3)
          rw [h1, h2, this]
        · rename_i h3; exact absurd h h3
      · rename_i h2; exact absurd h h2
    · rename_i h1; exact absurd h h1
  · rintro rfl
    rw [if_pos (cmpI_zero.2 rfl), if_pos (cmpI_zero.2 rfl), if_pos (cb_zero.2 rfl)]
theorem cmpR_zero : ∀ {a b : List Va}, cmpR a b = 0 ↔ a = b
  | [], [] => by simp [cmpR]
  | [], _ :: _ => by simp [cmpR]
  | _ :: _, [] => by simp [cmpR]
  | x :: a, y :: b => by
    by_cases h : cmpV x y = 0
    · rw [cmpR_eq h, cmpR_zero, cmpV_zero.1 h]; simp
    · rw [cmpR_ne h]
      constructor
      · intro h2; exact absurd h2 h
      · intro h2; cases h2; exact absurd (cmpV_zero.2 rfl) h
theorem tequal_any (A B : Option Addr) (n m c d : Nat) (a b : List Va) (w : World) (hn : n = a.length) (hm : m = b.length) (hA : Rd w 3 A n (vcl a)) (hB : Rd w 3 B m (vcl b)) (na : a.length ≤ 9223372036854775807) (nb : b.length ≤ 9223372036854775807) :
    Calls Tryz.prog 39 #[.slice A n c, .slice B m d] w fun e w' => e = .returned (.bool (decide (a = b))) ∧ Ext w w' := by
  subst hn hm
  have H := Lib.hid (tcmp_any A B c d a b w hA hB na nb)
  have HZ : Hid (decide (a = b) = (cmpR a b == 0)) := Lib.hid (by rw [Bool.eq_iff_iff]; simp [cmpR_zero])
  generalize cmpR a b = z at H HZ
  generalize decide (a = b) = r at HZ ⊢
  clear hA hB na nb
  go_enter Tryz.func39, Tryz.ntmps39
  go_wp2_with (go_at_call 54; refine Calls.mono H.out ?_; rintro e w1 ⟨rfl, hb1⟩)
  go_ret
  exact ⟨by rw [HZ.out]; rfl, hb1⟩

end Go.Proofs.YtpifjhoelnacgaaGreat
