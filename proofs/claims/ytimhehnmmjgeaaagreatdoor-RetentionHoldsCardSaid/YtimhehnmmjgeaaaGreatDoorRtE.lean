/- Rows of versions with their contents; the stable sort on an owned row of versions. -/
import Derived.Test.YtimhehnmmjgeaaaGreatDoorRtD
import Derived.Test.YtimhehnmmjgeaaaGreatDoorRtV
import Derived.Test.YtimhehnmmjgeaaaGreatDoorStU
import Derived.Test.YtimhehnmmjgeaaaGreatDoorSrt
import Derived.Test.YtimhehnmmjgeaaaGreatDoorOw2
set_option linter.unusedSimpArgs false
set_option linter.unusedVariables false
namespace Go.Proofs.YtimhehnmmjgeaaaGreatDoor
open Go.Shelf Go.RowKit Go.Lib Go.Sort


/-- a version in memory beside its content -/
abbrev VP := Ver × PV
abbrev vsOf (Z : List VP) : List Ver := Z.map (·.1)
abbrev psOf (Z : List VP) : List PV := Z.map (·.2)
/-- each stands for its content; no row of values lies in the block 'ap' -/
def Vers (w : World) (ap : Option Nat) (Z : List VP) : Prop := ∀ z ∈ Z, VerIs w z.1 z.2 ∧ ∀ a, z.1.rA = some a → 0 < z.1.rn → some a.block ≠ ap
theorem Vers.ext {w w' : World} {ap : Option Nat} {Z : List VP} (h : Vers w ap Z) (e : Ext w w') : Vers w' ap Z := fun z hz => ⟨(h z hz).1.ext e, (h z hz).2⟩
theorem Rd.grown {w w' : World} {row : Option Nat} (hg : w.grownBy w' row) {sz n : Nat} {A : Option Addr} {xs : List Value} (h : Rd w sz A n xs) (hne : ∀ a, A = some a → 0 < n → some a.block ≠ row) : Rd w' sz A n xs := by
  refine ⟨h.1, fun hn => ?_⟩
  obtain ⟨b, o, hA, hb, hc⟩ := h.2 hn
  have hn0 : 0 < n := Nat.pos_of_ne_zero fun h0 => by subst h0; simp at hn
  exact ⟨b, o, hA, Nat.lt_of_lt_of_le hb hg.size, fun j u hu => hg.cell (hc j u hu) (show some b ≠ row from hne ⟨b, o, none⟩ hA hn0)⟩
theorem VerIs.grown {w w' : World} {row : Option Nat} (hg : w.grownBy w' row) {v : Ver} {p : PV} (h : VerIs w v p) (hne : ∀ a, v.rA = some a → 0 < v.rn → some a.block ≠ row) : VerIs w' v p := ⟨h.id, h.sch, h.r, h.by_, h.un, h.rn, h.row.grown hg hne⟩
theorem VerIs.lt {w : World} {v : Ver} {p : PV} (h : VerIs w v p) : ∀ a, v.rA = some a → 0 < v.rn → a.block < w.heap.size := by
  intro a ha hn
  obtain ⟨b, o, hA, hb, _⟩ := h.row.2 (by omega)
  rw [hA] at ha
  cases ha
  exact hb
/-- .. behind an append to the row -/
theorem Vers.app {w w' : World} {v v' : Value} {Z : List VP} (h : Vers w v.ownBlock Z) (hg : w.grownBy w' v.ownBlock) (hb : ∀ g, v'.ownBlock = some g → v.ownBlock = some g ∨ w.heap.size ≤ g) : Vers w' v'.ownBlock Z := fun z hz => by
  obtain ⟨h1, h2⟩ := h z hz
  refine ⟨h1.grown hg h2, fun a ha hn he => ?_⟩
  rcases hb _ he.symm with h3 | h3
  · exact h2 a ha hn h3.symm
  · have := h1.lt a ha hn
    omega
theorem Vers.snoc {w : World} {ap : Option Nat} {Z : List VP} (h : Vers w ap Z) {z : VP} (hz : VerIs w z.1 z.2) (ha : ∀ a, z.1.rA = some a → 0 < z.1.rn → some a.block ≠ ap) : Vers w ap (Z ++ [z]) := fun y hy => by
  rcases List.mem_append.1 hy with hy | hy
  · exact h y hy
  · obtain rfl := List.mem_singleton.1 hy
    exact ⟨hz, ha⟩
theorem Vers.at {w : World} {ap : Option Nat} {Z : List VP} (h : Vers w ap Z) {k : Nat} (hk : k < Z.length) : VerIs w Z[k].1 Z[k].2 := (h _ (List.getElem_mem hk)).1

theorem mrg_map {α β : Type} {lt : α → α → Bool} {lt' : β → β → Bool} (f : α → β) : ∀ (a b : List α), (∀ x ∈ a, ∀ y ∈ b, lt' (f y) (f x) = lt y x) → mrg lt' (a.map f) (b.map f) = (mrg lt a b).map f
  | [], b, _ => by rw [mrg_nil_left, List.map_nil, mrg_nil_left]
  | x :: a, [], _ => by rw [mrg_nil_right, List.map_nil, mrg_nil_right]
  | x :: a, y :: b, h => by
    have hh := h x (by simp) y (by simp)
    rw [List.map_cons, List.map_cons]
    cases hyx : lt y x with
    | true =>
      rw [mrg_lt hyx, mrg_lt (hh.trans hyx), List.map_cons, ← mrg_map f (x :: a) b fun u hu z hz => h u hu z (by simp [hz])]
      rfl
    | false =>
      rw [mrg_le hyx, mrg_le (hh.trans hyx), List.map_cons, ← mrg_map f a (y :: b) fun u hu z hz => h u (by simp [hu]) z hz]
      rfl
termination_by a b => a.length + b.length
theorem isort_map {α β : Type} {lt : α → α → Bool} {lt' : β → β → Bool} (f : α → β) (l : List α) (h : ∀ x ∈ l, ∀ y ∈ l, lt' (f y) (f x) = lt y x) : isort lt' (l.map f) = (isort lt l).map f := by
  suffices hh : ∀ n, ∀ l : List α, l.length = n → (∀ x ∈ l, ∀ y ∈ l, lt' (f y) (f x) = lt y x) → isort lt' (l.map f) = (isort lt l).map f from hh _ l rfl h
  intro n
  induction n with
  | zero => intro l hl _; obtain rfl := List.eq_nil_of_length_eq_zero hl; rfl
  | succ n ih =>
    intro l hl h
    rcases List.eq_nil_or_concat l with rfl | ⟨u, x, rfl⟩
    · simp at hl
    · rw [List.concat_eq_append] at hl h ⊢
      rw [List.map_append, List.map_cons, List.map_nil, isort_snoc, isort_snoc, ih u (by simpa using hl) fun x hx y hy => h x (by simp [hx]) y (by simp [hy])]
      rw [show [f x] = [x].map f from rfl]
      refine mrg_map f _ _ fun y hy z hz => ?_
      obtain rfl := List.mem_singleton.1 hz
      exact h y (List.mem_append_left _ ((isort_perm u).mem_iff.1 hy)) z (by simp)
def ltZ (x y : VP) : Bool := ltV x.2 y.2
def sortZ (Z : List VP) : List VP := isort ltZ Z
theorem sortZ_ps (Z : List VP) : psOf (sortZ Z) = isort ltV (psOf Z) := (isort_map (lt := ltZ) (lt' := ltV) (·.2) Z fun _ _ _ _ => rfl).symm
theorem sortZ_vs {w : World} {ap : Option Nat} {Z : List VP} (h : Vers w ap Z) : vsOf (sortZ Z) = isort (ltOf cfV) (vsOf Z) := by
  refine (isort_map (lt := ltZ) (lt' := ltOf cfV) (·.1) Z fun x hx y hy => ?_).symm
  have h1 := (h x hx).1
  have h2 := (h y hy).1
  unfold ltOf
  rw [cfV_neg, h1.id, h1.r, h2.id, h2.r]
  rfl
theorem sortZ_vers {w : World} {ap : Option Nat} {Z : List VP} (h : Vers w ap Z) : Vers w ap (sortZ Z) := fun z hz => h z ((isort_perm Z).mem_iff.1 hz)
theorem sortZ_length (Z : List VP) : (sortZ Z).length = Z.length := isort_length Z

theorem grown_sorted {w : World} {x : Add} {g : Nat} (F : Array Value) (m : Nat) (os : Array Obj) : (ext w x).grownBy (grow (putRow id (Go.Sort.ahead (ext w x) m) g 0 F) os) (some g) := by
  refine ⟨rfl, rfl, rfl, ?_, fun k hk hne => ?_⟩
  · simp [putRow, mapBlock, Go.Sort.ahead, grow]
  · have h1 : (grow (putRow id (Go.Sort.ahead (ext w x) m) g 0 F) os).heap[k]? = (putRow id (Go.Sort.ahead (ext w x) m) g 0 F).heap[k]? := by
      show ((putRow id (Go.Sort.ahead (ext w x) m) g 0 F).heap ++ os)[k]? = _
      rw [Array.getElem?_append_left]
      simp [putRow, mapBlock, Go.Sort.ahead]
      simpa using hk
    rw [h1]
    simp only [putRow, mapBlock, Go.Sort.ahead, Array.getElem?_modify]
    rw [if_neg (fun he => hne (by rw [he]))]

theorem ins_nil (A : Option Addr) (cap : Nat) (w : World) : Calls Tryz.prog 70 #[.slice A 0 cap, .int .i64 0, .int .i64 0, .func (.func 33) #[] #[]] w fun e w' => e = .returned (.tuple #[]) ∧ w' = w := by
  go_enter Tryz.func70, Tryz.ntmps70
  go_wp2
  go_loop [8] (fun s => s = .int .i64 1) (fun _ => 0)
  case atStart => rfl
  case round =>
    subst hrel
    go_wp2
    go_end0
    exact ⟨rfl, rfl⟩
theorem stable0_nil (A : Option Addr) (cap : Nat) (w : World) : Calls Tryz.prog 50 #[.slice A 0 cap, .int .i64 0, .func (.func 33) #[] #[]] w fun e w' => e = .returned (.tuple #[]) ∧ w' = w := by
  have H := Lib.hid (fun w => ins_nil A cap w)
  go_enter Tryz.func50, Tryz.ntmps50
  go_wp2
  go_loop [7, 8] (fun s7 s8 => s7 = .int .i64 0 ∧ s8 = .int .i64 20) (fun _ _ => 0)
  case atStart => exact ⟨rfl, rfl⟩
  case round =>
    obtain ⟨rfl, rfl⟩ := hrel
    go_wp2_with fail
    refine Calls.mono (H.out _) ?_
    rintro e w1 ⟨rfl, rfl⟩
    go_wp2
    go_loop [6, 7, 8] (fun s6 s7 s8 => s6 = .int .i64 20) (fun _ _ _ => 0)
    case atStart => rfl
    case round =>
      subst hrel
      go_wp2
      go_end0
      exact ⟨rfl, rfl⟩
theorem stable_nil (A : Option Addr) (cap : Nat) (w : World) : Calls Tryz.prog 32 #[.slice A 0 cap, .func (.func 33) #[] #[]] w fun e w' => e = .returned (.tuple #[]) ∧ w' = w := by
  have H := Lib.hid (fun w => stable0_nil A cap w)
  go_enter Tryz.func32, Tryz.ntmps32
  go_wp2_with fail
  refine Calls.mono (H.out _) ?_
  rintro e w1 ⟨rfl, rfl⟩
  go_wp2
  go_end0
  exact ⟨rfl, rfl⟩

set_option maxHeartbeats 1000000 in
/-- slices.SortStableFunc on an owned row of versions -/
theorem sortV (W : World) (x : Add) (A : Option Addr) (cap : Nat) (Z : List VP) (hZ : Vers (ext W x) (Value.ownBlock (.slice A Z.length cap)) Z) (ho : Own W x 49 9 (.slice A Z.length cap) Z.length (verc (vsOf Z))) (hl : Z.length < 1000000000000) :
    Calls Tryz.prog 32 #[.slice A Z.length cap, .func (.func 33) #[] #[]] (ext W x) fun e w' => e = .returned (.tuple #[]) ∧ ∃ x', w' = ext W x' ∧ Vers (ext W x') (Value.ownBlock (.slice A Z.length cap)) (sortZ Z) ∧ Own W x' 49 9 (.slice A Z.length cap) Z.length (verc (vsOf (sortZ Z))) := by
  rcases Nat.eq_zero_or_pos Z.length with h0 | h0
  · obtain rfl : Z = [] := List.eq_nil_of_length_eq_zero h0
    refine (stable_nil A cap (ext W x)).mono ?_
    rintro e w' ⟨rfl, rfl⟩
    exact ⟨rfl, x, rfl, hZ, ho⟩
  · obtain ⟨g, rfl, _⟩ := Own.at ho h0
    have hlen : Z.length = (vsOf Z).toArray.size := by simp [vsOf]
    have hF := flatK_toList encV 9 (fun _ => rfl) (vsOf Z).toArray
    rw [show (vsOf Z).toArray.toList = vsOf Z from by simp] at hF
    have hH : HoldsK encV 9 (ext W x) g 0 (vsOf Z).toArray := holds_own ho _ hF
    have hR : RowK encV 9 (ext W x) g 0 (vsOf Z).toArray := ⟨fun _ => rfl, oneCell_encV, hH, (ho.lt g rfl).2⟩
    have eg : ∀ args w, (callFunc 33 args).run Tryz.prog w = .ok (.enter 33 args) w := enters_of Tryz.func33 (by kernel_rfl) rfl
    have h := sortStable_any stF encV 33 #[] g 0 cap (vsOf Z).toArray (vsOf Z).toArray (ext W x) (ext W x) hR rfl (SWK.start hH) cfV eg (cmpV_lays g 0 _ (ext W x)) swoV (by simpa [vsOf] using hl)
    rw [← hlen] at h
    refine h.mono ?_
    rintro e w' ⟨rfl, d', hd', hdl, m, os, rfl⟩
    refine ⟨rfl, ?_⟩
    rw [show (vsOf Z).toArray.toList = vsOf Z from by simp, ← sortZ_vs hZ] at hdl
    obtain ⟨x', hx', ho'⟩ := own_sorted ho (flatK encV 9 d') (by rw [size_flatK, hd']) m os
    have hg : (ext W x).grownBy (ext W x') (some g) := by rw [← hx']; exact grown_sorted _ m os
    refine ⟨x', hx', fun z hz => ?_, ?_⟩
    · obtain ⟨h1, h2⟩ := sortZ_vers hZ z hz
      exact ⟨h1.grown hg h2, h2⟩
    · have e : verc (vsOf (sortZ Z)) = (flatK encV 9 d').toList := by rw [flatK_toList encV 9 (fun _ => rfl), hdl]; rfl
      rw [e]
      exact ho'

end Go.Proofs.YtimhehnmmjgeaaaGreatDoor
