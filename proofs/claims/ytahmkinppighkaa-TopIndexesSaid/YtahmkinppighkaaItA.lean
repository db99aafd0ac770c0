/- The interval tree in memory: its nodes; levels, last, measure, compare. -/
import Derived.Test.YtahmkinppighkaaItP
import Derived.Deep.RegionHeld3
import Derived.Deep.LoopGhost
set_option linter.unusedSimpArgs false
set_option linter.unusedVariables false
namespace Go.Proofs.Ytahmkinppighkaa
open Go.RowKit


def ptI (b : Nat) : Value := .pointer (some ⟨b, 0, none⟩)
/-- the cells of a node -/
def ndc (x : It) (L R : Value) (h e : Int) : Array Value := #[.int .i64 x.1.1, .int .i64 x.1.2, .int .i64 x.2, L, R, .int .i64 h, .int .i64 e]
/-- a node in memory -/
def NdI (w : World) (b : Nat) (x : It) (L R : Value) (h e : Int) : Prop := w.heap[b]? = some (.cells (ndc x L R h e) 112 (0, 0))
structure NdF (w : World) (b : Nat) (x : It) (L R : Value) (h e : Int) : Prop where
  lt : b < w.heap.size
  c0 : w.cell? ⟨b, 0, none⟩ = some (.int .i64 x.1.1)
  c1 : w.cell? ⟨b, 1, none⟩ = some (.int .i64 x.1.2)
  c2 : w.cell? ⟨b, 2, none⟩ = some (.int .i64 x.2)
  c3 : w.cell? ⟨b, 3, none⟩ = some L
  c4 : w.cell? ⟨b, 4, none⟩ = some R
  c5 : w.cell? ⟨b, 5, none⟩ = some (.int .i64 h)
  c6 : w.cell? ⟨b, 6, none⟩ = some (.int .i64 e)
  f3 : w.frozen? ⟨b, 3, none⟩ = false
  f4 : w.frozen? ⟨b, 4, none⟩ = false
  f5 : w.frozen? ⟨b, 5, none⟩ = false
  f6 : w.frozen? ⟨b, 6, none⟩ = false
theorem NdI.f {w : World} {b : Nat} {x : It} {L R : Value} {h e : Int} (k : NdI w b x L R h e) : NdF w b x L R h e := by
  have k' : w.heap[b]? = some (.cells (ndc x L R h e) 112 (0, 0)) := k
  refine ⟨(Array.getElem?_eq_some_iff.1 k').1, ?_, ?_, ?_, ?_, ?_, ?_, ?_, ?_, ?_, ?_, ?_⟩ <;> simp [World.cell?, World.frozen?, k', ndc]
/-- since w only blocks of S have turned, and there are more -/
structure Chg (S : List Nat) (w w' : World) : Prop where
  os : w'.os = w.os
  tape : w'.tape = w.tape
  output : w'.output = w.output
  size : w.heap.size ≤ w'.heap.size
  same : ∀ k, k < w.heap.size → k ∉ S → w'.heap[k]? = w.heap[k]?
theorem Chg.refl (S : List Nat) (w : World) : Chg S w w := ⟨rfl, rfl, rfl, Nat.le_refl _, fun _ _ _ => rfl⟩
theorem Chg.tr {S : List Nat} {a b c : World} (h : Chg S a b) (k : Chg S b c) : Chg S a c :=
  ⟨k.os.trans h.os, k.tape.trans h.tape, k.output.trans h.output, Nat.le_trans h.size k.size, fun j hj hn => (k.same j (Nat.lt_of_lt_of_le hj h.size) hn).trans (h.same j hj hn)⟩
/-- blocks of the second step that are new count as well -/
theorem Chg.tr2 {S T : List Nat} {a b c : World} (h : Chg S a b) (k : Chg T b c) (ht : ∀ j ∈ T, j ∈ S ∨ a.heap.size ≤ j) : Chg S a c :=
  ⟨k.os.trans h.os, k.tape.trans h.tape, k.output.trans h.output, Nat.le_trans h.size k.size, fun j hj hn => (k.same j (Nat.lt_of_lt_of_le hj h.size) (fun e => (ht j e).elim hn fun e => by omega)).trans (h.same j hj hn)⟩
theorem Chg.mono {S T : List Nat} {a b : World} (h : Chg S a b) (ht : ∀ j ∈ S, j ∈ T) : Chg T a b := ⟨h.os, h.tape, h.output, h.size, fun j hj hn => h.same j hj fun e => hn (ht j e)⟩
theorem Chg.of_ext {S : List Nat} {a b : World} (h : Ext a b) : Chg S a b := ⟨h.os, h.tape, h.output, h.size, fun j hj _ => h.block j hj⟩
theorem Chg.dr {S : List Nat} {a b : World} (h : Chg S a b) : Chg S a b.drew := h.tr (Chg.of_ext (Ext.dr (Ext.refl' b)))
theorem Chg.toExt {S : List Nat} {base a b : World} (h : Chg S a b) (e : Ext base a) (hs : ∀ j ∈ S, base.heap.size ≤ j) : Ext base b :=
  ⟨h.os.trans e.os, h.tape.trans e.tape, h.output.trans e.output, Nat.le_trans e.size h.size, fun j hj => (h.same j (Nat.lt_of_lt_of_le hj e.size) (fun k => by have := hs j k; omega)).trans (e.block j hj)⟩
/-- a cell of a node is stored -/
theorem NdI.set {w : World} {b : Nat} {C : Array Value} (k : w.heap[b]? = some (.cells C 112 (0, 0))) (i : Nat) (u : Value) : ∃ w', w.setCell ⟨b, i, none⟩ u = w' ∧ w'.heap[b]? = some (.cells (C.setIfInBounds i u) 112 (0, 0)) ∧ Chg [b] w w' := by
  refine ⟨_, rfl, ?_, ?_⟩
  · rw [setCell_eq_setRow w b i _ 112 (0, 0) _ k]
    exact setRow_heap w b _ _ 112 (0, 0) k
  · rw [setCell_eq_setRow w b i _ 112 (0, 0) _ k]
    exact ⟨rfl, rfl, rfl, by simp [World.setRow], fun j _ hj => setRow_other w b j _ (by simpa using hj)⟩
theorem NdI.set3 {w : World} {b : Nat} {x : It} {L R : Value} {h e : Int} (k : NdI w b x L R h e) (u : Value) : ∃ w', w.setCell ⟨b, 3, none⟩ u = w' ∧ NdI w' b x u R h e ∧ Chg [b] w w' := NdI.set k 3 u
theorem NdI.set4 {w : World} {b : Nat} {x : It} {L R : Value} {h e : Int} (k : NdI w b x L R h e) (u : Value) : ∃ w', w.setCell ⟨b, 4, none⟩ u = w' ∧ NdI w' b x L u h e ∧ Chg [b] w w' := NdI.set k 4 u
theorem NdI.set5 {w : World} {b : Nat} {x : It} {L R : Value} {h e : Int} (k : NdI w b x L R h e) (u : Int) : ∃ w', w.setCell ⟨b, 5, none⟩ (.int .i64 u) = w' ∧ NdI w' b x L R u e ∧ Chg [b] w w' := NdI.set k 5 (.int .i64 u)
theorem NdI.set6 {w : World} {b : Nat} {x : It} {L R : Value} {h e : Int} (k : NdI w b x L R h e) (u : Int) : ∃ w', w.setCell ⟨b, 6, none⟩ (.int .i64 u) = w' ∧ NdI w' b x L R h u ∧ Chg [b] w w' := NdI.set k 6 (.int .i64 u)
/-- a tree in memory -/
def Gd (w : World) : AT → Prop
  | .nil => True
  | .node b x l r h e => NdI w b x l.p r.p h e ∧ Gd w l ∧ Gd w r
theorem Gd.lt {w : World} : ∀ {t : AT}, Gd w t → ∀ k ∈ t.foot, k < w.heap.size
  | .nil, _, k, hk => by simp [AT.foot] at hk
  | .node b x l r h e, g, k, hk => by
    simp only [AT.foot, List.mem_cons, List.mem_append] at hk
    rcases hk with rfl | hk | hk
    · exact g.1.f.lt
    · exact Gd.lt g.2.1 k hk
    · exact Gd.lt g.2.2 k hk
theorem NdI.chg {S : List Nat} {w w' : World} {b : Nat} {x : It} {L R : Value} {h e : Int} (k : NdI w b x L R h e) (c : Chg S w w') (hn : b ∉ S) : NdI w' b x L R h e := (c.same b k.f.lt hn).trans k
theorem Gd.chg {S : List Nat} {w w' : World} (c : Chg S w w') : ∀ {t : AT}, Gd w t → (∀ k ∈ t.foot, k ∉ S) → Gd w' t
  | .nil, _, _ => trivial
  | .node b x l r h e, g, hn => ⟨g.1.chg c (hn b (by simp [AT.foot])), Gd.chg c g.2.1 (fun k hk => hn k (by simp [AT.foot, hk])), Gd.chg c g.2.2 (fun k hk => hn k (by simp [AT.foot, hk]))⟩
theorem Gd.ext {w w' : World} {t : AT} (g : Gd w t) (e : Ext w w') : Gd w' t := g.chg (S := []) (Chg.of_ext e) (by simp)
theorem NdI.ext {w w' : World} {b : Nat} {x : It} {L R : Value} {h e : Int} (k : NdI w b x L R h e) (c : Ext w w') : NdI w' b x L R h e := k.chg (S := []) (Chg.of_ext c) (by simp)
/-- what levels and last see of a subtree -/
def LvI (w : World) (p : Value) (h e : Int) : Prop := (p = .pointer none ∧ h = 0 ∧ e = 0) ∨ ∃ b, p = ptI b ∧ b < w.heap.size ∧ w.cell? ⟨b, 5, none⟩ = some (.int .i64 h) ∧ w.cell? ⟨b, 6, none⟩ = some (.int .i64 e)
theorem Gd.lev {w : World} {t : AT} (g : Gd w t) : LvI w t.p t.ht t.en := by
  cases t with
  | nil => exact .inl ⟨rfl, rfl, rfl⟩
  | node b x l r h e => exact .inr ⟨b, rfl, g.1.f.lt, g.1.f.c5, g.1.f.c6⟩
theorem LvI.ext {w w' : World} {p : Value} {h e : Int} (k : LvI w p h e) (c : Ext w w') : LvI w' p h e := by
  rcases k with k | ⟨b, h1, h2, h3, h4⟩
  · exact .inl k
  · exact .inr ⟨b, h1, Nat.lt_of_lt_of_le h2 c.size, c.cell' h3, c.cell' h4⟩
set_option maxRecDepth 100000 in
set_option maxHeartbeats 8000000 in
theorem levels_any (p : Value) (h e : Int) (w : World) (k : LvI w p h e) : Calls Try.prog 78 #[p] w fun en w' => en = .returned (.int .i64 h) ∧ w' = w := by
  rcases k with ⟨rfl, rfl, rfl⟩ | ⟨b, rfl, h2, h3, h4⟩
  · go_enter Try.func78, Try.ntmps78
    go_wp2
    go_ret
    exact ⟨rfl, rfl⟩
  · unfold ptI
    go_enter Try.func78, Try.ntmps78
    go_wp2
    go_ret
    exact ⟨rfl, rfl⟩
set_option maxRecDepth 100000 in
set_option maxHeartbeats 8000000 in
theorem last_any (p : Value) (h e : Int) (w : World) (k : LvI w p h e) : Calls Try.prog 105 #[p] w fun en w' => en = .returned (.int .i64 e) ∧ w' = w := by
  rcases k with ⟨rfl, rfl, rfl⟩ | ⟨b, rfl, h2, h3, h4⟩
  · go_enter Try.func105, Try.ntmps105
    go_wp2
    go_ret
    exact ⟨rfl, rfl⟩
  · unfold ptI
    go_enter Try.func105, Try.ntmps105
    go_wp2
    go_ret
    exact ⟨rfl, rfl⟩

theorem cret {P : Program} {f : FuncId} {args : Array Value} {w : World} {x : Add} {v : Value} (h : Calls P f args (ext w x) fun e w' => e = .returned v ∧ w' = ext w x) :
    Calls P f args (ext w x) fun e w'' => e = .returned v ∧ ∃ x' : Add, w'' = ext w x' :=
  h.mono fun _ _ ⟨he, hE⟩ => ⟨he, x, hE⟩

set_option maxRecDepth 100000 in
set_option maxHeartbeats 8000000 in
theorem meas_levels (b : Nat) (pl pr_ : Value) (hl el hr er : Int) (w : World) (hb : b < w.heap.size) (c3 : w.cell? ⟨b, 3, none⟩ = some pl) (c4 : w.cell? ⟨b, 4, none⟩ = some pr_) (kl : LvI w pl hl el) (kr : LvI w pr_ hr er) :
    Calls Try.prog 104 #[.func (.func 78) #[] #[], ptI b] w fun en w' => en = .returned (.int .i64 (max hl hr)) ∧ Ext w w' := by
  have HL := Lib.hid fun W (e : Ext w W) => levels_any pl hl el W (kl.ext e)
  have HR := Lib.hid fun W (e : Ext w W) => levels_any pr_ hr er W (kr.ext e)
  clear kl kr
  unfold ptI
  go_enter Try.func104, Try.ntmps104
  go_wp2_with fail
  refine wp_region_ext (by kernel_rfl) (by kernel_rfl) ?_
  repeat (first | go_big_quiet_step ((go_at_call 78; first | with_reducible exact cret (HL.out _ (by repeat (first | exact Ext.refl' _ | assumption | apply Ext.ex' | apply Ext.al | apply Ext.drN | apply Ext.dr))) | with_reducible exact cret (HR.out _ (by repeat (first | exact Ext.refl' _ | assumption | apply Ext.ex' | apply Ext.al | apply Ext.drN | apply Ext.dr))))) | quiet_step ((go_at_call 78; first | with_reducible exact cret (HL.out _ (by repeat (first | exact Ext.refl' _ | assumption | apply Ext.ex' | apply Ext.al | apply Ext.drN | apply Ext.dr))) | with_reducible exact cret (HR.out _ (by repeat (first | exact Ext.refl' _ | assumption | apply Ext.ex' | apply Ext.al | apply Ext.drN | apply Ext.dr))))))
  refine wpQuiet_nil ?_
  intro _ hw'
  obtain ⟨xq, hw''⟩ := hw'
  subst hw''
  all_goals go_wp2
  all_goals go_ret
  all_goals first | exact ⟨by rw [Int.max_eq_right (by omega)]; rfl, by repeat (first | exact Ext.refl' _ | assumption | apply Ext.ex' | apply Ext.al | apply Ext.drN | apply Ext.dr)⟩ | exact ⟨by rw [Int.max_eq_left (by omega)]; rfl, by repeat (first | exact Ext.refl' _ | assumption | apply Ext.ex' | apply Ext.al | apply Ext.drN | apply Ext.dr)⟩


set_option maxRecDepth 100000 in
set_option maxHeartbeats 8000000 in
theorem meas_last (b : Nat) (pl pr_ : Value) (hl el hr er : Int) (w : World) (hb : b < w.heap.size) (c3 : w.cell? ⟨b, 3, none⟩ = some pl) (c4 : w.cell? ⟨b, 4, none⟩ = some pr_) (kl : LvI w pl hl el) (kr : LvI w pr_ hr er) :
    Calls Try.prog 104 #[.func (.func 105) #[] #[], ptI b] w fun en w' => en = .returned (.int .i64 (max el er)) ∧ Ext w w' := by
  have HL := Lib.hid fun W (e : Ext w W) => last_any pl hl el W (kl.ext e)
  have HR := Lib.hid fun W (e : Ext w W) => last_any pr_ hr er W (kr.ext e)
  clear kl kr
  unfold ptI
  go_enter Try.func104, Try.ntmps104
  go_wp2_with fail
  refine wp_region_ext (by kernel_rfl) (by kernel_rfl) ?_
  repeat (first | go_big_quiet_step ((go_at_call 105; first | with_reducible exact cret (HL.out _ (by repeat (first | exact Ext.refl' _ | assumption | apply Ext.ex' | apply Ext.al | apply Ext.drN | apply Ext.dr))) | with_reducible exact cret (HR.out _ (by repeat (first | exact Ext.refl' _ | assumption | apply Ext.ex' | apply Ext.al | apply Ext.drN | apply Ext.dr))))) | quiet_step ((go_at_call 105; first | with_reducible exact cret (HL.out _ (by repeat (first | exact Ext.refl' _ | assumption | apply Ext.ex' | apply Ext.al | apply Ext.drN | apply Ext.dr))) | with_reducible exact cret (HR.out _ (by repeat (first | exact Ext.refl' _ | assumption | apply Ext.ex' | apply Ext.al | apply Ext.drN | apply Ext.dr))))))
  refine wpQuiet_nil ?_
  intro _ hw'
  obtain ⟨xq, hw''⟩ := hw'
  subst hw''
  all_goals go_wp2
  all_goals go_ret
  all_goals first | exact ⟨by rw [Int.max_eq_right (by omega)]; rfl, by repeat (first | exact Ext.refl' _ | assumption | apply Ext.ex' | apply Ext.al | apply Ext.drN | apply Ext.dr)⟩ | exact ⟨by rw [Int.max_eq_left (by omega)]; rfl, by repeat (first | exact Ext.refl' _ | assumption | apply Ext.ex' | apply Ext.al | apply Ext.drN | apply Ext.dr)⟩


def prI (p : Int × Int) : Value := .agg #[.int .i64 p.1, .int .i64 p.2]
abbrev itg (x : It) : Value := .agg #[.int .i64 x.1.1, .int .i64 x.1.2, .int .i64 x.2]
set_option maxRecDepth 100000 in
set_option maxHeartbeats 8000000 in
theorem psign_any (a b : Int) (w : World) : Calls Try.prog 90 #[.int .i64 a, .int .i64 b] w fun e w' => e = .returned (.int .i64 (cmpI a b)) ∧ Ext w w' := by
  unfold cmpI
  go_enter Try.func90, Try.ntmps90
  go_wp2
  all_goals go_ret
  all_goals refine ⟨?_, by repeat (first | exact Ext.refl' _ | assumption | apply Ext.ex' | apply Ext.al | apply Ext.drN | apply Ext.dr)⟩
  all_goals first | rfl | simp_all | (simp_all; omega)
def pcC (p q : Int × Int) : Int := if p.1 ≠ q.1 then cmpI p.1 q.1 else cmpI p.2 q.2
set_option maxRecDepth 100000 in
set_option maxHeartbeats 8000000 in
theorem pcomp_any (p q : Int × Int) (w : World) : Calls Try.prog 64 #[.agg #[.int .i64 p.1, .int .i64 p.2], .agg #[.int .i64 q.1, .int .i64 q.2]] w fun e w' => e = .returned (.int .i64 (pcC p q)) ∧ Ext w w' := by
  have H1 := Lib.hid fun W => psign_any p.1 q.1 W
  have H2 := Lib.hid fun W => psign_any p.2 q.2 W
  by_cases h : p.1 = q.1
  · have hb : (p.1 != q.1) = false := by simp [h]
    have HZ : Hid (pcC p q = cmpI p.2 q.2) := Lib.hid (by simp [pcC, h])
    clear h H1
    generalize pcC p q = z at HZ ⊢
    generalize cmpI p.2 q.2 = y at H2 HZ
    go_enter Try.func64, Try.ntmps64
    go_wp2_with fail
    refine (H2.out _).mono ?_
    rintro e w1 ⟨rfl, hb1⟩
    obtain ⟨x1, rfl⟩ := hb1.get
    clear hb1
    go_wp2
    go_ret
    exact ⟨by rw [HZ.out]; rfl, by repeat (first | exact Ext.refl' _ | assumption | apply Ext.ex' | apply Ext.al | apply Ext.drN | apply Ext.dr)⟩
  · have hb : (p.1 != q.1) = true := by simp [h]
    have HZ : Hid (pcC p q = cmpI p.1 q.1) := Lib.hid (by simp [pcC, h])
    clear h H2
    generalize pcC p q = z at HZ ⊢
    generalize cmpI p.1 q.1 = y at H1 HZ
    go_enter Try.func64, Try.ntmps64
    go_wp2_with fail
    refine (H1.out _).mono ?_
    rintro e w1 ⟨rfl, hb1⟩
    obtain ⟨x1, rfl⟩ := hb1.get
    clear hb1
    go_wp2
    go_ret
    exact ⟨by rw [HZ.out]; rfl, by repeat (first | exact Ext.refl' _ | assumption | apply Ext.ex' | apply Ext.al | apply Ext.drN | apply Ext.dr)⟩


set_option maxRecDepth 100000 in
set_option maxHeartbeats 8000000 in
theorem ncomp_any (b : Nat) (x y : It) (L R : Value) (h e : Int) (w : World) (k : NdI w b x L R h e) :
    Calls Try.prog 59 #[ptI b, itg y] w fun en w' => en = .returned (.int .i64 (itC x y)) ∧ Ext w w' := by
  obtain ⟨hlt, c0, c1, c2, -, -, -, -, -, -, -, -⟩ := k.f
  have HP := Lib.hid fun W => pcomp_any x.1 y.1 W
  obtain ⟨z, hz⟩ : ∃ z, pcC x.1 y.1 = z := ⟨_, rfl⟩
  have HZ : Hid (itC x y = if z ≠ 0 then z else cmpI x.2 y.2) := Lib.hid (by
    rw [← hz]
    unfold itC pcC cmpI
    repeat' split
    all_goals first | rfl | omega)
  rw [hz] at HP
  clear hz k
  unfold ptI
  generalize itC x y = v at HZ ⊢
  by_cases h0 : z = 0
  · subst h0
    rcases Int.lt_trichotomy x.2 y.2 with h | h | h
    · have HV : Hid (v = -1) := Lib.hid (by rw [HZ.out]; simp [cmpI, h])
      clear HZ
      go_enter Try.func59, Try.ntmps59
      go_wp2_with fail
      refine wp_region_ext (by kernel_rfl) (by kernel_rfl) ?_
      repeat (first | go_big_quiet_step ((go_at_call 64; exact Calls.ext_of (HP.out _))) | quiet_step ((go_at_call 64; exact Calls.ext_of (HP.out _))))
      refine wpQuiet_nil ?_
      intro _ hw'
      obtain ⟨xq, hw''⟩ := hw'
      subst hw''
      go_wp2_with fail
      refine wp_region_ext (by kernel_rfl) (by kernel_rfl) ?_
      repeat (first | go_big_quiet_step (fail) | quiet_step (fail))
      refine wpQuiet_nil ?_
      intro _ hw'
      obtain ⟨xq, hw''⟩ := hw'
      subst hw''
      go_wp2
      go_ret
      exact ⟨by rw [HV.out]; rfl, by repeat (first | exact Ext.refl' _ | assumption | apply Ext.ex' | apply Ext.al | apply Ext.drN | apply Ext.dr)⟩
    · have HV : Hid (v = 0) := Lib.hid (by rw [HZ.out]; simp [cmpI, h])
      have q1 : ¬ (x.2 < y.2) := by omega
      have q2 : ¬ (y.2 < x.2) := by omega
      clear HZ h
      go_enter Try.func59, Try.ntmps59
      go_wp2_with fail
      refine wp_region_ext (by kernel_rfl) (by kernel_rfl) ?_
      repeat (first | go_big_quiet_step ((go_at_call 64; exact Calls.ext_of (HP.out _))) | quiet_step ((go_at_call 64; exact Calls.ext_of (HP.out _))))
      refine wpQuiet_nil ?_
      intro _ hw'
      obtain ⟨xq, hw''⟩ := hw'
      subst hw''
      go_wp2_with fail
      refine wp_region_ext (by kernel_rfl) (by kernel_rfl) ?_
      repeat (first | go_big_quiet_step (fail) | quiet_step (fail))
      refine wpQuiet_nil ?_
      intro _ hw'
      obtain ⟨xq, hw''⟩ := hw'
      subst hw''
      go_wp2_with fail
      refine wp_region_ext (by kernel_rfl) (by kernel_rfl) ?_
      repeat (first | go_big_quiet_step (fail) | quiet_step (fail))
      refine wpQuiet_nil ?_
      intro _ hw'
      obtain ⟨xq, hw''⟩ := hw'
      subst hw''
      go_wp2
      go_ret
      exact ⟨by rw [HV.out]; rfl, by repeat (first | exact Ext.refl' _ | assumption | apply Ext.ex' | apply Ext.al | apply Ext.drN | apply Ext.dr)⟩
    · have HV : Hid (v = 1) := Lib.hid (by rw [HZ.out]; simp only [cmpI]; rw [if_neg (by omega), if_neg (by omega), if_pos h])
      have q1 : ¬ (x.2 < y.2) := by omega
      clear HZ
      go_enter Try.func59, Try.ntmps59
      go_wp2_with fail
      refine wp_region_ext (by kernel_rfl) (by kernel_rfl) ?_
      repeat (first | go_big_quiet_step ((go_at_call 64; exact Calls.ext_of (HP.out _))) | quiet_step ((go_at_call 64; exact Calls.ext_of (HP.out _))))
      refine wpQuiet_nil ?_
      intro _ hw'
      obtain ⟨xq, hw''⟩ := hw'
      subst hw''
      go_wp2_with fail
      refine wp_region_ext (by kernel_rfl) (by kernel_rfl) ?_
      repeat (first | go_big_quiet_step (fail) | quiet_step (fail))
      refine wpQuiet_nil ?_
      intro _ hw'
      obtain ⟨xq, hw''⟩ := hw'
      subst hw''
      go_wp2_with fail
      refine wp_region_ext (by kernel_rfl) (by kernel_rfl) ?_
      repeat (first | go_big_quiet_step (fail) | quiet_step (fail))
      refine wpQuiet_nil ?_
      intro _ hw'
      obtain ⟨xq, hw''⟩ := hw'
      subst hw''
      go_wp2
      go_ret
      exact ⟨by rw [HV.out]; rfl, by repeat (first | exact Ext.refl' _ | assumption | apply Ext.ex' | apply Ext.al | apply Ext.drN | apply Ext.dr)⟩
  · have hb : (z != 0) = true := by simp [h0]
    have HV : Hid (v = z) := Lib.hid (by rw [HZ.out, if_pos h0])
    clear HZ h0
    go_enter Try.func59, Try.ntmps59
    go_wp2_with fail
    refine wp_region_ext (by kernel_rfl) (by kernel_rfl) ?_
    repeat (first | go_big_quiet_step ((go_at_call 64; exact Calls.ext_of (HP.out _))) | quiet_step ((go_at_call 64; exact Calls.ext_of (HP.out _))))
    refine wpQuiet_nil ?_
    intro _ hw'
    obtain ⟨xq, hw''⟩ := hw'
    subst hw''
    go_wp2
    go_ret
    exact ⟨by rw [HV.out]; rfl, by repeat (first | exact Ext.refl' _ | assumption | apply Ext.ex' | apply Ext.al | apply Ext.drN | apply Ext.dr)⟩

end Go.Proofs.Ytahmkinppighkaa
