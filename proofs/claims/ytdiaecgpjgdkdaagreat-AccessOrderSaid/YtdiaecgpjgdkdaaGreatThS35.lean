/- Lemmas for the rows: TrG. -/
import Derived.Test.YtdiaecgpjgdkdaaGreatThS34
import Derived.Test.YtdiaecgpjgdkdaaGreatThS05
set_option linter.unusedSimpArgs false
set_option linter.unusedVariables false
namespace Go.Proofs.YtdiaecgpjgdkdaaGreat
open Go.RowKit Go.Shelf

attribute [local go_sem] Oper.semAt_some

@[go_sem] theorem run_store_func {P : Program} {w : World} {a : Addr} (m : Mode) (f : Fn) (ts : Array Value) (fs : Array Value) : (store a (.func f ts fs) m).run P w = stored P w a (.func f ts fs) m := run_store P w a _ m rfl
def TreeH (w : World) (a : Option Addr) (root : Option Tr) (n d : Int) : Prop :=
 (a = none ∧ root = none ∧ n = 0 ∧ d = 0) ∨ ∃ b, a = some ⟨b, 0, none⟩ ∧ b < w.heap.size ∧ w.cell? ⟨b, 1, none⟩ = some (.int .i64 n) ∧ w.cell? ⟨b, 2, none⟩ = some (.int .i64 d) ∧
  ((root = none ∧ w.cell? ⟨b, 0, none⟩ = some (.pointer none)) ∨ ∃ t p, root = some t ∧ w.cell? ⟨b, 0, none⟩ = some (ptT p) ∧ TM w t p)
theorem TreeH.ext {w w' : World} {a : Option Addr} {root : Option Tr} {n d : Int} (h : TreeH w a root n d) (e : Ext w w') : TreeH w' a root n d := by
 rcases h with h | ⟨b, h1, h2, h3, h4, h5⟩
 ·
  exact .inl h
 ·
  refine .inr ⟨b, h1, Nat.lt_of_lt_of_le h2 e.size, e.cell' h3, e.cell' h4, ?_⟩
  rcases h5 with ⟨a1, a2⟩ | ⟨t, p, a1, a2, a3⟩
  ·
   exact .inl ⟨a1, e.cell' a2⟩
  ·
   exact .inr ⟨t, p, a1, e.cell' a2, a3.ext e⟩
def exQ (q : Rct) (root : Option Tr) : List Tr := match root with | none => [] | some t => if rvB q then exam q t else []
theorem rect_cells {w : World} {b : Nat} {q : Rct} (h : w.heap[b]? = some (.cells #[.int .i64 q.1.1, .int .i64 q.1.2, .int .i64 q.2.1, .int .i64 q.2.2] 37)) : b < w.heap.size ∧ w.cell? ⟨b, 0, none⟩ = some (.int .i64 q.1.1) ∧ w.cell? ⟨b, 1, none⟩ = some (.int .i64 q.1.2) ∧ w.cell? ⟨b, 2, none⟩ = some (.int .i64 q.2.1) ∧ w.cell? ⟨b, 3, none⟩ = some (.int .i64 q.2.2) := by
 refine ⟨(Array.getElem?_eq_some_iff.1 h).1, ?_, ?_, ?_, ?_⟩ <;> simp [World.cell?, h]
theorem examined_any (a : Option Addr) (q : Rct) (w : World) : Calls Tryz.prog 208 #[.pointer a, rx q] w fun e w' => e = .returned (.func (.func 210) #[] #[.pointer (some ⟨w.heap.size, 0, none⟩), .pointer (some ⟨w.heap.size + 1, 0, none⟩)]) ∧ w' = (w.alloc (.cells #[.pointer a] 88)).alloc (.cells #[.int .i64 q.1.1, .int .i64 q.1.2, .int .i64 q.2.1, .int .i64 q.2.2] 37) := by
 go_enter Tryz.func208, Tryz.ntmps208
 go_wp2
 go_ret
 exact ⟨rfl, rfl⟩

set_option maxRecDepth 100000 in
set_option maxHeartbeats 8000000 in
theorem exam1_in (q : Rct) (root : Option Tr) (a : Option Addr) (n d : Int) (l h B bt br : Nat) (w0 W : World) (hT : TreeH w0 a root n d) (hE : Ext w0 W) (hbt : W.heap[bt]? = some (.cells #[.pointer a] 88)) (hbr : W.heap[br]? = some (.cells #[.int .i64 q.1.1, .int .i64 q.1.2, .int .i64 q.2.1, .int .i64 q.2.2] 37))
  (hh0 : w0.heap.size ≤ h) (hB0 : w0.heap.size ≤ B) (J Jx : List (Nd w0) → World → Prop) (hJa : ∀ pre W W', J pre W → W.grownBy W' none → J pre W')
  (hY : ∀ pre (x : Nd w0) W, J pre W → pre.length < (exQ q root).length → YieldAt Fence.wide 2 Tryz.prog l #[ptT x.1.1] W fun e W' => (e = .returned (.bool true) ∧ J (pre ++ [x]) W' ∧ KpT h B 3 23 W W') ∨ (e = .returned (.bool false) ∧ Jx (pre ++ [x]) W'))
  (h0 : J [] W) : Calls Tryz.prog 210 #[.func (.yield l) #[] #[], .pointer (some ⟨bt, 0, none⟩), .pointer (some ⟨br, 0, none⟩)] W fun e W' => (∃ v, e = .returned v) ∧ ((∃ xs : List (Nd w0), xs.map (·.1.2) = exQ q root ∧ J xs W') ∨ ∃ pre, True ∧ Jx pre W') := by
 have HJA := Lib.hid hJa
 clear hJa
 have hbtc : W.cell? ⟨bt, 0, none⟩ = some (.pointer a) := by simp [World.cell?, hbt]
 have hbts := (Array.getElem?_eq_some_iff.1 hbt).1
 obtain ⟨hbrs, r0, r1, r2, r3⟩ := rect_cells hbr
 rcases hT.ext hE with ⟨rfl, rfl, _, _⟩ | ⟨b, rfl, hb, _, _, ⟨rfl, hr⟩ | ⟨t, p, rfl, hr, htm⟩⟩
 ·
  clear hY
  refine (callsIn_wide (n := 4)).1 ?_
  refine callsIn_of_wp Tryz.func210 rfl trivial ?_ rfl
  simp only [Tryz.ntmps210, List.size_toArray, List.length_cons, List.length_nil, Nat.reduceAdd, Nat.reduceSub, Array.replicate_succ, Array.replicate_zero, List.push_toArray, List.append_toArray, List.nil_append, List.cons_append]
  gi_wp2
  refine ⟨trivial, ?_⟩
  gi_wp2
  refine bodyPost_ret (results_none rfl _ _ _) rfl ?_
  exact ⟨⟨_, rfl⟩, .inl ⟨[], rfl, HJA.out _ _ _ h0 (ext_grown (ex_))⟩⟩
 ·
  clear hY
  refine (callsIn_wide (n := 4)).1 ?_
  refine callsIn_of_wp Tryz.func210 rfl trivial ?_ rfl
  simp only [Tryz.ntmps210, List.size_toArray, List.length_cons, List.length_nil, Nat.reduceAdd, Nat.reduceSub, Array.replicate_succ, Array.replicate_zero, List.push_toArray, List.append_toArray, List.nil_append, List.cons_append]
  gi_wp2
  refine ⟨trivial, ?_⟩
  gi_wp2
  refine bodyPost_ret (results_none rfl _ _ _) rfl ?_
  exact ⟨⟨_, rfl⟩, .inl ⟨[], rfl, HJA.out _ _ _ h0 (ext_grown (ex_))⟩⟩
 ·
  have hTM0 : TM w0 t p := by
   rcases hT with ⟨h, _⟩ | ⟨b', hb', _, _, _, ⟨h, _⟩ | ⟨t', p', ht, hr', htm'⟩⟩
   ·
    cases h
   ·
    cases h
   ·
    cases ht
    simp only [Option.some.injEq, Addr.mk.injEq, and_true] at hb'
    subst hb'
    have := hE.cell' hr'
    rw [hr] at this
    simp only [ptT, Option.some.injEq, Value.pointer.injEq, Addr.mk.injEq, and_true] at this
    subst this
    exact htm'
  have HOV := Lib.hid (fun w => tvalid_any q w)
  rcases hv : rvB q with _ | _
  ·
   rw [hv] at HOV
   have HX : Hid (exQ q (some t) = []) := Lib.hid (by simp [exQ, hv])
   clear hY hv
   refine (callsIn_wide (n := 4)).1 ?_
   refine callsIn_of_wp Tryz.func210 rfl trivial ?_ rfl
   simp only [Tryz.ntmps210, List.size_toArray, List.length_cons, List.length_nil, Nat.reduceAdd, Nat.reduceSub, Array.replicate_succ, Array.replicate_zero, List.push_toArray, List.append_toArray, List.nil_append, List.cons_append]
   gi_wp2_with (refine ⟨trivial, ?_⟩; gi_at_call 94; refine (callsIn_to (HOV.out _)).mono ?_; rintro e w1 ⟨rfl, hb1⟩; obtain ⟨x1, rfl⟩ := hb1.get; clear hb1)
   refine bodyPost_ret (results_none rfl _ _ _) rfl ?_
   exact ⟨⟨_, rfl⟩, .inl ⟨[], by rw [HX.out]; rfl, HJA.out _ _ _ h0 (ext_grown (ex_))⟩⟩
  ·
   rw [hv] at HOV
   have HX : exQ q (some t) = exam q t := by simp [exQ, hv]
   rw [HX] at hY ⊢
   have HV : Hid (∀ x1 : Add, Calls Tryz.prog 211 #[ptT p, .pointer (some ⟨W.heap.size, 0, none⟩), .pointer (some ⟨br, 0, none⟩), .pointer (some ⟨(W.heap.size + 1 + x1.n), 0, none⟩)] (((ext (W.alloc (.cells #[.func (.yield l) #[] #[]] 277)) x1).alloc (.cells #[.func (.func 211) #[] #[.pointer (some ⟨W.heap.size, 0, none⟩), .pointer (some ⟨br, 0, none⟩), .pointer (some ⟨(W.heap.size + 1 + x1.n), 0, none⟩)]] 277)).drew) (VisP J Jx q l W.heap.size br (W.heap.size + 1 + x1.n) [] (exam q t))) := Lib.hid (fun x1 => by
    have hEE : Ext W (((ext (W.alloc (.cells #[.func (.yield l) #[] #[]] 277)) x1).alloc (.cells #[.func (.func 211) #[] #[.pointer (some ⟨W.heap.size, 0, none⟩), .pointer (some ⟨br, 0, none⟩), .pointer (some ⟨(W.heap.size + 1 + x1.n), 0, none⟩)]] 277)).drew) := (ex_)
    refine visit_in q l h B (exam q t).length W.heap.size br (W.heap.size + 1 + x1.n) w0 hh0 hB0 J Jx HJA.out hY _ t p rfl hTM0 [] _ (HJA.out _ _ _ h0 (ext_grown hEE)) (hE.trans (Below.mono hEE hE.size)) ⟨?_, ?_, ?_⟩ (by simp)
    ·
     refine ((show Ext (W.alloc (.cells #[.func (.yield l) #[] #[]] 277)) (((ext (W.alloc (.cells #[.func (.yield l) #[] #[]] 277)) x1).alloc (.cells #[.func (.func 211) #[] #[.pointer (some ⟨W.heap.size, 0, none⟩), .pointer (some ⟨br, 0, none⟩), .pointer (some ⟨(W.heap.size + 1 + x1.n), 0, none⟩)]] 277)).drew) from (ex_)).block _ (by simp)).trans ?_
     exact World.alloc_heap_new W _
    ·
     exact (hEE.block _ hbrs).trans hbr
    ·
     have := World.alloc_heap_new (ext (W.alloc (.cells #[.func (.yield l) #[] #[]] 277)) x1) (.cells #[.func (.func 211) #[] #[.pointer (some ⟨W.heap.size, 0, none⟩), .pointer (some ⟨br, 0, none⟩), .pointer (some ⟨(W.heap.size + 1 + x1.n), 0, none⟩)]] 277)
     rw [size_ext, World.size_alloc] at this
     exact this)
   clear hY HX hv hTM0 htm
   refine (callsIn_wide (n := 4)).1 ?_
   refine callsIn_of_wp Tryz.func210 rfl trivial ?_ rfl
   simp only [Tryz.ntmps210, List.size_toArray, List.length_cons, List.length_nil, Nat.reduceAdd, Nat.reduceSub, Array.replicate_succ, Array.replicate_zero, List.push_toArray, List.append_toArray, List.nil_append, List.cons_append]
   gi_wp2_with (refine ⟨trivial, ?_⟩; gi_at_call 94; refine (callsIn_to (HOV.out _)).mono ?_; rintro e w1 ⟨rfl, hb1⟩; obtain ⟨x1, rfl⟩ := hb1.get; clear hb1)
   refine wpIn_wide.2 ?_
   refine wp_region_held_drew (S := fun _ => True) (by kernel_rfl) trivial (fun hHeld => ?_)
   refine wpAnyH_ready (rs := [0, 1]) (by kernel_rfl) (by simp) ?_
   refine AllReadyH.cons (o := ?oi1) ?hi1 ?ti1 ?ri1
   case hi1 => (simp only [gA, gS, gZ]; rfl)
   case ti1 =>
    intro KQ hKQ
    go_simp
    (try simp [go_sem, ↓IntWalk.iteOmega, *])
    refine hKQ.out _ _ (by trivial) (fun hHeld2 => ?_)
    clear hHeld hKQ KQ; have hHeld := hHeld2; clear hHeld2
    (try simp only [Act.put, pA, pZ, pS])
    refine wpAnyH_ready (rs := [1]) (by kernel_rfl) (by simp) ?_
    refine AllReadyH.cons (o := ?oi2) ?hi2 ?ti2 AllReadyH.nil
    case hi2 => (simp only [gA, gS, gZ]; rfl)
    case ti2 =>
     intro KQ hKQ
     go_simp
     (try simp [go_sem, ↓IntWalk.iteOmega, *])
     refine hKQ.out _ _ (by trivial) (fun hHeld2 => ?_)
     clear hHeld hKQ KQ; have hHeld := hHeld2; clear hHeld2
     (try simp only [Act.put, pA, pZ, pS])
     refine tkH 2 ?oi3 (?v3) ?hi3 ?hy3 ?_
     case hi3 => (simp only [gA, gS, gZ]; rfl)
     case hy3 => (refine Or.inl ⟨by rfl, ?_⟩; intro wq hSw; (try dsimp only at hSw); go_simp; (try with_reducible rfl))
     (try simp only [Act.put, pA, pZ, pS])
     refine tkH 3 ?oi4 (?v4) ?hi4 ?hy4 ?_
     case hi4 => (simp only [gA, gS, gZ]; rfl)
     case hy4 => (refine Or.inl ⟨by rfl, ?_⟩; intro wq hSw; (try dsimp only at hSw); go_simp; (try with_reducible rfl))
     (try simp only [Act.put, pA, pZ, pS])
     refine wpAnyH_ready (rs := [4]) (by kernel_rfl) (by simp) ?_
     refine AllReadyH.cons (o := ?oi5) ?hi5 ?ti5 AllReadyH.nil
     case hi5 => (simp only [gA, gS, gZ]; rfl)
     case ti5 =>
      intro KQ hKQ
      go_simp
      (try simp [go_sem, ↓IntWalk.iteOmega, *])
      refine hKQ.out _ _ (by trivial) (fun hHeld2 => ?_)
      clear hHeld hKQ KQ; have hHeld := hHeld2; clear hHeld2
      (try simp only [Act.put, pA, pZ, pS])
      refine wpAnyH_ready (rs := [5]) (by kernel_rfl) (by simp) ?_
      refine AllReadyH.cons (o := ?oi6) ?hi6 ?ti6 AllReadyH.nil
      case hi6 => (simp only [gA, gS, gZ]; rfl)
      case ti6 =>
       intro KQ hKQ
       go_simp
       (go_at_call 211; (refine (HV.out x1).mono ?_); rintro e w2 ⟨bb, rfl, hV⟩)
       refine hKQ.out _ _ (by trivial) (fun hHeld2 => ?_)
       clear hHeld hKQ KQ; have hHeld := hHeld2; clear hHeld2
       (try simp only [Act.put, pA, pZ, pS])
       refine wpAnyH_done (by kernel_rfl) ?_ _
       gi_wp2
       go_end0
       refine ⟨⟨_, rfl⟩, ?_⟩
       rcases hV with ⟨_, xs, h1, h2, _⟩ | ⟨_, pre', h2⟩
       ·
        exact .inl ⟨xs, h1, by simpa using h2⟩
       ·
        exact .inr ⟨pre', trivial, h2⟩
   case ri1 =>
    refine AllReadyH.cons (o := ?oi7) ?hi7 ?ti7 AllReadyH.nil
    case hi7 => (simp only [gA, gS, gZ]; rfl)
    case ti7 =>
     intro KQ hKQ
     go_simp
     (try simp [go_sem, ↓IntWalk.iteOmega, *])
     refine hKQ.out _ _ (by trivial) (fun hHeld2 => ?_)
     clear hHeld hKQ KQ; have hHeld := hHeld2; clear hHeld2
     (try simp only [Act.put, pA, pZ, pS])
     refine tkH 2 ?oi8 (?v8) ?hi8 ?hy8 ?_
     case hi8 => (simp only [gA, gS, gZ]; rfl)
     case hy8 => (refine Or.inl ⟨by rfl, ?_⟩; intro wq hSw; (try dsimp only at hSw); go_simp; (try with_reducible rfl))
     (try simp only [Act.put, pA, pZ, pS])
     refine tkH 3 ?oi9 (?v9) ?hi9 ?hy9 ?_
     case hi9 => (simp only [gA, gS, gZ]; rfl)
     case hy9 => (refine Or.inl ⟨by rfl, ?_⟩; intro wq hSw; (try dsimp only at hSw); go_simp; (try with_reducible rfl))
     (try simp only [Act.put, pA, pZ, pS])
     refine wpAnyH_ready (rs := [0, 4]) (by kernel_rfl) (by simp) ?_
     refine AllReadyH.cons (o := ?oi10) ?hi10 ?ti10 ?ri10
     case hi10 => (simp only [gA, gS, gZ]; rfl)
     case ti10 =>
      intro KQ hKQ
      go_simp
      (try simp [go_sem, ↓IntWalk.iteOmega, *])
      refine hKQ.out _ _ (by trivial) (fun hHeld2 => ?_)
      clear hHeld hKQ KQ; have hHeld := hHeld2; clear hHeld2
      (try simp only [Act.put, pA, pZ, pS])
      refine wpAnyH_ready (rs := [4]) (by kernel_rfl) (by simp) ?_
      refine AllReadyH.cons (o := ?oi11) ?hi11 ?ti11 AllReadyH.nil
      case hi11 => (simp only [gA, gS, gZ]; rfl)
      case ti11 =>
       intro KQ hKQ
       go_simp
       (try simp [go_sem, ↓IntWalk.iteOmega, *])
       refine hKQ.out _ _ (by trivial) (fun hHeld2 => ?_)
       clear hHeld hKQ KQ; have hHeld := hHeld2; clear hHeld2
       (try simp only [Act.put, pA, pZ, pS])
       refine wpAnyH_ready (rs := [5]) (by kernel_rfl) (by simp) ?_
       refine AllReadyH.cons (o := ?oi12) ?hi12 ?ti12 AllReadyH.nil
       case hi12 => (simp only [gA, gS, gZ]; rfl)
       case ti12 =>
        intro KQ hKQ
        go_simp
        (go_at_call 211; (refine (HV.out x1).mono ?_); rintro e w2 ⟨bb, rfl, hV⟩)
        refine hKQ.out _ _ (by trivial) (fun hHeld2 => ?_)
        clear hHeld hKQ KQ; have hHeld := hHeld2; clear hHeld2
        (try simp only [Act.put, pA, pZ, pS])
        refine wpAnyH_done (by kernel_rfl) ?_ _
        gi_wp2
        go_end0
        refine ⟨⟨_, rfl⟩, ?_⟩
        rcases hV with ⟨_, xs, h1, h2, _⟩ | ⟨_, pre', h2⟩
        ·
         exact .inl ⟨xs, h1, by simpa using h2⟩
        ·
         exact .inr ⟨pre', trivial, h2⟩
     case ri10 =>
      refine AllReadyH.cons (o := ?oi13) ?hi13 ?ti13 AllReadyH.nil
      case hi13 => (simp only [gA, gS, gZ]; rfl)
      case ti13 =>
       intro KQ hKQ
       go_simp
       (try simp [go_sem, ↓IntWalk.iteOmega, *])
       refine hKQ.out _ _ (by trivial) (fun hHeld2 => ?_)
       clear hHeld hKQ KQ; have hHeld := hHeld2; clear hHeld2
       (try simp only [Act.put, pA, pZ, pS])
       refine wpAnyH_ready (rs := [0]) (by kernel_rfl) (by simp) ?_
       refine AllReadyH.cons (o := ?oi14) ?hi14 ?ti14 AllReadyH.nil
       case hi14 => (simp only [gA, gS, gZ]; rfl)
       case ti14 =>
        intro KQ hKQ
        go_simp
        (try simp [go_sem, ↓IntWalk.iteOmega, *])
        refine hKQ.out _ _ (by trivial) (fun hHeld2 => ?_)
        clear hHeld hKQ KQ; have hHeld := hHeld2; clear hHeld2
        (try simp only [Act.put, pA, pZ, pS])
        refine wpAnyH_ready (rs := [5]) (by kernel_rfl) (by simp) ?_
        refine AllReadyH.cons (o := ?oi15) ?hi15 ?ti15 AllReadyH.nil
        case hi15 => (simp only [gA, gS, gZ]; rfl)
        case ti15 =>
         intro KQ hKQ
         go_simp
         (go_at_call 211; (refine (HV.out x1).mono ?_); rintro e w2 ⟨bb, rfl, hV⟩)
         refine hKQ.out _ _ (by trivial) (fun hHeld2 => ?_)
         clear hHeld hKQ KQ; have hHeld := hHeld2; clear hHeld2
         (try simp only [Act.put, pA, pZ, pS])
         refine wpAnyH_done (by kernel_rfl) ?_ _
         gi_wp2
         go_end0
         refine ⟨⟨_, rfl⟩, ?_⟩
         rcases hV with ⟨_, xs, h1, h2, _⟩ | ⟨_, pre', h2⟩
         ·
          exact .inl ⟨xs, h1, by simpa using h2⟩
         ·
          exact .inr ⟨pre', trivial, h2⟩
theorem examined_stops (q : Rct) (root : Option Tr) (a : Option Addr) (n d : Int) (h B bt br : Nat) (w0 ws : World) (hT : TreeH w0 a root n d) (hE : Ext w0 ws) (hbt : ws.heap[bt]? = some (.cells #[.pointer a] 88)) (hbr : ws.heap[br]? = some (.cells #[.int .i64 q.1.1, .int .i64 q.1.2, .int .i64 q.2.1, .int .i64 q.2.2] 37))
  (hh0 : w0.heap.size ≤ h) (hB0 : w0.heap.size ≤ B) : SeqStopsK Fence.wide (7 + 1) Tryz.prog 210 #[.pointer (some ⟨bt, 0, none⟩), .pointer (some ⟨br, 0, none⟩)] (fun x : Nd w0 => #[ptT x.1.1]) (KpT h B 3 23) (fun xs => xs.map (·.1.2) = exQ q root) (fun _ => True) (exQ q root).length ws :=
 fun l J Jx W hW hJ _ hY h0 => callsIn_to (exam1_in q root a n d l h B bt br w0 W hT (hE.trans (Below.mono hW hE.size)) ((hW.block _ (Array.getElem?_eq_some_iff.1 hbt).1).trans hbt) ((hW.block _ (Array.getElem?_eq_some_iff.1 hbr).1).trans hbr) hh0 hB0 J Jx (fun pre A A' hj hg => hJ pre A A' none hj hg (fun r e => by cases e)) (fun pre x A hj hl => yieldAnyDepth 2 (hY pre x A hj hl)) h0)

end Go.Proofs.YtdiaecgpjgdkdaaGreat
