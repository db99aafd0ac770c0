/- Values and rows as bytes, appended. -/
import Derived.Test.YtahmkinppighkaaTpB
import Derived.Deep.RegionHeld3
set_option linter.unusedSimpArgs false
set_option linter.unusedVariables false
namespace Go.Proofs.Ytahmkinppighkaa
open Go.RowKit


/-- append of a text, at a step of a region that draws its order -/
theorem step_apps {P : Program} (w : World) {ops : Array Oper} {o : Oper} {a : Act} {K : Act → World → Prop} {Q : Exit → Act → World → Prop} {D : Prop} (hgd : o.guard = none) (s x : Operand) {t e u : TypeId}
    (ho : o.op = .call { callee := .builtin .append, args := #[s, x], argTypes := #[t, u] }) (E : El P t e (.int .u8 0) 1 1) (hu : P.underlying u = some .string) (W : World) (hW : Ext W w) (v : Value) (n : Nat) (xs : List Value) (hs : a.eval s = v) (hown : w.ownsRow W.heap.size e 1 v n xs)
    (tx : ByteArray) (hx : a.eval x = .string tx) (h63 : n + tx.size ≤ maxLen) (hbytes : n + tx.size ≤ 140737488355328)
    (h : ∀ v' x', Own W x' e 1 v' (n + tx.size) (xs ++ bcl tx.data.toList) → K (a.put o.dst v') (ext W x')) : if Region.wanted o (yielded ops a.tmps) = true then Oper.wp P o a w K Q else D := by
  have hw : Region.wanted o (yielded ops a.tmps) = true := by simp [Region.wanted, hgd]
  rw [if_pos hw]
  obtain ⟨i, hi, hz, hsz, hb⟩ := E.hi
  obtain ⟨v', w', hr, h2, h3, _⟩ := Lib.run_append_own_string (P := P) w W.heap.size t u o.type e i E.ht hu hi hz hsz hb v n xs hown tx h63 hbytes hW.size
  obtain ⟨x', rfl⟩ := ext_of_grown hW hown h3
  unfold Oper.wp execOp
  simp only [ho, resolve, invoke, builtin, Sem.run_bind, Sem.run_pure, Result.andThen_ok, List.map_toArray, List.map_cons, List.map_nil, hs, hx, hr]
  exact h v' x' h2
/-- append to what is full, at a step of a region that draws its order -/
theorem step_apq {P : Program} (w : World) {ops : Array Oper} {o : Oper} {a : Act} {K : Act → World → Prop} {Q : Exit → Act → World → Prop} {D : Prop} (hgd : o.guard = none) (s x : Operand) {t : TypeId}
    (ho : o.op = .call { callee := .builtin .append, args := #[s, x], argTypes := #[t, t] }) (E : El P t 5 (.int .u8 0) 1 1) (W : World) (hW : Ext W w) (B : Option Addr) (n : Nat) (xs : List Value) (hs : a.eval s = .slice B n n) (hR : Rd w 1 B n xs)
    (A : Option Addr) (m c : Nat) (news : List Value) (hm : 0 < m) (hx : a.eval x = .slice A m c) (hr : Rd w 1 A m news) (h1 : ∀ u ∈ news, u.oneCell' = true) (h63 : n + m ≤ maxLen) (hbytes : (n + m) * 1 ≤ 140737488355328)
    (h : ∀ v' x', Own W x' 5 1 v' (n + m) (xs ++ news) → K (a.put o.dst v') (ext W x')) : if Region.wanted o (yielded ops a.tmps) = true then Oper.wp P o a w K Q else D := by
  have hw : Region.wanted o (yielded ops a.tmps) = true := by simp [Region.wanted, hgd]
  rw [if_pos hw]
  obtain ⟨v', x', hrun, h2⟩ := run_appg (P := P) (ty := o.type) w E W hW B n xs hR A m c news hm hr h1 h63 hbytes
  unfold Oper.wp execOp
  simp only [ho, resolve, invoke, builtin, Sem.run_bind, Sem.run_pure, Result.andThen_ok, List.map_toArray, List.map_cons, List.map_nil, hs, hx, hrun]
  exact h _ _ (own_mono h2 hW.size)
def GrP (n : Nat) (xs : List Value) (w : World) (e : Ending) (w' : World) : Prop := ∃ A, e = .returned (.slice A n n) ∧ Rd w 1 A n xs ∧ w' = w
theorem GrP.mk (n : Nat) (xs : List Value) (w : World) (A : Option Addr) (h : Rd w 1 A n xs) : GrP n xs w (.returned (.slice A n n)) w := ⟨A, rfl, h, rfl⟩
set_option maxRecDepth 100000 in
set_option maxHeartbeats 8000000 in
theorem grow_any (A : Option Addr) (n c : Nat) (xs : List Value) (w : World) (hc : n ≤ c) (hc2 : c ≤ maxLen) (hR : Rd w 1 A n xs) : Calls Try.prog 29 #[.slice A n c] w (GrP n xs w) := by
  have HR := Lib.hid hR
  clear hR
  have hm : c ≤ 9223372036854775807 := by unfold maxLen at hc2; omega
  go_enter Try.func29, Try.ntmps29
  go_wp2
  all_goals go_ret
  all_goals exact GrP.mk _ _ _ _ HR.out


theorem row_formT {w : World} {base e size n : Nat} {v : Value} {xs : List Value} (h : w.ownsRow base e size v n xs) : ∃ A c, v = .slice A n c ∧ n ≤ c ∧ c ≤ maxLen := by
  rcases h.2 with ⟨rfl, rfl⟩ | ⟨g, cap, cur, rfl, hb, hg, hnc, hcm, hcs, htake⟩
  · exact ⟨none, 0, rfl, Nat.le_refl _, Nat.zero_le _⟩
  · exact ⟨_, _, rfl, hnc, hcm⟩
/-- bytes appended to a copy -/
def PvP (w : World) (n : Nat) (xs : List Value) (l : List UInt8) (e : Ending) (w' : World) : Prop := ∃ v', e = .returned v' ∧ Ext w w' ∧ w'.ownsRow w.heap.size 5 1 v' (n + l.length) (xs ++ bcl l)
theorem PvP.of_own {w W : World} {x : Add} {n k : Nat} {xs ys : List Value} {l : List UInt8} {v : Value} (hk : n + l.length = k) (hy : xs ++ bcl l = ys) (h : Own W x 5 1 v k ys) (hE : Ext w W) : PvP w n xs l (.returned v) (ext W x) :=
  ⟨v, rfl, hE.tr (Ext.ex W x), by rw [hk, hy]; exact own_mono h hE.size⟩
set_option maxRecDepth 100000 in
set_option maxHeartbeats 8000000 in
theorem putv_any (A : Option Addr) (n c : Nat) (xs : List Value) (v : Va) (w : World) (hok : VaOk v) (hc : n ≤ c) (hc2 : c ≤ maxLen) (hn : n ≤ 1000000) (hR : Rd w 1 A n xs) : Calls Try.prog 30 #[.slice A n c, vag v] w (PvP w n xs (vby v)) := by
  have HG := Lib.hid fun W (e : Ext w W) => grow_any A n c xs W hc hc2 (hR.ext e)
  clear hR
  obtain ⟨vk, vi, vt⟩ := v
  rcases hok with ⟨h1, h2, h3⟩ | ⟨h1, h2, h3, h4⟩ | ⟨h1, h2, h3, h4⟩ | ⟨h1, h2, h3⟩
  · have h1 : vk = 0 := h1
    subst h1
    have HB : Hid (vby ⟨0, vi, vt⟩ = [0]) := Lib.hid rfl
    clear h1 h2 h3
    go_enter Try.func30, Try.ntmps30
    go_wp2_with fail
    refine (HG.out _ (by repeat (first | exact Ext.refl' _ | assumption | apply Ext.ex' | apply Ext.al | apply Ext.drN | apply Ext.dr))).mono ?_
    rintro e w1 ⟨A2, rfl, hR2, rfl⟩
    go_wp2_with (at_builtin; (refine wpList_apq _ rfl (.tmp 39) (.tmp 40) rfl elU8 (w.alloc (.cells #[.int .i64 0, .int .i64 vi, .string vt] 24)) (by repeat (first | exact Ext.refl' _ | assumption | apply Ext.ex' | apply Ext.al | apply Ext.drN | apply Ext.dr)) _ n _ rfl (.inl ⟨A2, rfl, hR2.ext (by repeat (first | exact Ext.refl' _ | assumption | apply Ext.ex' | apply Ext.al | apply Ext.drN | apply Ext.dr))⟩) _ 1 1 (bcl [0]) (by omega) rfl (Rd.lit _ #[.int .u8 0] _ 1 1 rfl (by first | rfl | simp [size_ext])) (oneCell_bcl _) (by unfold maxLen; omega) (by omega) ?_; intro v1 x1 ho1))
    have HO1 := Lib.hid ho1
    clear ho1
    go_wp2
    go_ret
    exact PvP.of_own (l := vby ⟨0, vi, vt⟩) (by rw [HB.out]; rfl) (by rw [HB.out]) HO1.out (Ext.al1 _ _)
  · have h1 : vk = 1 := h1
    subst h1
    have hi1 : -1125899906842624 ≤ vi := h3
    have hi2 : vi ≤ 1125899906842624 := h4
    have HB : Hid (vby ⟨1, vi, vt⟩ = 1 :: encI vi) := Lib.hid rfl
    clear h1 h2 h3 h4
    go_enter Try.func30, Try.ntmps30
    go_wp2_with fail
    refine (HG.out _ (by repeat (first | exact Ext.refl' _ | assumption | apply Ext.ex' | apply Ext.al | apply Ext.drN | apply Ext.dr))).mono ?_
    rintro e w1 ⟨A2, rfl, hR2, rfl⟩
    go_wp2_with fail
    refine wp_region_held_drew (S := (fun w' => w'.cell? ⟨w.heap.size, 0, none⟩ = some (.int .i64 1) ∧ w'.cell? ⟨w.heap.size, 1, none⟩ = some (.int .i64 vi) ∧ w'.cell? ⟨w.heap.size, 2, none⟩ = some (.string vt))) (by kernel_rfl) (by simp [go_sem, ↓IntWalk.iteOmega, *]) (fun hHeld => ?_)
    refine wpAnyH_take (i := 0) (oi := ?oi101) (v := ?v101) ?hi101 (by kernel_rfl) (by kernel_rfl) (by kernel_rfl) ?hQ101 ?hy101 (by assumption) ?_
    case hi101 => (simp only [List.getElem?_toArray, List.getElem?_cons_succ, List.getElem?_cons_zero]; try rfl)
    case hQ101 => exact fun _ _ _ h => h
    case hy101 => (refine Or.inl ⟨by rfl, ?_⟩; intro wq hSw; (try dsimp only at hSw); go_simp; (try with_reducible rfl))
    (try simp only [Act.put, List.setIfInBounds_toArray, List.set_cons_zero, List.set_cons_succ])
    refine wpAnyH_take (i := 3) (oi := ?oi102) (v := ?v102) ?hi102 (by kernel_rfl) (by kernel_rfl) (by kernel_rfl) ?hQ102 ?hy102 (by assumption) ?_
    case hi102 => (simp only [List.getElem?_toArray, List.getElem?_cons_succ, List.getElem?_cons_zero]; try rfl)
    case hQ102 => exact fun _ _ _ h => h
    case hy102 => (refine Or.inl ⟨by rfl, ?_⟩; intro wq hSw; (try dsimp only at hSw); go_simp; (try with_reducible rfl))
    (try simp only [Act.put, List.setIfInBounds_toArray, List.set_cons_zero, List.set_cons_succ])
    refine wpAnyH_take (i := 4) (oi := ?oi103) (v := ?v103) ?hi103 (by kernel_rfl) (by kernel_rfl) (by kernel_rfl) ?hQ103 ?hy103 (by assumption) ?_
    case hi103 => (simp only [List.getElem?_toArray, List.getElem?_cons_succ, List.getElem?_cons_zero]; try rfl)
    case hQ103 => exact fun _ _ _ h => h
    case hy103 => (refine Or.inl ⟨by rfl, ?_⟩; intro wq hSw; (try dsimp only at hSw); go_simp; (try with_reducible rfl))
    (try simp only [Act.put, List.setIfInBounds_toArray, List.set_cons_zero, List.set_cons_succ])
    refine wpAnyH_ready (rs := [1]) (by kernel_rfl) (by simp) ?_
    refine AllReadyH.cons (o := ?oi104) ?hi104 ?ti104 AllReadyH.nil
    case hi104 => (simp only [List.getElem?_toArray, List.getElem?_cons_succ, List.getElem?_cons_zero]; try rfl)
    case ti104 =>
      intro KQ hKQ
      go_simp
      refine hKQ.out _ _ (by simp [go_sem, ↓IntWalk.iteOmega, *]) (fun hHeld2 => ?_)
      clear hHeld hKQ KQ; have hHeld := hHeld2; clear hHeld2
      (try simp only [Act.put, List.setIfInBounds_toArray, List.set_cons_zero, List.set_cons_succ])
      refine wpAnyH_ready (rs := [2]) (by kernel_rfl) (by simp) ?_
      refine AllReadyH.cons (o := ?oi105) ?hi105 ?ti105 AllReadyH.nil
      case hi105 => (simp only [List.getElem?_toArray, List.getElem?_cons_succ, List.getElem?_cons_zero]; try rfl)
      case ti105 =>
        intro KQ hKQ
        refine step_apq _ (by rfl) (.tmp 11) (.tmp 12) (by rfl) elU8 (w.alloc (.cells #[.int .i64 1, .int .i64 vi, .string vt] 24)) (by repeat (first | exact Ext.refl' _ | assumption | apply Ext.ex' | apply Ext.al | apply Ext.drN | apply Ext.dr)) A2 n xs (by rfl) (hR2.ext (by repeat (first | exact Ext.refl' _ | assumption | apply Ext.ex' | apply Ext.al | apply Ext.drN | apply Ext.dr))) _ 1 1 (bcl [1]) (by omega) (by rfl) (by first | exact Rd.lit _ #[.int .u8 1] _ 1 1 rfl (by first | rfl | simp [size_ext]) | exact (Rd.lit _ #[.int .u8 1] _ 1 1 rfl (by first | rfl | simp [size_ext])).ext (by repeat (first | exact Ext.refl' _ | assumption | apply Ext.ex' | apply Ext.al | apply Ext.drN | apply Ext.dr))) (oneCell_bcl _) (by unfold maxLen; omega) (by omega) ?_
        intro v1 x1 ho1
        have HO1 := Lib.hid ho1
        clear ho1
        refine hKQ.out _ _ (by simp [go_sem, ↓IntWalk.iteOmega, *]) (fun hHeld2 => ?_)
        clear hHeld hKQ KQ; have hHeld := hHeld2; clear hHeld2
        (try simp only [Act.put, List.setIfInBounds_toArray, List.set_cons_zero, List.set_cons_succ])
        refine wpAnyH_ready (rs := [5]) (by kernel_rfl) (by simp) ?_
        refine AllReadyH.cons (o := ?oi106) ?hi106 ?ti106 AllReadyH.nil
        case hi106 => (simp only [List.getElem?_toArray, List.getElem?_cons_succ, List.getElem?_cons_zero]; try rfl)
        case ti106 =>
          intro KQ hKQ
          go_simp
          go_at_call 28
          refine Calls.mono (put_any (w.alloc (.cells #[.int .i64 1, .int .i64 vi, .string vt] 24)) _ (n + 1) _ vi _ (by repeat (first | exact Ext.refl' _ | assumption | apply Ext.ex' | apply Ext.al | apply Ext.drN | apply Ext.dr)) (.inr (ow8 HO1.out (by repeat (first | exact Ext.refl' _ | assumption | apply Ext.ex' | apply Ext.al | apply Ext.drN | apply Ext.dr)))) (by omega) (by omega) (by omega)) ?_
          rintro e w1 ⟨v2, x2, rfl, rfl, ho2⟩
          have HO2 := Lib.hid ho2
          clear ho2
          refine hKQ.out _ _ (by simp [go_sem, ↓IntWalk.iteOmega, *]) (fun hHeld2 => ?_)
          clear hHeld hKQ KQ; have hHeld := hHeld2; clear hHeld2
          (try simp only [Act.put, List.setIfInBounds_toArray, List.set_cons_zero, List.set_cons_succ])
          refine wpAnyH_take (i := 6) (oi := ?oi107) (v := ?v107) ?hi107 (by kernel_rfl) (by kernel_rfl) (by kernel_rfl) ?hQ107 ?hy107 (by assumption) ?_
          case hi107 => (simp only [List.getElem?_toArray, List.getElem?_cons_succ, List.getElem?_cons_zero]; try rfl)
          case hQ107 => exact fun _ _ _ h => h
          case hy107 => (refine Or.inl ⟨by rfl, ?_⟩; intro wq hSw; (try dsimp only at hSw); go_simp; (try with_reducible rfl))
          (try simp only [Act.put, List.setIfInBounds_toArray, List.set_cons_zero, List.set_cons_succ])
          refine wpAnyH_done (by kernel_rfl) ?_ _
          go_wp2
          go_ret
          exact PvP.of_own (l := vby ⟨1, vi, vt⟩) (by rw [HB.out]; simp; omega) (by rw [HB.out]; simp [bcl]) HO2.out (Ext.al1 _ _)
  · have h1 : vk = 2 := h1
    subst h1
    have hts : vt.size ≤ 200 := h3
    have hen : (encI (vt.size : Int)).length ≤ 10 := encI_le (by omega) (by omega)
    have HB : Hid (vby ⟨2, vi, vt⟩ = 2 :: (encI (vt.size : Int) ++ vt.data.toList)) := Lib.hid rfl
    clear h1 h2 h3 h4
    go_enter Try.func30, Try.ntmps30
    go_wp2_with fail
    refine (HG.out _ (by repeat (first | exact Ext.refl' _ | assumption | apply Ext.ex' | apply Ext.al | apply Ext.drN | apply Ext.dr))).mono ?_
    rintro e w1 ⟨A2, rfl, hR2, rfl⟩
    go_wp2_with fail
    refine wp_region_held_drew (S := (fun w' => w'.cell? ⟨w.heap.size, 0, none⟩ = some (.int .i64 2) ∧ w'.cell? ⟨w.heap.size, 1, none⟩ = some (.int .i64 vi) ∧ w'.cell? ⟨w.heap.size, 2, none⟩ = some (.string vt))) (by kernel_rfl) (by simp [go_sem, ↓IntWalk.iteOmega, *]) (fun hHeld => ?_)
    refine wpAnyH_take (i := 0) (oi := ?oi301) (v := ?v301) ?hi301 (by kernel_rfl) (by kernel_rfl) (by kernel_rfl) ?hQ301 ?hy301 (by assumption) ?_
    case hi301 => (simp only [List.getElem?_toArray, List.getElem?_cons_succ, List.getElem?_cons_zero]; try rfl)
    case hQ301 => exact fun _ _ _ h => h
    case hy301 => (refine Or.inl ⟨by rfl, ?_⟩; intro wq hSw; (try dsimp only at hSw); go_simp; (try with_reducible rfl))
    (try simp only [Act.put, List.setIfInBounds_toArray, List.set_cons_zero, List.set_cons_succ])
    refine wpAnyH_take (i := 3) (oi := ?oi302) (v := ?v302) ?hi302 (by kernel_rfl) (by kernel_rfl) (by kernel_rfl) ?hQ302 ?hy302 (by assumption) ?_
    case hi302 => (simp only [List.getElem?_toArray, List.getElem?_cons_succ, List.getElem?_cons_zero]; try rfl)
    case hQ302 => exact fun _ _ _ h => h
    case hy302 => (refine Or.inl ⟨by rfl, ?_⟩; intro wq hSw; (try dsimp only at hSw); go_simp; (try with_reducible rfl))
    (try simp only [Act.put, List.setIfInBounds_toArray, List.set_cons_zero, List.set_cons_succ])
    refine wpAnyH_take (i := 4) (oi := ?oi303) (v := ?v303) ?hi303 (by kernel_rfl) (by kernel_rfl) (by kernel_rfl) ?hQ303 ?hy303 (by assumption) ?_
    case hi303 => (simp only [List.getElem?_toArray, List.getElem?_cons_succ, List.getElem?_cons_zero]; try rfl)
    case hQ303 => exact fun _ _ _ h => h
    case hy303 => (refine Or.inl ⟨by rfl, ?_⟩; intro wq hSw; (try dsimp only at hSw); go_simp; (try with_reducible rfl))
    (try simp only [Act.put, List.setIfInBounds_toArray, List.set_cons_zero, List.set_cons_succ])
    refine wpAnyH_take (i := 5) (oi := ?oi304) (v := ?v304) ?hi304 (by kernel_rfl) (by kernel_rfl) (by kernel_rfl) ?hQ304 ?hy304 (by assumption) ?_
    case hi304 => (simp only [List.getElem?_toArray, List.getElem?_cons_succ, List.getElem?_cons_zero]; try rfl)
    case hQ304 => exact fun _ _ _ h => h
    case hy304 => (refine Or.inl ⟨by rfl, ?_⟩; intro wq hSw; (try dsimp only at hSw); go_simp; (try with_reducible rfl))
    (try simp only [Act.put, List.setIfInBounds_toArray, List.set_cons_zero, List.set_cons_succ])
    refine wpAnyH_take (i := 7) (oi := ?oi305) (v := ?v305) ?hi305 (by kernel_rfl) (by kernel_rfl) (by kernel_rfl) ?hQ305 ?hy305 (by assumption) ?_
    case hi305 => (simp only [List.getElem?_toArray, List.getElem?_cons_succ, List.getElem?_cons_zero]; try rfl)
    case hQ305 => exact fun _ _ _ h => h
    case hy305 => (refine Or.inl ⟨by rfl, ?_⟩; intro wq hSw; (try dsimp only at hSw); go_simp; (try with_reducible rfl))
    (try simp only [Act.put, List.setIfInBounds_toArray, List.set_cons_zero, List.set_cons_succ])
    refine wpAnyH_take (i := 8) (oi := ?oi306) (v := ?v306) ?hi306 (by kernel_rfl) (by kernel_rfl) (by kernel_rfl) ?hQ306 ?hy306 (by assumption) ?_
    case hi306 => (simp only [List.getElem?_toArray, List.getElem?_cons_succ, List.getElem?_cons_zero]; try rfl)
    case hQ306 => exact fun _ _ _ h => h
    case hy306 => (refine Or.inl ⟨by rfl, ?_⟩; intro wq hSw; (try dsimp only at hSw); go_simp; (try with_reducible rfl))
    (try simp only [Act.put, List.setIfInBounds_toArray, List.set_cons_zero, List.set_cons_succ])
    refine wpAnyH_ready (rs := [1]) (by kernel_rfl) (by simp) ?_
    refine AllReadyH.cons (o := ?oi307) ?hi307 ?ti307 AllReadyH.nil
    case hi307 => (simp only [List.getElem?_toArray, List.getElem?_cons_succ, List.getElem?_cons_zero]; try rfl)
    case ti307 =>
      intro KQ hKQ
      go_simp
      refine hKQ.out _ _ (by simp [go_sem, ↓IntWalk.iteOmega, *]) (fun hHeld2 => ?_)
      clear hHeld hKQ KQ; have hHeld := hHeld2; clear hHeld2
      (try simp only [Act.put, List.setIfInBounds_toArray, List.set_cons_zero, List.set_cons_succ])
      refine wpAnyH_ready (rs := [2]) (by kernel_rfl) (by simp) ?_
      refine AllReadyH.cons (o := ?oi308) ?hi308 ?ti308 AllReadyH.nil
      case hi308 => (simp only [List.getElem?_toArray, List.getElem?_cons_succ, List.getElem?_cons_zero]; try rfl)
      case ti308 =>
        intro KQ hKQ
        refine step_apq _ (by rfl) (.tmp 19) (.tmp 20) (by rfl) elU8 (w.alloc (.cells #[.int .i64 2, .int .i64 vi, .string vt] 24)) (by repeat (first | exact Ext.refl' _ | assumption | apply Ext.ex' | apply Ext.al | apply Ext.drN | apply Ext.dr)) A2 n xs (by rfl) (hR2.ext (by repeat (first | exact Ext.refl' _ | assumption | apply Ext.ex' | apply Ext.al | apply Ext.drN | apply Ext.dr))) _ 1 1 (bcl [2]) (by omega) (by rfl) (by first | exact Rd.lit _ #[.int .u8 2] _ 1 1 rfl (by first | rfl | simp [size_ext]) | exact (Rd.lit _ #[.int .u8 2] _ 1 1 rfl (by first | rfl | simp [size_ext])).ext (by repeat (first | exact Ext.refl' _ | assumption | apply Ext.ex' | apply Ext.al | apply Ext.drN | apply Ext.dr))) (oneCell_bcl _) (by unfold maxLen; omega) (by omega) ?_
        intro v1 x1 ho1
        have HO1 := Lib.hid ho1
        clear ho1
        refine hKQ.out _ _ (by simp [go_sem, ↓IntWalk.iteOmega, *]) (fun hHeld2 => ?_)
        clear hHeld hKQ KQ; have hHeld := hHeld2; clear hHeld2
        (try simp only [Act.put, List.setIfInBounds_toArray, List.set_cons_zero, List.set_cons_succ])
        refine wpAnyH_ready (rs := [6]) (by kernel_rfl) (by simp) ?_
        refine AllReadyH.cons (o := ?oi309) ?hi309 ?ti309 AllReadyH.nil
        case hi309 => (simp only [List.getElem?_toArray, List.getElem?_cons_succ, List.getElem?_cons_zero]; try rfl)
        case ti309 =>
          intro KQ hKQ
          go_simp
          go_at_call 28
          refine Calls.mono (put_any (w.alloc (.cells #[.int .i64 2, .int .i64 vi, .string vt] 24)) _ (n + 1) _ vt.size _ (by repeat (first | exact Ext.refl' _ | assumption | apply Ext.ex' | apply Ext.al | apply Ext.drN | apply Ext.dr)) (.inr (ow8 HO1.out (by repeat (first | exact Ext.refl' _ | assumption | apply Ext.ex' | apply Ext.al | apply Ext.drN | apply Ext.dr)))) (by omega) (by omega) (by omega)) ?_
          rintro e w1 ⟨v2, x2, rfl, rfl, ho2⟩
          have HO2 := Lib.hid ho2
          clear ho2
          refine hKQ.out _ _ (by simp [go_sem, ↓IntWalk.iteOmega, *]) (fun hHeld2 => ?_)
          clear hHeld hKQ KQ; have hHeld := hHeld2; clear hHeld2
          (try simp only [Act.put, List.setIfInBounds_toArray, List.set_cons_zero, List.set_cons_succ])
          refine wpAnyH_ready (rs := [9]) (by kernel_rfl) (by simp) ?_
          refine AllReadyH.cons (o := ?oi310) ?hi310 ?ti310 AllReadyH.nil
          case hi310 => (simp only [List.getElem?_toArray, List.getElem?_cons_succ, List.getElem?_cons_zero]; try rfl)
          case ti310 =>
            intro KQ hKQ
            refine step_apps _ (by rfl) (.tmp 25) (.tmp 27) (by rfl) elU8 strU (w.alloc (.cells #[.int .i64 2, .int .i64 vi, .string vt] 24)) (by repeat (first | exact Ext.refl' _ | assumption | apply Ext.ex' | apply Ext.al | apply Ext.drN | apply Ext.dr)) _ (n + 1 + (encI (vt.size : Int)).length) _ (by rfl) (ow8 HO2.out (by repeat (first | exact Ext.refl' _ | assumption | apply Ext.ex' | apply Ext.al | apply Ext.drN | apply Ext.dr))) vt (by rfl) (by unfold maxLen; omega) (by omega) ?_
            intro v3 x3 ho3
            have HO3 := Lib.hid ho3
            clear ho3
            refine hKQ.out _ _ (by simp [go_sem, ↓IntWalk.iteOmega, *]) (fun hHeld2 => ?_)
            clear hHeld hKQ KQ; have hHeld := hHeld2; clear hHeld2
            (try simp only [Act.put, List.setIfInBounds_toArray, List.set_cons_zero, List.set_cons_succ])
            refine wpAnyH_take (i := 10) (oi := ?oi311) (v := ?v311) ?hi311 (by kernel_rfl) (by kernel_rfl) (by kernel_rfl) ?hQ311 ?hy311 (by assumption) ?_
            case hi311 => (simp only [List.getElem?_toArray, List.getElem?_cons_succ, List.getElem?_cons_zero]; try rfl)
            case hQ311 => exact fun _ _ _ h => h
            case hy311 => (refine Or.inl ⟨by rfl, ?_⟩; intro wq hSw; (try dsimp only at hSw); go_simp; (try with_reducible rfl))
            (try simp only [Act.put, List.setIfInBounds_toArray, List.set_cons_zero, List.set_cons_succ])
            refine wpAnyH_done (by kernel_rfl) ?_ _
            go_wp2
            go_ret
            exact PvP.of_own (l := vby ⟨2, vi, vt⟩) (by rw [HB.out]; simp; omega) (by rw [HB.out]; simp [bcl]) HO3.out (Ext.al1 _ _)
  · have h1 : vk = 3 := h1
    subst h1
    have hi1 : vi = 0 ∨ vi = 1 := h3
    clear h1 h2 h3
    rcases hi1 with rfl | rfl
    · have HB : Hid (vby ⟨3, 0, vt⟩ = [3]) := Lib.hid rfl
      have hb0 : bits .and .i64 0 1 = 0 := by decide
      have hb3 : wrap64 3 % 256 = 3 := by first | decide +kernel | simp [wrap64] | rfl
      go_enter Try.func30, Try.ntmps30
      go_wp2_with fail
      refine (HG.out _ (by repeat (first | exact Ext.refl' _ | assumption | apply Ext.ex' | apply Ext.al | apply Ext.drN | apply Ext.dr))).mono ?_
      rintro e w1 ⟨A2, rfl, hR2, rfl⟩
      go_wp2_with (at_builtin; (refine wpList_apq _ rfl (.tmp 31) (.tmp 37) rfl elU8 (w.alloc (.cells #[.int .i64 3, .int .i64 0, .string vt] 24)) (by repeat (first | exact Ext.refl' _ | assumption | apply Ext.ex' | apply Ext.al | apply Ext.drN | apply Ext.dr)) _ n _ rfl (.inl ⟨A2, rfl, hR2.ext (by repeat (first | exact Ext.refl' _ | assumption | apply Ext.ex' | apply Ext.al | apply Ext.drN | apply Ext.dr))⟩) _ 1 1 (bcl [3]) (by omega) rfl (Rd.lit _ #[.int .u8 3] _ 1 1 rfl (by first | rfl | simp [size_ext])) (oneCell_bcl _) (by unfold maxLen; omega) (by omega) ?_; intro v1 x1 ho1))
      have HO1 := Lib.hid ho1
      clear ho1
      go_wp2
      go_ret
      exact PvP.of_own (l := vby ⟨3, 0, vt⟩) (by rw [HB.out]; rfl) (by rw [HB.out]) HO1.out (Ext.al1 _ _)
    · have HB : Hid (vby ⟨3, 1, vt⟩ = [4]) := Lib.hid rfl
      have hb0 : bits .and .i64 1 1 = 1 := by decide
      have hb3 : wrap64 4 % 256 = 4 := by first | decide +kernel | simp [wrap64] | rfl
      go_enter Try.func30, Try.ntmps30
      go_wp2_with fail
      refine (HG.out _ (by repeat (first | exact Ext.refl' _ | assumption | apply Ext.ex' | apply Ext.al | apply Ext.drN | apply Ext.dr))).mono ?_
      rintro e w1 ⟨A2, rfl, hR2, rfl⟩
      go_wp2_with (at_builtin; (refine wpList_apq _ rfl (.tmp 31) (.tmp 37) rfl elU8 (w.alloc (.cells #[.int .i64 3, .int .i64 1, .string vt] 24)) (by repeat (first | exact Ext.refl' _ | assumption | apply Ext.ex' | apply Ext.al | apply Ext.drN | apply Ext.dr)) _ n _ rfl (.inl ⟨A2, rfl, hR2.ext (by repeat (first | exact Ext.refl' _ | assumption | apply Ext.ex' | apply Ext.al | apply Ext.drN | apply Ext.dr))⟩) _ 1 1 (bcl [4]) (by omega) rfl (Rd.lit _ #[.int .u8 4] _ 1 1 rfl (by first | rfl | simp [size_ext])) (oneCell_bcl _) (by unfold maxLen; omega) (by omega) ?_; intro v1 x1 ho1))
      have HO1 := Lib.hid ho1
      clear ho1
      go_wp2
      go_ret
      exact PvP.of_own (l := vby ⟨3, 1, vt⟩) (by rw [HB.out]; rfl) (by rw [HB.out]) HO1.out (Ext.al1 _ _)


theorem vby_snoc {a : List Va} {k : Nat} {v : Va} (h : a[k]? = some v) : (a.take (k + 1)).flatMap vby = (a.take k).flatMap vby ++ vby v := by
  rw [List.take_add_one, h]
  simp
set_option maxRecDepth 100000 in
set_option maxHeartbeats 8000000 in
theorem putrow_any (A : Option Addr) (n c : Nat) (a : List Va) (w : World) (hn : a.length = n) (hA : Rd w 3 A n (vcl a)) (hl : n ≤ 12) (hv : ∀ v ∈ a, VaOk v) :
    Calls Try.prog 10 #[.slice none 0 0, .slice A n c] w fun e w' => PvP w 0 [] (rby a) e w' := by
  have HN := Lib.hid hn
  have HV := Lib.hid hv
  have hen : (encI (n : Int)).length ≤ 10 := encI_le (by omega) (by omega)
  clear hn hv
  go_enter Try.func10, Try.ntmps10
  go_wp2_with fail
  refine (grow_any none 0 0 [] _ (Nat.le_refl _) (Nat.zero_le _) Rd.nil).mono ?_
  rintro e w1 ⟨A2, rfl, hR2, hw1⟩
  have hw2 := hw1.symm
  subst hw2
  go_wp2_with fail
  refine (put_any w _ 0 [] (n : Int) w (Ext.refl' _) (.inl ⟨A2, rfl, hR2⟩) (by omega) (by omega) (by omega)).mono ?_
  rintro e w1 ⟨v1, x1, rfl, rfl, ho1⟩
  obtain ⟨A1, c1, rfl, hd1, hd2⟩ := Own.form ho1
  have HO1 := Lib.hid ho1
  obtain ⟨m0, hm0⟩ : ∃ m0, 0 + (encI (n : Int)).length = m0 := ⟨_, rfl⟩
  rw [hm0] at hd1 HO1 ho1 ⊢
  have hm0b : m0 ≤ 10 := by omega
  have HM0 : Hid (m0 = (encI (n : Int)).length) := Lib.hid (by omega)
  clear ho1 hm0 hR2 hen
  go_wp2
  go_loopg [0, 14] n (fun g q ix wr => ∃ (k m lc : Nat) (lA : Option Addr), q = .slice lA m lc ∧ ix = .int .i64 k ∧ k ≤ n ∧ n - k ≤ g ∧ m ≤ 10 + k * 211 ∧ m ≤ lc ∧ lc ≤ maxLen ∧ Hid (m = (encI (n : Int) ++ (a.take k).flatMap vby).length) ∧ Hid (wr.ownsRow w.heap.size 5 1 (.slice lA m lc) m (bcl (encI (n : Int) ++ (a.take k).flatMap vby))) ∧ Ext w wr)
  case atStart => exact ⟨0, m0, _, _, rfl, rfl, by omega, by omega, by omega, hd1, hd2, Lib.hid (by simpa using HM0.out), Lib.hid (by simpa using HO1.out), by repeat (first | exact Ext.refl' _ | assumption | apply Ext.ex' | apply Ext.al | apply Ext.drN | apply Ext.dr)⟩
  case round =>
    obtain ⟨k, m, lc, lA, rfl, rfl, hk, hg, hm, hmc, hmx, HM, HO, hE⟩ := hrel
    obtain ⟨x, rfl⟩ := hE.get
    have HG := Lib.hid hg
    clear hg hE
    by_cases hlt : k < n
    · have hkz : (k : Int) < (n : Int) := by omega
      obtain ⟨v, b, oo, hvk, rfl, hb, c0, c1', c2⟩ := hA.val3 HN.out hlt
      have HVK := Lib.hid hvk
      have HOK := Lib.hid (HV.out v (List.mem_of_getElem? hvk))
      clear hvk
      go_wp2_with fail
      refine (putv_any lA m lc _ v _ HOK.out hmc hmx (by omega) ((Rd.of_own HO.out).ext (by repeat (first | exact Ext.refl' _ | assumption | apply Ext.ex' | apply Ext.al | apply Ext.drN | apply Ext.dr)))).mono ?_
      rintro e w1 ⟨v2, rfl, hE2, ho2⟩
      obtain ⟨x2, rfl⟩ := hE2.get
      clear hE2
      obtain ⟨A2, c2', rfl, hd3, hd4⟩ := row_formT ho2
      have hvb := vby_len HOK.out
      have HL : Hid (m + (vby v).length = (encI (n : Int) ++ (a.take (k + 1)).flatMap vby).length) := Lib.hid (by rw [vby_snoc HVK.out, ← List.append_assoc, List.length_append, ← HM.out])
      have HO2 : Hid ((ext (((ext w x).alloc (.cells #[.int .i64 v.k, .int .i64 v.i, .string v.t] 24))) x2).ownsRow w.heap.size 5 1 (.slice A2 (m + (vby v).length) c2') (m + (vby v).length) (bcl (encI (n : Int) ++ (a.take (k + 1)).flatMap vby))) := Lib.hid (by
        rw [vby_snoc HVK.out, ← List.append_assoc, bcl_append]
        exact own_mono ho2 (by simp [size_ext]; omega))
      have hm5 : m + (vby v).length ≤ 10 + (k + 1) * 211 := by omega
      clear ho2 hvb
      generalize m + (vby v).length = m2 at *
      go_wp2
      go_roundg (gk - 1)
      case rel => exact ⟨k + 1, m2, c2', A2, rfl, by go_num, by omega, by have := HG.out; omega, by omega, hd3, hd4, HL, HO2, by repeat (first | exact Ext.refl' _ | assumption | apply Ext.ex' | apply Ext.al | apply Ext.drN | apply Ext.dr)⟩
      case measure => have := HG.out; omega
    · have hkz : ¬ ((k : Int) < (n : Int)) := by omega
      have hkn : k = n := by omega
      have HOF : Hid ((ext w x).ownsRow w.heap.size 5 1 (.slice lA m lc) (0 + (rby a).length) ([] ++ bcl (rby a))) := Lib.hid (by
        have h := HO.out
        have hm := HM.out
        rw [List.take_of_length_le (by have := HN.out; omega)] at h hm
        unfold rby
        rw [HN.out, Nat.zero_add, ← hm]
        exact h)
      clear HO HM
      go_wp2
      go_ret
      exact ⟨_, rfl, by repeat (first | exact Ext.refl' _ | assumption | apply Ext.ex' | apply Ext.al | apply Ext.drN | apply Ext.dr), HOF.out⟩

end Go.Proofs.Ytahmkinppighkaa
