/- differ of package conflict. -/
import Derived.Test.YtpifjhoelnacgaaGreatCfC
import Derived.Deep.RegionHeld3
set_option linter.unusedSimpArgs false
set_option linter.unusedVariables false
namespace Go.Proofs.YtpifjhoelnacgaaGreat
open Go.RowKit


/-- a version with the content of its row -/
abbrev VR := Ve × List Va
def kyR (p : VR) : Int × List Va := (p.1.sch, p.2)
def toM (p : VR) (d : Int) : Mk := ⟨p.1.sch, p.1.rA, p.1.rn, p.1.rc, p.2, d⟩
def VROk (w : World) (p : VR) : Prop := p.1.rn = p.2.length ∧ Rd w 3 p.1.rA p.1.rn (vcl p.2) ∧ p.2.length ≤ 9223372036854775807
theorem VROk.ext {w w' : World} {p : VR} (h : VROk w p) (e : Ext w w') : VROk w' p := ⟨h.1, h.2.1.ext e, h.2.2⟩
theorem VROk.mk {w : World} {p : VR} (h : VROk w p) (d : Int) : MOk w (toM p d) := h
def foldM (M : List Mk) (l : List VR) (d : Int) : List Mk := l.foldl (fun M p => addM M (toM p d)) M
def marksF (b n : List VR) : List Mk := foldM (foldM [] b (-1)) n 1
/-- whether two lists of versions differ, with their numbers -/
def difB (b n : List VR) : Bool := (marksF b n).any fun m => m.k != 0
def MSpec (M : List Mk) (f : Int × List Va → Int) : Prop := (M.map Mk.key).Nodup ∧ (∀ m ∈ M, m.k = f m.key) ∧ ∀ K, K ∉ M.map Mk.key → f K = 0
theorem addM_keys : ∀ (M : List Mk) (x : Mk), (addM M x).map Mk.key = if x.key ∈ M.map Mk.key then M.map Mk.key else M.map Mk.key ++ [x.key]
  | [], x => by simp [addM]
  | m :: M, x => by
    rw [addM]
    by_cases h : m.key = x.key
    · rw [if_pos h]
      have : ({ m with k := m.k + x.k } : Mk).key = m.key := rfl
      simp [this, h]
    · rw [if_neg h, List.map_cons, addM_keys M x]
      have h' : ¬ x.key = m.key := fun e => h e.symm
      by_cases h2 : x.key ∈ M.map Mk.key
      · rw [if_pos h2, if_pos (by simp [h2])]; rfl
      · rw [if_neg h2, if_neg (by simp only [List.map_cons, List.mem_cons, not_or]; exact ⟨h', h2⟩)]; rfl
theorem addM_k : ∀ (M : List Mk) (x : Mk), (M.map Mk.key).Nodup → ∀ m ∈ addM M x, (m.key = x.key ∧ ((∃ m0 ∈ M, m0.key = x.key ∧ m.k = m0.k + x.k) ∨ ((∀ m0 ∈ M, m0.key ≠ x.key) ∧ m.k = x.k))) ∨ (m.key ≠ x.key ∧ m ∈ M)
  | [], x, _, m, hm => by simp [addM] at hm; subst hm; exact .inl ⟨rfl, .inr ⟨by simp, rfl⟩⟩
  | a :: M, x, hn, m, hm => by
    rw [addM] at hm
    have hn' := List.nodup_cons.1 hn
    by_cases h : a.key = x.key
    · rw [if_pos h] at hm
      rcases List.mem_cons.1 hm with rfl | hm
      · exact .inl ⟨h, .inl ⟨a, by simp, h, rfl⟩⟩
      · exact .inr ⟨fun e => hn'.1 (by rw [h, ← e]; exact List.mem_map.2 ⟨m, hm, rfl⟩), by simp [hm]⟩
    · rw [if_neg h] at hm
      rcases List.mem_cons.1 hm with rfl | hm
      · exact .inr ⟨h, by simp⟩
      · rcases addM_k M x hn'.2 m hm with ⟨h1, ⟨m0, h2, h3⟩ | ⟨h2, h3⟩⟩ | ⟨h1, h2⟩
        · exact .inl ⟨h1, .inl ⟨m0, by simp [h2], h3⟩⟩
        · exact .inl ⟨h1, .inr ⟨fun m0 hm0 => by rcases List.mem_cons.1 hm0 with rfl | hm0; exact h; exact h2 m0 hm0, h3⟩⟩
        · exact .inr ⟨h1, by simp [h2]⟩
theorem MSpec.add {M : List Mk} {f : Int × List Va → Int} (h : MSpec M f) (x : Mk) : MSpec (addM M x) (fun K => f K + if K = x.key then x.k else 0) := by
  obtain ⟨h1, h2, h3⟩ := h
  refine ⟨?_, fun m hm => (?_ : m.k = f m.key + if m.key = x.key then x.k else 0), fun K hK => (?_ : (f K + if K = x.key then x.k else 0) = 0)⟩
  · rw [addM_keys]
    split
    · exact h1
    · rename_i hx
      rw [List.nodup_append]
      exact ⟨h1, by simp, by rintro a ha b hb rfl; simp at hb; subst hb; exact hx ha⟩
  · rcases addM_k M x h1 m hm with ⟨g1, ⟨m0, g2, g3, g4⟩ | ⟨g2, g3⟩⟩ | ⟨g1, g2⟩
    · rw [if_pos g1, g4, h2 m0 g2, g3, g1]
    · rw [if_pos g1, g3, h3 m.key (fun hk => by obtain ⟨m0, hm0, he⟩ := List.mem_map.1 hk; exact g2 m0 hm0 (he.trans g1))]; omega
    · rw [if_neg g1, h2 m g2]; omega
  · rw [addM_keys] at hK
    split at hK
    · rename_i hx
      have : K ≠ x.key := fun e => hK (e ▸ hx)
      rw [if_neg this, h3 K hK]; rfl
    · rw [List.mem_append, not_or] at hK
      have : K ≠ x.key := fun e => hK.2 (by simp [e])
      rw [if_neg this, h3 K hK.1]; rfl
theorem MSpec.fold : ∀ {l : List VR} {M : List Mk} {f : Int × List Va → Int} {d : Int}, MSpec M f → MSpec (foldM M l d) (fun K => f K + d * ((l.map kyR).count K : Nat))
  | [], M, f, d, h => by simpa [foldM] using h
  | p :: l, M, f, d, h => by
    have := MSpec.fold (l := l) (d := d) (h.add (toM p d))
    have he : (fun K => (f K + if K = (toM p d).key then (toM p d).k else 0) + d * (((l.map kyR).count K : Nat) : Int)) = fun K => f K + d * ((((p :: l).map kyR).count K : Nat) : Int) := by
      funext K
      rw [List.map_cons, List.count_cons]
      have hk : (toM p d).key = kyR p := rfl
      have hd : (toM p d).k = d := rfl
      rw [hk, hd]
      by_cases e : K = kyR p
      · subst e; simp [Int.mul_add]; omega
      · have e' : ¬ kyR p = K := fun h => e h.symm
        simp [e, e']
    rw [he] at this
    exact this
theorem MSpec.nil : MSpec [] (fun _ => 0) := ⟨List.nodup_nil, by simp, fun _ _ => rfl⟩
theorem difB_iff (b n : List VR) : difB b n = false ↔ (b.map kyR).Perm (n.map kyR) := by
  have h := (MSpec.nil.fold (l := b) (d := -1)).fold (l := n) (d := 1)
  obtain ⟨h1, h2, h3⟩ : MSpec (marksF b n) _ := h
  rw [List.perm_iff_count]
  unfold difB
  rw [List.any_eq_false]
  constructor
  · intro hz K
    by_cases hK : K ∈ (marksF b n).map Mk.key
    · obtain ⟨m, hm, rfl⟩ := List.mem_map.1 hK
      have := hz m hm
      have e := h2 m hm
      simp at this e
      omega
    · have := h3 K hK
      simp at this
      omega
  · intro hc m hm
    have e := h2 m hm
    have := hc m.key
    simp at e ⊢
    omega
theorem foldM_length : ∀ (l : List VR) (M : List Mk) (d : Int), (foldM M l d).length ≤ M.length + l.length
  | [], M, d => by simp [foldM]
  | p :: l, M, d => by
    have h1 := foldM_length l (addM M (toM p d)) d
    have h2 : (addM M (toM p d)).length ≤ M.length + 1 := by
      have := congrArg List.length (addM_keys M (toM p d))
      rw [List.length_map] at this
      rw [this]; split <;> simp
    simp only [foldM, List.foldl_cons, List.length_cons] at h1 ⊢
    omega
theorem addM_mem : ∀ (M : List Mk) (x m : Mk), m ∈ addM M x → m ∈ M ∨ m = x ∨ ∃ m0 ∈ M, m = { m0 with k := m0.k + x.k }
  | [], x, m, h => by simp [addM] at h; exact .inr (.inl h)
  | a :: M, x, m, h => by
    rw [addM] at h
    split at h
    · rcases List.mem_cons.1 h with rfl | h
      · exact .inr (.inr ⟨a, by simp, rfl⟩)
      · exact .inl (by simp [h])
    · rcases List.mem_cons.1 h with rfl | h
      · exact .inl (by simp)
      · rcases addM_mem M x m h with h | h | ⟨m0, h, e⟩
        · exact .inl (by simp [h])
        · exact .inr (.inl h)
        · exact .inr (.inr ⟨m0, by simp [h], e⟩)
/-- what the marks of a walk keep -/
def MsOk (w : World) (M : List Mk) (z : Nat) : Prop := ∀ m ∈ M, MOk w m ∧ -(z : Int) ≤ m.k ∧ m.k ≤ z
theorem MsOk.add {w : World} {M : List Mk} {z : Nat} (h : MsOk w M z) {x : Mk} (hx : MOk w x) (hk : -1 ≤ x.k ∧ x.k ≤ 1) : MsOk w (addM M x) (z + 1) := by
  intro m hm
  rcases addM_mem M x m hm with h1 | rfl | ⟨m0, h1, rfl⟩
  · have := h m h1; exact ⟨this.1, by omega, by omega⟩
  · exact ⟨hx, by omega, by omega⟩
  · have := h m0 h1; exact ⟨this.1, by simp only; omega, by simp only; omega⟩
theorem foldM_snoc (M : List Mk) (l : List VR) (p : VR) (d : Int) : foldM M (l ++ [p]) d = addM (foldM M l d) (toM p d) := by simp [foldM]
theorem clo2_any (m : Mk) (w : World) : Calls Tryz.prog 41 #[.agg #[.int .i64 m.sch, .slice m.A m.n m.c, .int .i64 m.k]] w fun e w' => e = .returned (.bool (m.k != 0)) ∧ Ext w w' := by
  go_enter Tryz.func41, Tryz.ntmps41
  go_wp2
  go_ret
  exact ⟨rfl, by repeat (first | exact Ext.refl' _ | assumption | apply Ext.ex' | apply Ext.al | apply Ext.drN | apply Ext.dr)⟩
set_option maxHeartbeats 1000000 in
theorem indexM_any (A : Option Addr) (n c : Nat) (l : List Mk) (w : World) (hn : n = l.length) (hA : Rd w 3 A n (mkl l)) (hl : l.length ≤ 9223372036854775807) :
    Calls Tryz.prog 55 #[.slice A n c, .func (.func 41) #[] #[]] w fun e w' => ∃ i : Int, e = .returned (.int .i64 i) ∧ decide (0 ≤ i) = (l.any fun m => m.k != 0) ∧ Ext w w' := by
  subst hn
  have HC : Hid ((l.any fun m => m.k != 0) = ((l.drop 0).any fun m => m.k != 0)) := Lib.hid (by simp)
  generalize (l.any fun m => m.k != 0) = r at HC ⊢
  go_enter Tryz.func55, Tryz.ntmps55
  go_wp2
  go_loopw [8] (fun i wr => ∃ k : Nat, k ≤ l.length ∧ i = .int .i64 k ∧ Hid (r = ((l.drop k).any fun m => m.k != 0)) ∧ Ext w wr) (fun i _ => l.length - (intOf i).toNat)
  case atStart => exact ⟨0, Nat.zero_le _, rfl, HC, Ext.refl' _⟩
  case round =>
    obtain ⟨k, hk, rfl, HR, hext⟩ := hrel
    by_cases hlt : k < l.length
    · obtain ⟨b, o, rfl, hbw, hc1, hc2, hc3⟩ := (hA.ext hext).mk rfl hlt
      have HD : Hid (((l.drop k).any fun m => m.k != 0) = ((l[k].k != 0) || ((l.drop (k + 1)).any fun m => m.k != 0))) := Lib.hid (any_drop hlt)
      have HT := Lib.hid (fun w => clo2_any l[k] w)
      generalize (l[k].k != 0) = v at HD HT
      generalize l[k] = p at hc1 hc2 hc3 HT
      rcases v with _ | _
      · go_wp2_with (go_at_call 41; refine Calls.mono (HT.out _) ?_; rintro e w1 ⟨rfl, hb1⟩; obtain ⟨y1, rfl⟩ := hb1.get; clear hb1)
        go_roundw
        case rel => exact ⟨k + 1, by omega, by go_num, Lib.hid (by rw [HR.out, HD.out]; simp), hext.tr (by repeat (first | exact Ext.refl' _ | assumption | apply Ext.ex' | apply Ext.al | apply Ext.drN | apply Ext.dr))⟩
        case measure => simp [intOf]; omega
      · go_wp2_with (go_at_call 41; refine Calls.mono (HT.out _) ?_; rintro e w1 ⟨rfl, hb1⟩; obtain ⟨y1, rfl⟩ := hb1.get; clear hb1)
        go_ret
        exact ⟨_, rfl, by rw [HR.out, HD.out]; simp, hext.tr (by repeat (first | exact Ext.refl' _ | assumption | apply Ext.ex' | apply Ext.al | apply Ext.drN | apply Ext.dr))⟩
    · have HX : Hid (r = false) := Lib.hid (by rw [HR.out, List.drop_eq_nil_of_le (Nat.le_of_not_lt hlt)]; rfl)
      go_wp2
      go_ret
      exact ⟨_, rfl, by rw [HX.out]; decide, hext⟩
theorem containsM_any (A : Option Addr) (n c : Nat) (l : List Mk) (w : World) (hn : n = l.length) (hA : Rd w 3 A n (mkl l)) (hl : l.length ≤ 9223372036854775807) :
    Calls Tryz.prog 40 #[.slice A n c, .func (.func 41) #[] #[]] w fun e w' => e = .returned (.bool (l.any fun m => m.k != 0)) ∧ Ext w w' := by
  have HI := Lib.hid (indexM_any A n c l w hn hA hl)
  generalize (l.any fun m => m.k != 0) = r at HI ⊢
  clear hl hA hn
  go_enter Tryz.func40, Tryz.ntmps40
  go_wp2_with (go_at_call 55; refine Calls.mono HI.out ?_; rintro e w1 ⟨i, rfl, hi, hb1⟩)
  go_ret
  exact ⟨by rw [← hi]; rfl, hb1⟩


set_option maxRecDepth 100000 in
set_option maxHeartbeats 8000000 in
theorem differ_any (A B : Option Addr) (ca cb : Nat) (la lb : List VR) (w : World) (hA : Rd w 9 A la.length (evl (la.map (·.1)))) (hBr : Rd w 9 B lb.length (evl (lb.map (·.1)))) (ha : ∀ p ∈ la, VROk w p) (hb : ∀ p ∈ lb, VROk w p) (na : la.length ≤ 262144) (nb : lb.length ≤ 262144) :
    Calls Tryz.prog 24 #[.slice A la.length ca, .slice B lb.length cb] w fun e w' => e = .returned (.bool (difB la lb)) ∧ Ext w w' := by
  have HDF : Hid (difB la lb = (foldM (foldM [] la (-1)) lb 1).any fun m => m.k != 0) := Lib.hid rfl
  generalize difB la lb = r0 at HDF ⊢
  have hb0 : Boxed (w.alloc (.cells #[.slice none 0 0] 66)) w.heap.size 66 (.slice none 0 0) := Boxed.new w 66 (.slice none 0 0)
  go_enter Tryz.func24, Tryz.ntmps24
  go_wp2
  go_loopw [14] (fun i wr => ∃ (k : Nat) (v : Value), k ≤ la.length ∧ i = .int .i64 k ∧ Boxed wr w.heap.size 66 v ∧ wr.ownsRow (w.heap.size + 1) 68 3 v (foldM [] (la.take k) (-1)).length (mkl (foldM [] (la.take k) (-1))) ∧ MsOk w (foldM [] (la.take k) (-1)) (0 + k) ∧ But (w.heap.size + 1) w.heap.size (w.alloc (.cells #[.slice none 0 0] 66)) wr) (fun i _ => la.length - (intOf i).toNat)
  case atStart => exact ⟨0, _, Nat.zero_le _, rfl, hb0, World.ownsRow_nil _ _ _ _, by intro m hm; simp [foldM] at hm, But.refl _ _ _⟩
  case round =>
    obtain ⟨k, v, hk, rfl, hB, hrow, hms, hbut⟩ := hrel
    have hws := hbut.size
    simp only [World.size_alloc] at hws
    have hE : Ext w wr := (show Ext w (w.alloc (.cells #[.slice none 0 0] 66)) from (by repeat (first | exact Ext.refl' _ | assumption | apply Ext.ex' | apply Ext.al | apply Ext.drN | apply Ext.dr))).trans (hbut.below (by omega) (Nat.le_refl _))
    have hbB := hB.cell
    by_cases hlt : k < la.length
    · obtain ⟨b, o, rfl, hbw, hc⟩ := (hA.ext hE).ve (by simp) (k := k) (by simpa using hlt)
      have hVo := ha la[k] (List.getElem_mem hlt)
      have HT := Lib.hid (foldM_snoc [] (la.take k) la[k] (-1))
      have HTS := Lib.hid (List.take_succ_eq_append_getElem hlt)
      simp only [List.getElem_map] at hc
      have hfl : (foldM [] (la.take k) (-1)).length ≤ 1048576 := by have := foldM_length (la.take k) [] (-1); have := List.length_take_le k la; have h00 : ([] : List Mk).length = 0 := rfl; omega
      generalize foldM [] (la.take k) (-1) = M at hrow hms HT hfl
      generalize la[k] = p at hc hVo HT HTS
      obtain ⟨V, r⟩ := p
      simp only at hc
      have c0 := hc 0 _ rfl
      have c1 := hc 1 _ rfl
      have c2 := hc 2 _ rfl
      have c3 := hc 3 _ rfl
      have c4 := hc 4 _ rfl
      have c5 := hc 5 _ rfl
      have c6 := hc 6 _ rfl
      have c7 := hc 7 _ rfl
      have c8 := hc 8 _ rfl
      clear hc
      simp only [Nat.add_zero] at c0
      have HCT := Lib.hid (fun W hE0 hbw hB hrow => count_any V r (-1) w.heap.size (w.heap.size + 1) M v w W hE0 (Nat.le_refl _) (Nat.lt_succ_self _) hbw hB hrow (fun m hm => by have := hms m hm; exact ⟨this.1, by omega, by omega⟩) (hVo.mk (-1)) (by omega) hfl)
      go_wp2_with (go_at_call 38; refine Calls.mono (HCT.out _ (hE.tr (by repeat (first | exact Ext.refl' _ | assumption | apply Ext.ex' | apply Ext.al | apply Ext.drN | apply Ext.dr))) (by simp; omega) (boxed_ext hB (by repeat (first | exact Ext.refl' _ | assumption | apply Ext.ex' | apply Ext.al | apply Ext.drN | apply Ext.dr))) (ownsRow_ext hrow (by repeat (first | exact Ext.refl' _ | assumption | apply Ext.ex' | apply Ext.al | apply Ext.drN | apply Ext.dr)))) ?_; rintro e w1 ⟨rfl, v', hB', hrow', hbut'⟩)
      go_roundw
      case rel =>
        refine ⟨k + 1, v', by omega, by go_num, hB', ?_, ?_, (hbut.trans (But.ofExt (show Ext wr (wr.alloc (.cells #[.int .i64 V.id, .int .i64 V.sch, .slice V.rA V.rn V.rc, .int .i64 V.v.1, .int .i64 V.v.2, .int .i64 V.s.1, .int .i64 V.s.2, .int .i64 V.by_, .int .i64 V.un] 41)) from (by repeat (first | exact Ext.refl' _ | assumption | apply Ext.ex' | apply Ext.al | apply Ext.drN | apply Ext.dr))) (by omega))).trans hbut'⟩
        · rw [HTS.out, HT.out]; exact hrow'
        · rw [HTS.out, HT.out]
          have := hms.add (hVo.mk (-1)) (show -1 ≤ (toM (V, r) (-1)).k ∧ (toM (V, r) (-1)).k ≤ 1 by simp [toM])
          rwa [Nat.add_assoc] at this
      case measure => simp [intOf]; omega
    · have hkl : k = la.length := by omega
      subst hkl
      rw [List.take_length] at hrow hms
      have hfl0 : (foldM [] la (-1)).length ≤ 262144 := by have := foldM_length la [] (-1); simp at this; omega
      clear hlt hE hk hb0 hbB
      generalize foldM [] la (-1) = M0 at hrow hms HDF hfl0
      simp only [Nat.zero_add] at hms
      obtain ⟨W1, hW1⟩ : ∃ W1, W1 = wr := ⟨_, rfl⟩
      subst hW1
      go_wp2
      go_loopw [24] (fun i wr => ∃ (k : Nat) (v : Value), k ≤ lb.length ∧ i = .int .i64 k ∧ Boxed wr w.heap.size 66 v ∧ wr.ownsRow (w.heap.size + 1) 68 3 v (foldM M0 (lb.take k) (1)).length (mkl (foldM M0 (lb.take k) (1))) ∧ MsOk w (foldM M0 (lb.take k) (1)) (la.length + k) ∧ But (w.heap.size + 1) w.heap.size (w.alloc (.cells #[.slice none 0 0] 66)) wr) (fun i _ => lb.length - (intOf i).toNat)
      case atStart => exact ⟨0, v, Nat.zero_le _, rfl, hB, hrow, hms, hbut⟩
      case round =>
        clear hB hrow hms hbut hws
        obtain ⟨k, v, hk, rfl, hB, hrow, hms, hbut⟩ := hrel
        have hws := hbut.size
        simp only [World.size_alloc] at hws
        have hE : Ext w wr := (show Ext w (w.alloc (.cells #[.slice none 0 0] 66)) from (by repeat (first | exact Ext.refl' _ | assumption | apply Ext.ex' | apply Ext.al | apply Ext.drN | apply Ext.dr))).trans (hbut.below (by omega) (Nat.le_refl _))
        have hbB := hB.cell
        by_cases hlt : k < lb.length
        · obtain ⟨b, o, rfl, hbw, hc⟩ := (hBr.ext hE).ve (by simp) (k := k) (by simpa using hlt)
          have hVo := hb lb[k] (List.getElem_mem hlt)
          have HT := Lib.hid (foldM_snoc M0 (lb.take k) lb[k] (1))
          have HTS := Lib.hid (List.take_succ_eq_append_getElem hlt)
          simp only [List.getElem_map] at hc
          have hfl : (foldM M0 (lb.take k) (1)).length ≤ 1048576 := by have := foldM_length (lb.take k) M0 (1); have := List.length_take_le k lb; skip; omega
          generalize foldM M0 (lb.take k) (1) = M at hrow hms HT hfl
          generalize lb[k] = p at hc hVo HT HTS
          obtain ⟨V, r⟩ := p
          simp only at hc
          have c0 := hc 0 _ rfl
          have c1 := hc 1 _ rfl
          have c2 := hc 2 _ rfl
          have c3 := hc 3 _ rfl
          have c4 := hc 4 _ rfl
          have c5 := hc 5 _ rfl
          have c6 := hc 6 _ rfl
          have c7 := hc 7 _ rfl
          have c8 := hc 8 _ rfl
          clear hc
          simp only [Nat.add_zero] at c0
          have HCT := Lib.hid (fun W hE0 hbw hB hrow => count_any V r (1) w.heap.size (w.heap.size + 1) M v w W hE0 (Nat.le_refl _) (Nat.lt_succ_self _) hbw hB hrow (fun m hm => by have := hms m hm; exact ⟨this.1, by omega, by omega⟩) (hVo.mk (1)) (by omega) hfl)
          go_wp2_with (go_at_call 38; refine Calls.mono (HCT.out _ (hE.tr (by repeat (first | exact Ext.refl' _ | assumption | apply Ext.ex' | apply Ext.al | apply Ext.drN | apply Ext.dr))) (by simp; omega) (boxed_ext hB (by repeat (first | exact Ext.refl' _ | assumption | apply Ext.ex' | apply Ext.al | apply Ext.drN | apply Ext.dr))) (ownsRow_ext hrow (by repeat (first | exact Ext.refl' _ | assumption | apply Ext.ex' | apply Ext.al | apply Ext.drN | apply Ext.dr)))) ?_; rintro e w1 ⟨rfl, v', hB', hrow', hbut'⟩)
          go_roundw
          case rel =>
            refine ⟨k + 1, v', by omega, by go_num, hB', ?_, ?_, (hbut.trans (But.ofExt (show Ext wr (wr.alloc (.cells #[.int .i64 V.id, .int .i64 V.sch, .slice V.rA V.rn V.rc, .int .i64 V.v.1, .int .i64 V.v.2, .int .i64 V.s.1, .int .i64 V.s.2, .int .i64 V.by_, .int .i64 V.un] 41)) from (by repeat (first | exact Ext.refl' _ | assumption | apply Ext.ex' | apply Ext.al | apply Ext.drN | apply Ext.dr))) (by omega))).trans hbut'⟩
            · rw [HTS.out, HT.out]; exact hrow'
            · rw [HTS.out, HT.out]
              have := hms.add (hVo.mk (1)) (show -1 ≤ (toM (V, r) (1)).k ∧ (toM (V, r) (1)).k ≤ 1 by simp [toM])
              rwa [Nat.add_assoc] at this
          case measure => simp [intOf]; omega
        · have hkl : k = lb.length := by omega
          subst hkl
          rw [List.take_length] at hrow
          have hfl : (foldM M0 lb 1).length ≤ 1048576 := by have := foldM_length lb M0 1; omega
          generalize foldM M0 lb 1 = M at hrow HDF hfl
          obtain ⟨A5, c5, rfl, hc5⟩ := row_formG hrow
          have HCO := Lib.hid (containsM_any A5 M.length c5 M wr rfl (Rd.of_own hrow) (by omega))
          go_wp2_with (go_at_call 40; refine Calls.mono HCO.out ?_; rintro e w1 ⟨rfl, hb1⟩)
          go_ret
          exact ⟨by rw [HDF.out]; rfl, hE.tr hb1⟩

end Go.Proofs.YtpifjhoelnacgaaGreat
