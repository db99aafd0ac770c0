/- TopIndexes: the walk of the law. -/
import Derived.Test.YtahmkinppighkaaItH
import Derived.WalkMore
set_option linter.unusedSimpArgs false
set_option linter.unusedVariables false
namespace Go.Proofs.Ytahmkinppighkaa
open Go.RowKit


set_option maxRecDepth 100000 in
set_option maxHeartbeats 8000000 in
theorem OverlapU (w : World) (p : Int × Int) (base tb : Nat) (t : AT) (h : ITr w base tb t) (sz : t.flat.length ≤ 1048576) :
    Calls Try.prog 18 #[ptI tb, .agg #[.int .i64 p.1, .int .i64 p.2]] w (RdP 1 (idsF p t).length (ic (idsF p t)) w) := by
  rcases hv : pvB p with _ | _
  · have HF : Hid (idsF p t = []) := Lib.hid (by unfold idsF; rw [hv]; rfl)
    have HV := Lib.hid fun W => pvalid_any p W
    rw [hv] at HV
    clear h hv sz
    unfold ptI
    go_enter Try.func18, Try.ntmps18
    go_wp2_with fail
    refine (HV.out _).mono ?_
    rintro en1 w1 ⟨rfl, hb1⟩
    obtain ⟨x1, rfl⟩ := hb1.get
    clear hb1 HV
    go_wp2
    go_ret
    rw [HF.out]
    exact ⟨none, 0, rfl, by repeat (first | exact Ext.refl' _ | assumption | apply Ext.ex' | apply Ext.al | apply Ext.drN | apply Ext.dr), Rd.nil⟩
  · have := Overlap_any w p base tb t h hv sz
    unfold idsF
    rw [hv, if_pos rfl]
    exact this
theorem rel_sameT {W w' : World} {x : Add} {e sz n : Nat} {v : Value} {xs : List Value} {R : Prop} (h : Own W x e sz v n xs) (hE : Ext (ext W x) w') (k : ∀ x', w' = ext W x' → Own W x' e sz v n xs → R) : R := by
  obtain ⟨x1, rfl⟩ := hE.get
  obtain ⟨x2, hx2⟩ := ((Ext.ex W x).tr (Ext.ex (ext W x) x1)).get
  exact k x2 hx2 (by unfold Own; rw [← hx2]; exact own_ext h x1)
theorem compact_le (zs : List Int) : (Lib.compact zs).length ≤ zs.length := by
  have := List.length_filter_le (Lib.keeps zs.toArray) (List.range zs.length)
  simpa [Lib.compact, Lib.compactUpTo] using this
theorem hit_step {L : List Bxs} {s : Int × Int} {z : Int} {k : Nat} (hk : k < L.length) {acc ys : List Int} (h : ys = acc ++ ((L.take k).filter (hitB s z)).map fun _ => z) {v : Bool} (hv : hitB s z L[k] = v) : (if v then ys ++ [z] else ys) = acc ++ ((L.take (k + 1)).filter (hitB s z)).map fun _ => z := by
  subst h
  rw [List.take_succ_eq_append_getElem hk, List.filter_append, List.map_append, ← List.append_assoc]
  subst hv
  cases hc : hitB s z L[k] <;> simp [hc]
theorem wnt_step {L : List Bxs} {s : Int × Int} {ids : List Int} {i : Nat} (hi : i < ids.length) {ys : List Int} (h : ys = (ids.take i).flatMap (wnt L s) ++ ((L.take L.length).filter (hitB s ids[i])).map fun _ => ids[i]) : ys = (ids.take (i + 1)).flatMap (wnt L s) := by
  rw [h, List.take_length, List.take_succ_eq_append_getElem hi, List.flatMap_append]
  simp [wnt]
theorem itm_new {L : List Bxs} (hn : (L.map (·.2)).Nodup) {k : Nat} (hk : k < L.length) {t : AT} (pm : t.flat.Perm ((L.take k).map itm)) : itm L[k] ∉ t.flat := fun h => by
  obtain ⟨b, hb, he⟩ := List.mem_map.1 (pm.mem_iff.1 h)
  have h2 : b.2 = L[k].2 := congrArg (·.2) he
  obtain ⟨j, hj, rfl⟩ := List.mem_iff_getElem.1 hb
  simp only [List.length_take] at hj
  rw [List.getElem_take] at h2
  have h3 : (L.map (·.2))[j]'(by simp; omega) = (L.map (·.2))[k]'(by simp; omega) := by simpa using h2
  have := (List.getElem_inj hn).1 h3
  omega
theorem itm_perm {L : List Bxs} {k : Nat} (hk : k < L.length) {t t' : AT} (pm : t.flat.Perm ((L.take k).map itm)) (p' : t'.flat.Perm (itm L[k] :: t.flat)) : t'.flat.Perm ((L.take (k + 1)).map itm) := by
  rw [List.take_succ_eq_append_getElem hk, List.map_append]
  exact (p'.trans (pm.cons _)).trans (List.perm_append_comm (l₁ := [itm L[k]]))


set_option maxRecDepth 100000 in
set_option maxHeartbeats 8000000 in
theorem topIndexes_any (A : Option Addr) (c : Nat) (L : List Bxs) (r : Rct) (w : World) (hR : Rd w 5 A L.length (bxl L)) (hc : L.length ≤ c) (hwf : ∀ b ∈ L, (Lit.int .i64 b.2).wf = true) (hl : L.length ≤ 9223372036854775807) :
    Calls Try.prog 4 #[.slice A L.length c, rx r] w fun e w' => e = .returned (.bool true) ∧ Ext w w' := by
  have HR := Lib.hid hR
  have HBU := Lib.hid fun W (e : Ext w W) (hb : L.length ≤ 60) => buildU A L.length c 3 L W rfl (hR.ext e) (by omega) hc hwf
  have HAD := Lib.hid fun W base tb (h : ITr W base tb .nil) => add_any (0, 3) 7 W base tb .nil h rfl (by simp [AT.flat]) (by simp [AT.flat])
  have HLE := Lib.hid fun W base tb t (h : ITr W base tb t) => ilen_any W base tb t h
  unfold ptI at HAD HLE
  clear hR hwf
  go_enter Try.func4, Try.ntmps4
  go_wp2_with fail
  refine (new_any _).mono ?_
  rintro en1 w1 ⟨rfl, hT1, hE1⟩
  simp only [World.size_alloc] at hT1
  have HT1 := Lib.hid hT1
  obtain ⟨x1, rfl⟩ := hE1.get
  clear hT1 hE1
  go_wp2_with fail
  refine Calls.mono (HAD.out _ _ _ (HT1.out.ext (by repeat (first | exact Ext.refl' _ | assumption | apply Ext.ex' | apply Ext.al | apply Ext.drN | apply Ext.dr)))) ?_
  rintro en2 w2 ⟨rfl, t1, hT2, hp2, hx2⟩
  have hl2 : t1.flat.length = 1 := by simpa [AT.flat] using hp2.length_eq
  have hE2 : Ext w w2 := Ext.tr (show Ext w (w.alloc (.cells #[.int .i64 r.1.1, .int .i64 r.1.2, .int .i64 r.2.1, .int .i64 r.2.2] 43)) from by repeat (first | exact Ext.refl' _ | assumption | apply Ext.ex' | apply Ext.al | apply Ext.drN | apply Ext.dr)) (hx2 (w.alloc (.cells #[.int .i64 r.1.1, .int .i64 r.1.2, .int .i64 r.2.1, .int .i64 r.2.2] 43)) (by repeat (first | exact Ext.refl' _ | assumption | apply Ext.ex' | apply Ext.al | apply Ext.drN | apply Ext.dr)) (by simp))
  have HT2 := Lib.hid hT2
  have HBX : Hid (∀ k v, (w.alloc (.cells #[.int .i64 r.1.1, .int .i64 r.1.2, .int .i64 r.2.1, .int .i64 r.2.2] 43)).cell? ⟨w.heap.size, k, none⟩ = some v → w2.cell? ⟨w.heap.size, k, none⟩ = some v) := Lib.hid fun k v h => (hx2 (w.alloc (.cells #[.int .i64 r.1.1, .int .i64 r.1.2, .int .i64 r.2.1, .int .i64 r.2.2] 43)) (by repeat (first | exact Ext.refl' _ | assumption | apply Ext.ex' | apply Ext.al | apply Ext.drN | apply Ext.dr)) (by simp)).cell' h
  obtain ⟨x2, rfl⟩ := hE2.get
  have q0 : (ext w x2).cell? ⟨w.heap.size, 0, none⟩ = some (.int .i64 r.1.1) := HBX.out 0 _ (by simp [go_sem, ↓IntWalk.iteOmega])
  have q1 : (ext w x2).cell? ⟨w.heap.size, 1, none⟩ = some (.int .i64 r.1.2) := HBX.out 1 _ (by simp [go_sem, ↓IntWalk.iteOmega])
  have q2 : (ext w x2).cell? ⟨w.heap.size, 2, none⟩ = some (.int .i64 r.2.1) := HBX.out 2 _ (by simp [go_sem, ↓IntWalk.iteOmega])
  have q3 : (ext w x2).cell? ⟨w.heap.size, 3, none⟩ = some (.int .i64 r.2.2) := HBX.out 3 _ (by simp [go_sem, ↓IntWalk.iteOmega])
  have hqs : w.heap.size < w.heap.size + x2.n := by
    have := (HT2.out.ext (Ext.refl' _)).c.1
    rw [size_ext] at this
    omega
  clear hT2 hx2 hE2 hp2 HT1
  go_wp2_with fail
  refine Calls.mono (HLE.out _ _ _ _ (HT2.out.ext (by repeat (first | exact Ext.refl' _ | assumption | apply Ext.ex' | apply Ext.al | apply Ext.drN | apply Ext.dr)))) ?_
  rintro en2 w2 ⟨rfl, rfl⟩
  rw [hl2]
  clear hl2 HT2 HLE HAD
  by_cases hbig : 60 < L.length
  · go_wp2
    go_ret
    exact ⟨rfl, by repeat (first | exact Ext.refl' _ | assumption | apply Ext.ex' | apply Ext.al | apply Ext.drN | apply Ext.dr)⟩
  go_wp2_with fail
  refine Calls.mono (HBU.out _ (by repeat (first | exact Ext.refl' _ | assumption | apply Ext.ex' | apply Ext.al | apply Ext.drN | apply Ext.dr)) (by omega)) ?_
  rintro en2 w3 ⟨a, rfl, hE3, hT3, hn3, -⟩
  obtain ⟨er, her⟩ : ∃ er, errF 3 L = er := ⟨_, rfl⟩
  have HER := Lib.hid her
  rw [her] at hn3 ⊢
  have hEw : Ext w w3 := Ext.tr (by repeat (first | exact Ext.refl' _ | assumption | apply Ext.ex' | apply Ext.al | apply Ext.drN | apply Ext.dr)) hE3
  have q0 := hE3.cell' q0
  have q1 := hE3.cell' q1
  have q2 := hE3.cell' q2
  have q3 := hE3.cell' q3
  have hq3 : w.heap.size < w3.heap.size := Nat.lt_of_lt_of_le (by simpa [size_ext] using hqs) hE3.size
  clear hE3 hqs her
  by_cases hz : er = 0
  case neg =>
    have hzb : (er != 0) = true := by simpa using hz
    obtain ⟨x3, rfl⟩ := hEw.get
    clear q0 q1 q2 q3 hEw hT3 hn3
    go_wp2
    go_ret
    exact ⟨rfl, by repeat (first | exact Ext.refl' _ | assumption | apply Ext.ex' | apply Ext.al | apply Ext.drN | apply Ext.dr)⟩
  subst hz
  obtain ⟨ab, rfl⟩ : ∃ ab, a = some ab := by
    cases a with
    | none => exact absurd rfl (hn3 rfl)
    | some ab => exact ⟨ab, rfl⟩
  have HT3 := Lib.hid hT3
  have HR3 := Lib.hid (HR.out.ext hEw)
  have hchk : chkF [] L = 0 := by
    have := HER.out
    unfold errF at this
    rw [if_neg (by omega), if_neg (by omega)] at this
    exact this
  obtain ⟨hrv, -, hnd⟩ := chk_ok hchk
  have HRV := Lib.hid hrv
  have HND := Lib.hid hnd
  have HEW := Lib.hid hEw
  clear hT3 hn3 hrv hnd hchk hEw HBU HBX HR
  go_wp2_with fail
  refine Calls.mono (new_any _) ?_
  rintro en4 w4 ⟨rfl, hT4, hE4⟩
  have HT4 := Lib.hid hT4
  have HE4 := Lib.hid hE4
  clear hT4 hE4
  go_wp2_with fail
  go_loopw [9] (fun i wr => ∃ (k : Nat) (t : AT), k ≤ L.length ∧ i = .int .i64 k ∧ ITr wr w3.heap.size w3.heap.size t ∧ t.flat.Perm ((L.take k).map itm) ∧ Ext w3 wr) (fun i _ => L.length - (intOf i).toNat)
  case atStart => exact ⟨0, .nil, Nat.zero_le _, rfl, HT4.out.ext (by repeat (first | exact Ext.refl' _ | assumption | apply Ext.ex' | apply Ext.al | apply Ext.drN | apply Ext.dr)), by simp [AT.flat], HE4.out.tr (by repeat (first | exact Ext.refl' _ | assumption | apply Ext.ex' | apply Ext.al | apply Ext.drN | apply Ext.dr))⟩
  case round =>
    obtain ⟨k, t, hk, rfl, hT, hP, hE⟩ := hrel
    have HT := Lib.hid hT
    have HE := Lib.hid hE
    by_cases hlt : k < L.length
    · obtain ⟨bb, o, hA, hb, d0, d1, -, -, d4⟩ := HR3.out.box rfl hlt
      subst hA
      have HADD := Lib.hid fun W (h : ITr W w3.heap.size w3.heap.size t) => add_any L[k].1.1 L[k].2 W w3.heap.size w3.heap.size t h (by have := HRV.out L[k] (List.getElem_mem _); simp [rvB] at this; exact this.1) (itm_new HND.out hlt hP) (by rw [hP.length_eq]; simp; omega)
      have HPN := Lib.hid fun (t' : AT) (h : t'.flat.Perm ((L[k].1.1, L[k].2) :: t.flat)) => itm_perm hlt hP h
      generalize L[k] = bx at d0 d1 d4 HADD HPN
      have c0 := hE.cell' d0
      have c1 := hE.cell' d1
      have c4 := hE.cell' d4
      have hbw := Nat.lt_of_lt_of_le hb hE.size
      unfold ptI at HADD
      have HD := Lib.hid (And.intro d0 (And.intro d1 d4))
      clear hT hP hE d0 d1 d4
      go_wp2_with fail
      refine wp_region_held_drew (S := (fun w' => w'.cell? ⟨bb, o + k * 5, none⟩ = some (.int .i64 bx.1.1.1) ∧ w'.cell? ⟨bb, o + k * 5 + 1, none⟩ = some (.int .i64 bx.1.1.2) ∧ w'.cell? ⟨bb, o + k * 5 + 4, none⟩ = some (.int .i64 bx.2))) (by kernel_rfl) (by simp [go_sem, ↓IntWalk.iteOmega, *]) (fun hHeld => ?_)
      refine wpAnyH_take (i := 0) (oi := ?oi101) (v := ?v101) ?hi101 (by kernel_rfl) (by kernel_rfl) (by kernel_rfl) ?hQ101 ?hy101 (by assumption) ?_
      case hi101 => (simp only [List.getElem?_toArray, List.getElem?_cons_succ, List.getElem?_cons_zero]; try rfl)
      case hQ101 => exact fun _ _ _ h => h
      case hy101 => (refine Or.inl ⟨by rfl, ?_⟩; intro wq hSw; (try dsimp only at hSw); go_simp; (try with_reducible rfl))
      (try simp only [Act.put, List.setIfInBounds_toArray, List.set_cons_zero, List.set_cons_succ])
      refine wpAnyH_take (i := 1) (oi := ?oi102) (v := ?v102) ?hi102 (by kernel_rfl) (by kernel_rfl) (by kernel_rfl) ?hQ102 ?hy102 (by assumption) ?_
      case hi102 => (simp only [List.getElem?_toArray, List.getElem?_cons_succ, List.getElem?_cons_zero]; try rfl)
      case hQ102 => exact fun _ _ _ h => h
      case hy102 => (refine Or.inl ⟨by rfl, ?_⟩; intro wq hSw; (try dsimp only at hSw); go_simp; (try with_reducible rfl))
      (try simp only [Act.put, List.setIfInBounds_toArray, List.set_cons_zero, List.set_cons_succ])
      refine wpAnyH_take (i := 2) (oi := ?oi103) (v := ?v103) ?hi103 (by kernel_rfl) (by kernel_rfl) (by kernel_rfl) ?hQ103 ?hy103 (by assumption) ?_
      case hi103 => (simp only [List.getElem?_toArray, List.getElem?_cons_succ, List.getElem?_cons_zero]; try rfl)
      case hQ103 => exact fun _ _ _ h => h
      case hy103 => (refine Or.inl ⟨by rfl, ?_⟩; intro wq hSw; (try dsimp only at hSw); go_simp; (try with_reducible rfl))
      (try simp only [Act.put, List.setIfInBounds_toArray, List.set_cons_zero, List.set_cons_succ])
      refine wpAnyH_take (i := 3) (oi := ?oi104) (v := ?v104) ?hi104 (by kernel_rfl) (by kernel_rfl) (by kernel_rfl) ?hQ104 ?hy104 (by assumption) ?_
      case hi104 => (simp only [List.getElem?_toArray, List.getElem?_cons_succ, List.getElem?_cons_zero]; try rfl)
      case hQ104 => exact fun _ _ _ h => h
      case hy104 => (refine Or.inl ⟨by rfl, ?_⟩; intro wq hSw; (try dsimp only at hSw); go_simp; (try with_reducible rfl))
      (try simp only [Act.put, List.setIfInBounds_toArray, List.set_cons_zero, List.set_cons_succ])
      refine wpAnyH_take (i := 4) (oi := ?oi105) (v := ?v105) ?hi105 (by kernel_rfl) (by kernel_rfl) (by kernel_rfl) ?hQ105 ?hy105 (by assumption) ?_
      case hi105 => (simp only [List.getElem?_toArray, List.getElem?_cons_succ, List.getElem?_cons_zero]; try rfl)
      case hQ105 => exact fun _ _ _ h => h
      case hy105 => (refine Or.inl ⟨by rfl, ?_⟩; intro wq hSw; (try dsimp only at hSw); go_simp; (try with_reducible rfl))
      (try simp only [Act.put, List.setIfInBounds_toArray, List.set_cons_zero, List.set_cons_succ])
      refine wpAnyH_take (i := 5) (oi := ?oi106) (v := ?v106) ?hi106 (by kernel_rfl) (by kernel_rfl) (by kernel_rfl) ?hQ106 ?hy106 (by assumption) ?_
      case hi106 => (simp only [List.getElem?_toArray, List.getElem?_cons_succ, List.getElem?_cons_zero]; try rfl)
      case hQ106 => exact fun _ _ _ h => h
      case hy106 => (refine Or.inl ⟨by rfl, ?_⟩; intro wq hSw; (try dsimp only at hSw); go_simp; (try with_reducible rfl))
      (try simp only [Act.put, List.setIfInBounds_toArray, List.set_cons_zero, List.set_cons_succ])
      refine wpAnyH_take (i := 6) (oi := ?oi107) (v := ?v107) ?hi107 (by kernel_rfl) (by kernel_rfl) (by kernel_rfl) ?hQ107 ?hy107 (by assumption) ?_
      case hi107 => (simp only [List.getElem?_toArray, List.getElem?_cons_succ, List.getElem?_cons_zero]; try rfl)
      case hQ107 => exact fun _ _ _ h => h
      case hy107 => (refine Or.inl ⟨by rfl, ?_⟩; intro wq hSw; (try dsimp only at hSw); go_simp; (try with_reducible rfl))
      (try simp only [Act.put, List.setIfInBounds_toArray, List.set_cons_zero, List.set_cons_succ])
      refine wpAnyH_take (i := 7) (oi := ?oi108) (v := ?v108) ?hi108 (by kernel_rfl) (by kernel_rfl) (by kernel_rfl) ?hQ108 ?hy108 (by assumption) ?_
      case hi108 => (simp only [List.getElem?_toArray, List.getElem?_cons_succ, List.getElem?_cons_zero]; try rfl)
      case hQ108 => exact fun _ _ _ h => h
      case hy108 => (refine Or.inl ⟨by rfl, ?_⟩; intro wq hSw; (try dsimp only at hSw); go_simp; (try with_reducible rfl))
      (try simp only [Act.put, List.setIfInBounds_toArray, List.set_cons_zero, List.set_cons_succ])
      refine wpAnyH_take (i := 8) (oi := ?oi109) (v := ?v109) ?hi109 (by kernel_rfl) (by kernel_rfl) (by kernel_rfl) ?hQ109 ?hy109 (by assumption) ?_
      case hi109 => (simp only [List.getElem?_toArray, List.getElem?_cons_succ, List.getElem?_cons_zero]; try rfl)
      case hQ109 => exact fun _ _ _ h => h
      case hy109 => (refine Or.inl ⟨by rfl, ?_⟩; intro wq hSw; (try dsimp only at hSw); go_simp; (try with_reducible rfl))
      (try simp only [Act.put, List.setIfInBounds_toArray, List.set_cons_zero, List.set_cons_succ])
      refine wpAnyH_take (i := 9) (oi := ?oi110) (v := ?v110) ?hi110 (by kernel_rfl) (by kernel_rfl) (by kernel_rfl) ?hQ110 ?hy110 (by assumption) ?_
      case hi110 => (simp only [List.getElem?_toArray, List.getElem?_cons_succ, List.getElem?_cons_zero]; try rfl)
      case hQ110 => exact fun _ _ _ h => h
      case hy110 => (refine Or.inl ⟨by rfl, ?_⟩; intro wq hSw; (try dsimp only at hSw); go_simp; (try with_reducible rfl))
      (try simp only [Act.put, List.setIfInBounds_toArray, List.set_cons_zero, List.set_cons_succ])
      refine wpAnyH_take (i := 10) (oi := ?oi111) (v := ?v111) ?hi111 (by kernel_rfl) (by kernel_rfl) (by kernel_rfl) ?hQ111 ?hy111 (by assumption) ?_
      case hi111 => (simp only [List.getElem?_toArray, List.getElem?_cons_succ, List.getElem?_cons_zero]; try rfl)
      case hQ111 => exact fun _ _ _ h => h
      case hy111 => (refine Or.inl ⟨by rfl, ?_⟩; intro wq hSw; (try dsimp only at hSw); go_simp; (try with_reducible rfl))
      (try simp only [Act.put, List.setIfInBounds_toArray, List.set_cons_zero, List.set_cons_succ])
      refine wpAnyH_take (i := 11) (oi := ?oi112) (v := ?v112) ?hi112 (by kernel_rfl) (by kernel_rfl) (by kernel_rfl) ?hQ112 ?hy112 (by assumption) ?_
      case hi112 => (simp only [List.getElem?_toArray, List.getElem?_cons_succ, List.getElem?_cons_zero]; try rfl)
      case hQ112 => exact fun _ _ _ h => h
      case hy112 => (refine Or.inl ⟨by rfl, ?_⟩; intro wq hSw; (try dsimp only at hSw); go_simp; (try with_reducible rfl))
      (try simp only [Act.put, List.setIfInBounds_toArray, List.set_cons_zero, List.set_cons_succ])
      refine wpAnyH_ready (rs := [12]) (by kernel_rfl) (by simp) ?_
      refine AllReadyH.cons (o := ?oi113) ?hi113 ?ti113 AllReadyH.nil
      case hi113 => (simp only [List.getElem?_toArray, List.getElem?_cons_succ, List.getElem?_cons_zero]; try rfl)
      case ti113 =>
        intro KQ hKQ
        go_simp
        go_at_call 15
        refine Calls.mono (HADD.out _ (HT.out.ext (by repeat (first | exact Ext.refl' _ | assumption | apply Ext.ex' | apply Ext.al | apply Ext.drN | apply Ext.dr)))) ?_
        rintro en5 w5 ⟨rfl, t5, hT5, hp5, hx5⟩
        have hE5 : Ext w3 w5 := hx5 w3 (HE.out.tr (by repeat (first | exact Ext.refl' _ | assumption | apply Ext.ex' | apply Ext.al | apply Ext.drN | apply Ext.dr))) rfl
        have HT5 := Lib.hid hT5
        have HP5 := Lib.hid hp5
        have HE5 := Lib.hid hE5
        have f0 := hE5.cell' HD.out.1
        have f1 := hE5.cell' HD.out.2.1
        have f4 := hE5.cell' HD.out.2.2
        have hb5 := Nat.lt_of_lt_of_le hb hE5.size
        clear hT5 hp5 hx5 hE5 HADD
        refine hKQ.out _ _ (by simp [go_sem, ↓IntWalk.iteOmega, *]) (fun hHeld2 => ?_)
        clear hHeld hKQ KQ; have hHeld := hHeld2; clear hHeld2
        (try simp only [Act.put, List.setIfInBounds_toArray, List.set_cons_zero, List.set_cons_succ])
        refine wpAnyH_take (i := 13) (oi := ?oi114) (v := ?v114) ?hi114 (by kernel_rfl) (by kernel_rfl) (by kernel_rfl) ?hQ114 ?hy114 (by assumption) ?_
        case hi114 => (simp only [List.getElem?_toArray, List.getElem?_cons_succ, List.getElem?_cons_zero]; try rfl)
        case hQ114 => exact fun _ _ _ h => h
        case hy114 => (refine Or.inl ⟨by rfl, ?_⟩; intro wq hSw; (try dsimp only at hSw); go_simp; (try with_reducible rfl))
        (try simp only [Act.put, List.setIfInBounds_toArray, List.set_cons_zero, List.set_cons_succ])
        refine wpAnyH_done (by kernel_rfl) ?_ _
        go_wp2
        go_roundw
        case rel => exact ⟨k + 1, t5, by omega, by go_num, HT5.out, HPN.out _ HP5.out, HE5.out⟩
        case measure => simp [intOf]; omega
    · obtain rfl : k = L.length := by omega
      rw [List.take_length] at hP
      have hids : (idsF r.1 t).length ≤ 60 := by
        have h1 : t.flat.length ≤ 60 := by rw [hP.length_eq, List.length_map]; omega
        have h2 := AT.ov_len r.1 t
        unfold idsF ovIds
        split
        · refine Nat.le_trans (compact_le _) ?_
          rw [List.length_mergeSort]; omega
        · simp
      have HPL := Lib.hid (indexes_plain (r := r) HER.out HRV.out HND.out hT.ok hT.st hP)
      have HOV := Lib.hid fun W (h : ITr W w3.heap.size w3.heap.size t) => OverlapU W r.1 w3.heap.size w3.heap.size t h (by rw [hP.length_eq, List.length_map]; omega)
      generalize idsF r.1 t = ids at hids HPL HOV
      unfold ptI at HOV
      have p0 := hE.cell' q0
      have p1 := hE.cell' q1
      have p2 := hE.cell' q2
      have p3 := hE.cell' q3
      have hpw := Nat.lt_of_lt_of_le hq3 hE.size
      clear hP hT hE hlt hk
      go_wp2_with fail
      refine Calls.mono (HOV.out _ (HT.out.ext (by repeat (first | exact Ext.refl' _ | assumption | apply Ext.ex' | apply Ext.al | apply Ext.drN | apply Ext.dr)))) ?_
      rintro en6 w6 ⟨A6, c6, rfl, hE6, hR6⟩
      have hE36 : Ext w3 w6 := (HE.out.tr (by repeat (first | exact Ext.refl' _ | assumption | apply Ext.ex' | apply Ext.al | apply Ext.drN | apply Ext.dr))).tr hE6
      have q0 := hE36.cell' q0
      have q1 := hE36.cell' q1
      have q2 := hE36.cell' q2
      have q3 := hE36.cell' q3
      have hq6 := Nat.lt_of_lt_of_le hq3 hE36.size
      have HR6 := Lib.hid (HR3.out.ext hE36)
      have HT6 := Lib.hid (HT3.out.ext hE36)
      have HE36 := Lib.hid hE36
      clear hE6 hE36 HOV HT p0 p1 p2 p3 hpw HE hq3 HR3 HT3
      go_wp2_with fail
      go_loopw [11, 12] (fun s11 s12 wr => ∃ (i : Nat) (ys : List Int) (x : Add), i ≤ ids.length ∧ s12 = .int .i64 i ∧ ys.length ≤ i * 60 ∧ Hid (ys = (ids.take i).flatMap (wnt L r.2)) ∧ wr = ext w6 x ∧ Own w6 x 3 1 s11 ys.length (ic ys)) (fun _ s12 _ => ids.length - (intOf s12).toNat)
      case atStart =>
        obtain ⟨x, hx⟩ := (Ext.refl' w6).get
        exact ⟨0, [], x, Nat.zero_le _, rfl, by simp, Lib.hid (by simp), hx, own_nil _ _ _ _⟩
      case round =>
        obtain ⟨i, ys, x, hi, rfl, hys, HY, rfl, hown⟩ := hrel
        by_cases hlt : i < ids.length
        · obtain ⟨ib, io, hA, hib, e0⟩ := hR6.int hlt
          subst hA
          have HWS : Hid (∀ us, us = ys ++ ((L.take L.length).filter (hitB r.2 ids[i])).map (fun _ => ids[i]) → us = (ids.take (i + 1)).flatMap (wnt L r.2)) := Lib.hid fun us h => wnt_step hlt (by rw [h, HY.out])
          generalize ids[i] = z at e0 HWS
          go_wp2_with fail
          go_loopw [11, 13] (fun s11 s13 wr => ∃ (k : Nat) (us : List Int) (x : Add), k ≤ L.length ∧ s13 = .int .i64 k ∧ us.length ≤ i * 60 + k ∧ Hid (us = ys ++ ((L.take k).filter (hitB r.2 z)).map fun _ => z) ∧ wr = ext w6 x ∧ Own w6 x 3 1 s11 us.length (ic us)) (fun _ s13 _ => L.length - (intOf s13).toNat)
          case atStart =>
            exact rel_sameT hown (by repeat (first | exact Ext.refl' _ | assumption | apply Ext.ex' | apply Ext.al | apply Ext.drN | apply Ext.dr)) fun x' hx' ho' => ⟨0, ys, x', Nat.zero_le _, rfl, by omega, Lib.hid (by simp), hx', ho'⟩
          case round =>
            obtain ⟨k, us, x, hk, rfl, hus, HU, rfl, hown⟩ := hrel
            by_cases hkl : k < L.length
            · obtain ⟨bb, o, hA, hb, d0, d1, d2, d3, d4⟩ := HR6.out.box rfl hkl
              subst hA
              have HST := Lib.hid fun v (h : hitB r.2 z L[k] = v) => hit_step hkl HU.out h
              generalize L[k] = bx at d2 d3 d4 HST
              have HP := Lib.hid fun W => poverlapsX_any bx.1.2 r.2 W
              clear d0 d1
              by_cases hz : bx.2 = z
              · subst hz
                rcases hv : povB bx.1.2 r.2 with _ | _
                · rw [hv] at HP
                  have HS2 := Lib.hid (HST.out false (by simp [hitB, hv]))
                  clear HST hv
                  go_wp2_with fail
                  refine wp_region_ext (by kernel_rfl) (by kernel_rfl) ?_
                  repeat (first | go_big_quiet_step ((go_at_call 19; exact Calls.ext_of (HP.out _))) | quiet_step ((go_at_call 19; exact Calls.ext_of (HP.out _))))
                  refine wpQuiet_nil ?_
                  intro _ hw'
                  obtain ⟨xq, hw''⟩ := hw'
                  subst hw''
                  go_wp2
                  go_roundw
                  case rel => exact rel_sameT hown (by repeat (first | exact Ext.refl' _ | assumption | apply Ext.ex' | apply Ext.al | apply Ext.drN | apply Ext.dr)) fun x' hx' ho' => ⟨k + 1, us, x', by omega, by go_num, by omega, HS2, hx', ho'⟩
                  case measure => simp [intOf]; omega
                · rw [hv] at HP
                  have HS2 := Lib.hid (HST.out true (by simp [hitB, hv]))
                  clear HST hv
                  unfold Own at hown
                  go_wp2_with fail
                  refine wp_region_ext (by kernel_rfl) (by kernel_rfl) ?_
                  repeat (first | go_big_quiet_step ((go_at_call 19; exact Calls.ext_of (HP.out _))) | quiet_step ((go_at_call 19; exact Calls.ext_of (HP.out _))))
                  refine wpQuiet_nil ?_
                  intro _ hw'
                  obtain ⟨xq, hw''⟩ := hw'
                  subst hw''
                  go_wp2_with (first | (at_builtin; refine wpList_app2 _ rfl (.tmp 95) (.tmp 100) rfl elInt w6 (by repeat (first | exact Ext.refl' _ | assumption | apply Ext.ex' | apply Ext.al | apply Ext.drN | apply Ext.dr)) _ us.length (ic us) rfl (ownsRow_ext hown (by repeat (first | exact Ext.refl' _ | assumption | apply Ext.ex' | apply Ext.al | apply Ext.drN | apply Ext.dr))) _ 1 1 [.int .i64 bx.2] rfl (Rd.lit _ _ _ 1 1 rfl (by simp [size_ext])) (by simp [Value.oneCell']) (by unfold maxLen; omega) (by omega) ?_; intro v9 x9 hown9 _ _; have HO9 := Lib.hid hown9; clear hown9))
                  go_roundw
                  case rel => exact ⟨k + 1, us ++ [bx.2], x9, by omega, by go_num, by simp; omega, HS2, rfl, by rw [List.length_append, ic, List.map_append]; exact HO9.out⟩
                  case measure => simp [intOf]; omega
              · have hzb : (bx.2 == z) = false := by simpa using hz
                have HS2 := Lib.hid (HST.out false (by simp [hitB, hz]))
                clear HST hz
                go_wp2_with fail
                refine wp_region_ext (by kernel_rfl) (by kernel_rfl) ?_
                repeat (first | go_big_quiet_step (fail) | quiet_step (fail))
                refine wpQuiet_nil ?_
                intro _ hw'
                obtain ⟨xq, hw''⟩ := hw'
                subst hw''
                go_wp2
                go_roundw
                case rel => exact rel_sameT hown (by repeat (first | exact Ext.refl' _ | assumption | apply Ext.ex' | apply Ext.al | apply Ext.drN | apply Ext.dr)) fun x' hx' ho' => ⟨k + 1, us, x', by omega, by go_num, by omega, HS2, hx', ho'⟩
                case measure => simp [intOf]; omega
            · obtain rfl : k = L.length := by omega
              have HS2 := Lib.hid (HWS.out us HU.out)
              go_wp2
              go_roundw
              case rel => exact rel_sameT hown (by repeat (first | exact Ext.refl' _ | assumption | apply Ext.ex' | apply Ext.al | apply Ext.drN | apply Ext.dr)) fun x' hx' ho' => ⟨i + 1, us, x', by omega, by go_num, by omega, HS2, hx', ho'⟩
              case measure => simp [intOf]; omega
        · obtain rfl : i = ids.length := by omega
          have HG := Lib.hid (show ys = rsF (loE 3 L) r by rw [← HPL.out, HY.out, List.take_length])
          obtain ⟨A7, c7, rfl, hl7, hm7⟩ := Own.form hown
          have hR7 := Rd.of_own hown
          have HSE := Lib.hid fun W h => searchU 3 L (by omega) r (some ab) ((loE 3 L).length : Nat) (rdE 3 L : Nat) W h
          have HGR := Lib.hid fun i (h : i ∈ rsF (loE 3 L) r) b hb hi => got_rov HER.out HND.out h (b := b) hb hi
          have hgl : (rsF (loE 3 L) r).length ≤ 3600 := by rw [← HG.out]; omega
          generalize rsF (loE 3 L) r = gs at HG HSE HGR hgl
          have g0 := Ext.cell' (Ext.ex w6 x) q0
          have g1 := Ext.cell' (Ext.ex w6 x) q1
          have g2 := Ext.cell' (Ext.ex w6 x) q2
          have g3 := Ext.cell' (Ext.ex w6 x) q3
          clear HPL HY hR6
          go_wp2_with fail
          refine Calls.mono (HSE.out _ (HT6.out.ext (by repeat (first | exact Ext.refl' _ | assumption | apply Ext.ex' | apply Ext.al | apply Ext.drN | apply Ext.dr)))) ?_
          rintro en8 w8 ⟨A8, c8, rfl, hE8, hR8⟩
          have hE68 : Ext w6 w8 := (Ext.ex w6 x).tr (Ext.tr (by repeat (first | exact Ext.refl' _ | assumption | apply Ext.ex' | apply Ext.al | apply Ext.drN | apply Ext.dr)) hE8)
          have q0 := hE68.cell' q0
          have q1 := hE68.cell' q1
          have q2 := hE68.cell' q2
          have q3 := hE68.cell' q3
          have hq8 := Nat.lt_of_lt_of_le hq6 hE68.size
          have HR8 := Lib.hid (HR6.out.ext hE68)
          have HR7 := Lib.hid (Rd.ext hR7 (Ext.tr (by repeat (first | exact Ext.refl' _ | assumption | apply Ext.ex' | apply Ext.al | apply Ext.drN | apply Ext.dr)) hE8))
          have HW8 := Lib.hid ((HEW.out.tr HE36.out).tr hE68)
          clear hE8 hE68 hR7 g0 g1 g2 g3 hown HR6 HE36 HEW
          go_wp2_with fail
          go_loopw [15] (fun s15 wr => ∃ i : Nat, i ≤ gs.length ∧ s15 = .int .i64 i ∧ Ext w8 wr) (fun s15 _ => gs.length - (intOf s15).toNat)
          case atStart => exact ⟨0, Nat.zero_le _, rfl, by repeat (first | exact Ext.refl' _ | assumption | apply Ext.ex' | apply Ext.al | apply Ext.drN | apply Ext.dr)⟩
          case round =>
            obtain ⟨i, hi, rfl, hE⟩ := hrel
            obtain ⟨x, rfl⟩ := hE.get
            clear hE
            by_cases hlt : i < gs.length
            · obtain ⟨ib, io, hA, hib, e0⟩ := hR8.int hlt
              subst hA
              have HGZ := Lib.hid fun b hb (hbi : b.2 = gs[i]) => HGR.out gs[i] (List.getElem_mem hlt) b hb hbi
              generalize gs[i] = z at e0 HGZ
              go_wp2_with fail
              go_loopw [16] (fun s16 wr => ∃ k : Nat, k ≤ L.length ∧ s16 = .int .i64 k ∧ Ext w8 wr) (fun s16 _ => L.length - (intOf s16).toNat)
              case atStart => exact ⟨0, Nat.zero_le _, rfl, by repeat (first | exact Ext.refl' _ | assumption | apply Ext.ex' | apply Ext.al | apply Ext.drN | apply Ext.dr)⟩
              case round =>
                obtain ⟨k, hk, rfl, hE⟩ := hrel
                obtain ⟨x, rfl⟩ := hE.get
                clear hE
                by_cases hkl : k < L.length
                · obtain ⟨bb, o, hA, hb, d0, d1, d2, d3, d4⟩ := HR8.out.box rfl hkl
                  subst hA
                  have HGB := Lib.hid (HGZ.out L[k] (List.getElem_mem _))
                  generalize L[k] = bx at d0 d1 d2 d3 d4 HGB
                  by_cases hz : bx.2 = z
                  · have HP := Lib.hid fun W => roverlapsR_any bx.1 r W
                    rw [HGB.out hz] at HP
                    subst hz
                    go_wp2_with fail
                    refine wp_region_ext (by kernel_rfl) (by kernel_rfl) ?_
                    repeat (first | go_big_quiet_step ((go_at_call 21; exact Calls.ext_of (HP.out _))) | quiet_step ((go_at_call 21; exact Calls.ext_of (HP.out _))))
                    refine wpQuiet_nil ?_
                    intro _ hw'
                    obtain ⟨xq, hw''⟩ := hw'
                    subst hw''
                    go_wp2
                    go_roundw
                    case rel => exact ⟨k + 1, by omega, by go_num, by repeat (first | exact Ext.refl' _ | assumption | apply Ext.ex' | apply Ext.al | apply Ext.drN | apply Ext.dr)⟩
                    case measure => simp [intOf]; omega
                  · have hzb : (bx.2 == z) = false := by simpa using hz
                    clear hz
                    go_wp2_with fail
                    refine wp_region_ext (by kernel_rfl) (by kernel_rfl) ?_
                    repeat (first | go_big_quiet_step (fail) | quiet_step (fail))
                    refine wpQuiet_nil ?_
                    intro _ hw'
                    obtain ⟨xq, hw''⟩ := hw'
                    subst hw''
                    go_wp2
                    go_roundw
                    case rel => exact ⟨k + 1, by omega, by go_num, by repeat (first | exact Ext.refl' _ | assumption | apply Ext.ex' | apply Ext.al | apply Ext.drN | apply Ext.dr)⟩
                    case measure => simp [intOf]; omega
                · obtain rfl : k = L.length := by omega
                  go_wp2
                  go_roundw
                  case rel => exact ⟨i + 1, by omega, by go_num, by repeat (first | exact Ext.refl' _ | assumption | apply Ext.ex' | apply Ext.al | apply Ext.drN | apply Ext.dr)⟩
                  case measure => simp [intOf]; omega
            · obtain rfl : i = gs.length := by omega
              have HI := Lib.hid fun W (e : Ext w8 W) => ints02_any A8 A7 c8 c7 gs ys W (hR8.ext e) (HR7.out.ext e) (by omega) (by rw [HG.out]; omega)
              go_wp2_with fail
              refine Calls.mono (HI.out _ (by repeat (first | exact Ext.refl' _ | assumption | apply Ext.ex' | apply Ext.al | apply Ext.drN | apply Ext.dr))) ?_
              rintro en9 w9 ⟨rfl, hb9⟩
              have HB9 := Lib.hid (HW8.out.tr (Ext.tr (by repeat (first | exact Ext.refl' _ | assumption | apply Ext.ex' | apply Ext.al | apply Ext.drN | apply Ext.dr)) hb9))
              obtain ⟨x9, rfl⟩ := hb9.get
              have hgy : decide (gs = ys) = true := decide_eq_true HG.out.symm
              rw [hgy]
              clear hb9 HI
              go_wp2
              go_ret
              exact ⟨rfl, HB9.out.tr (by repeat (first | exact Ext.refl' _ | assumption | apply Ext.ex' | apply Ext.al | apply Ext.drN | apply Ext.dr))⟩

end Go.Proofs.Ytahmkinppighkaa
