/- The reference of access: Choose, SamePath. -/
import Derived.Test.YtgacmpoonmioeaaChu
import Derived.Test.YtgacmpoonmioeaaFru
set_option linter.unusedSimpArgs false
set_option linter.unusedVariables false
namespace Go.Proofs.Ytgacmpoonmioeaa
open Go.RowKit


/-- a path is returned -/
def RPa (p : Pa) (e : Ending) (w' : World) : Prop := ∃ (A : Option Addr) (n c : Nat), e = .returned (.agg #[.int .i64 p.k, .slice A n c, .int .i64 p.v.1, .int .i64 p.v.2, .int .i64 p.s.1, .int .i64 p.s.2]) ∧ Hid (p.key.length = n) ∧ Hid (Rd w' 3 A n (vcs p.key))
theorem RPa.mk {p q : Pa} {w' : World} (A : Option Addr) (n c : Nat) (h : p = q) (hR : Rd w' 3 A n (vcs q.key)) (hn : q.key.length = n := by rfl) : RPa p (.returned (.agg #[.int .i64 q.k, .slice A n c, .int .i64 q.v.1, .int .i64 q.v.2, .int .i64 q.s.1, .int .i64 q.s.2])) w' := by
  subst h
  exact ⟨A, n, c, rfl, Lib.hid hn, Lib.hid hR⟩
theorem RPa.mk2 {p q : Pa} {w' : World} (A : Option Addr) (n c : Nat) (h : p = q) (hn : q.key.length = n) (hR : Rd w' 3 A n (vcs q.key)) : RPa p (.returned (.agg #[.int .i64 q.k, .slice A n c, .int .i64 q.v.1, .int .i64 q.v.2, .int .i64 q.s.1, .int .i64 q.s.2])) w' := RPa.mk A n c h hR hn
theorem requal_n (A : Option Addr) (n c : Nat) (l : List Cd) (k : Int) (w : World) (hn : l.length = n) (hR : Rd w 5 A n (cdc l)) (hl : n ≤ 9223372036854775807) :
    Calls Try.prog 23 #[.slice A n c, .int .i64 k] w fun e w' => e = .returned (eqR (l.find? (isEq k))) ∧ Ext w w' := by
  subst hn
  exact requalC_any A c l k w hR hl
theorem prefF_none {cs : List Cd} {ks : List Int} {j : Nat} {kv : Int} (h : ks[j]? = some kv) (hf : cs.find? (isEq kv) = none) : prefF cs (ks.drop j) = [] := by
  obtain ⟨h1, h2⟩ := List.getElem?_eq_some_iff.1 h
  rw [List.drop_eq_getElem_cons h1, h2, prefF, hf]
theorem prefF_some {cs : List Cd} {ks : List Int} {j : Nat} {kv : Int} {c : Cd} (h : ks[j]? = some kv) (hf : cs.find? (isEq kv) = some c) : prefF cs (ks.drop j) = c.v :: prefF cs (ks.drop (j + 1)) := by
  obtain ⟨h1, h2⟩ := List.getElem?_eq_some_iff.1 h
  rw [List.drop_eq_getElem_cons h1, h2, prefF, hf]
set_option maxRecDepth 100000 in
set_option maxHeartbeats 8000000 in
theorem rchoose_any (s0 : ByteArray) (A1 K A3 A4 : Option Addr) (n1 m1 n2 kc n3 m3 n4 m4 : Nat) (ks : List Int) (o i : Int) (v : Va) (nm : ByteArray) (A : Option Addr) (args : List Ex) (c : Nat) (css : List (List Value)) (k f t : Int) (d : Int × Int) (w : World)
    (hkn : ks.length = n2) (hK : Rd w 1 K n2 (ic ks)) (hkl : n2 ≤ 1048576) (hsz : szs args ≤ 1048576) (hvt : v.t.size ≤ 9223372036854775807) (hnm : nm.size ≤ 9223372036854775807) (hlc : args.length ≤ c) (hR : Rd w 7 A args.length css.flatten) (hs : REs w args css) (hf0 : -9223372036854775808 ≤ f) (hf : f ≤ 1099511627776) (ht0 : -9223372036854775808 ≤ t) (ht : t ≤ 1099511627776) :
    Calls Try.prog 9 #[.agg #[.string s0, .slice A1 n1 m1, .slice K n2 kc, .slice A3 n3 m3, .slice A4 n4 m4], exag o i v nm A args.length c, .agg #[.int .i64 k, .int .i64 f, .int .i64 t], pr d] w fun e w' => RPa (chF (prefF (conds (.mk o i v nm args)) ks) (sysF k f t) d) e w' ∧ Ext w w' := by
  have HKN := Lib.hid hkn
  have HCO : Hid (∀ W, Ext w W → Calls Try.prog 22 #[exag o i v nm A args.length c] W (CDP W (conds (.mk o i v nm args)))) := Lib.hid fun W e => rconditions_any o i v nm A args c css W hsz hvt hnm hlc (hR.ext e) (REs.ext e hs)
  have HS := Lib.hid (fun w => rsystem_any k f t w hf0 hf ht0 ht)
  have HCB : Hid ((conds (.mk o i v nm args)).length ≤ 1048577) := Lib.hid (by
    rw [conds_cjs]
    have h1 := cjs_len (.mk o i v nm args)
    rw [szE] at h1
    exact Nat.le_trans (List.length_filterMap_le _ _) (by omega))
  generalize sysF k f t = s at HS ⊢
  generalize conds (.mk o i v nm args) = cs at HCO HCB ⊢
  clear hkn hsz hvt hnm hlc hR hs hf0 hf ht0 ht
  go_enter Try.func9, Try.ntmps9
  go_wp2_with fail
  refine (HCO.out _ (by repeat (first | exact Ext.refl' _ | assumption | apply Ext.ex' | apply Ext.al | apply Ext.drN | apply Ext.dr))).mono ?_
  rintro e w2 ⟨lA, nl, lc, rfl, HL, HRl, HBl, hb1⟩
  have hE2 : Ext (((((w.alloc (.cells #[.string s0, .slice A1 n1 m1, .slice K n2 kc, .slice A3 n3 m3, .slice A4 n4 m4] 27)).alloc (.cells #[.int .i64 o, .int .i64 i, .int .i64 v.k, .int .i64 v.i, .string v.t, .string nm, .slice A args.length c] 31)).alloc (.cells #[.int .i64 k, .int .i64 f, .int .i64 t] 33)).alloc (.cells #[.int .i64 d.1, .int .i64 d.2] 35)).alloc (.cells #[.int .i64 0, .slice none 0 0, .int .i64 0, .int .i64 0, .int .i64 0, .int .i64 0] 43)) w2 := hb1
  have hEw : Ext w (((((w.alloc (.cells #[.string s0, .slice A1 n1 m1, .slice K n2 kc, .slice A3 n3 m3, .slice A4 n4 m4] 27)).alloc (.cells #[.int .i64 o, .int .i64 i, .int .i64 v.k, .int .i64 v.i, .string v.t, .string nm, .slice A args.length c] 31)).alloc (.cells #[.int .i64 k, .int .i64 f, .int .i64 t] 33)).alloc (.cells #[.int .i64 d.1, .int .i64 d.2] 35)).alloc (.cells #[.int .i64 0, .slice none 0 0, .int .i64 0, .int .i64 0, .int .i64 0, .int .i64 0] 43)) := by repeat (first | exact Ext.refl' _ | assumption | apply Ext.ex' | apply Ext.al | apply Ext.drN | apply Ext.dr)
  have hc2 : World.cell? (((((w.alloc (.cells #[.string s0, .slice A1 n1 m1, .slice K n2 kc, .slice A3 n3 m3, .slice A4 n4 m4] 27)).alloc (.cells #[.int .i64 o, .int .i64 i, .int .i64 v.k, .int .i64 v.i, .string v.t, .string nm, .slice A args.length c] 31)).alloc (.cells #[.int .i64 k, .int .i64 f, .int .i64 t] 33)).alloc (.cells #[.int .i64 d.1, .int .i64 d.2] 35)).alloc (.cells #[.int .i64 0, .slice none 0 0, .int .i64 0, .int .i64 0, .int .i64 0, .int .i64 0] 43)) ⟨w.heap.size, 2, none⟩ = some (.slice K n2 kc) := by simp [go_sem, ↓IntWalk.iteOmega]
  clear hb1 HCO
  go_wp2
  have hEa : Ext (((((w.alloc (.cells #[.string s0, .slice A1 n1 m1, .slice K n2 kc, .slice A3 n3 m3, .slice A4 n4 m4] 27)).alloc (.cells #[.int .i64 o, .int .i64 i, .int .i64 v.k, .int .i64 v.i, .string v.t, .string nm, .slice A args.length c] 31)).alloc (.cells #[.int .i64 k, .int .i64 f, .int .i64 t] 33)).alloc (.cells #[.int .i64 d.1, .int .i64 d.2] 35)).alloc (.cells #[.int .i64 0, .slice none 0 0, .int .i64 0, .int .i64 0, .int .i64 0, .int .i64 0] 43)) (w2.alloc (.cells #[] 29)) := by repeat (first | exact Ext.refl' _ | assumption | apply Ext.ex' | apply Ext.al | apply Ext.drN | apply Ext.dr)
  go_loopg [10, 11, 12, 13] n2 (fun g q ix v12 v13 wr => ∃ (j nq cq : Nat) (Aq : Option Addr) (key : List Va), q = .slice Aq nq cq ∧ ix = .int .i64 j ∧ j ≤ n2 ∧ n2 - j ≤ g ∧ nq ≤ j ∧ Hid (key.length = nq) ∧ Hid (prefF cs ks = key ++ prefF cs (ks.drop j)) ∧ Hid (wr.ownsRow ((((((w.alloc (.cells #[.string s0, .slice A1 n1 m1, .slice K n2 kc, .slice A3 n3 m3, .slice A4 n4 m4] 27)).alloc (.cells #[.int .i64 o, .int .i64 i, .int .i64 v.k, .int .i64 v.i, .string v.t, .string nm, .slice A args.length c] 31)).alloc (.cells #[.int .i64 k, .int .i64 f, .int .i64 t] 33)).alloc (.cells #[.int .i64 d.1, .int .i64 d.2] 35)).alloc (.cells #[.int .i64 0, .slice none 0 0, .int .i64 0, .int .i64 0, .int .i64 0, .int .i64 0] 43))).heap.size 29 3 (.slice Aq nq cq) nq (vcs key)) ∧ Hid (Rd wr 5 lA nl (cdc cs)) ∧ Hid (∀ b q, lA = some ⟨b, q, none⟩ → (Value.slice Aq nq cq).ownBlock ≠ some b ∧ b < wr.heap.size) ∧ Ext (((((w.alloc (.cells #[.string s0, .slice A1 n1 m1, .slice K n2 kc, .slice A3 n3 m3, .slice A4 n4 m4] 27)).alloc (.cells #[.int .i64 o, .int .i64 i, .int .i64 v.k, .int .i64 v.i, .string v.t, .string nm, .slice A args.length c] 31)).alloc (.cells #[.int .i64 k, .int .i64 f, .int .i64 t] 33)).alloc (.cells #[.int .i64 d.1, .int .i64 d.2] 35)).alloc (.cells #[.int .i64 0, .slice none 0 0, .int .i64 0, .int .i64 0, .int .i64 0, .int .i64 0] 43)) wr)
  case atStart =>
    refine ⟨0, 0, 0, _, [], rfl, rfl, by omega, by omega, by omega, Lib.hid rfl, Lib.hid rfl, Lib.hid (own_lit0d _ _ _ (Ext.size' hE2) _ _ (by rfl)), Lib.hid (HRl.out.ext (by repeat (first | exact Ext.refl' _ | assumption | apply Ext.ex' | apply Ext.al | apply Ext.drN | apply Ext.dr))), Lib.hid (fun b q h => ?_), hEa⟩
    obtain ⟨h1, h2⟩ := HBl.out b q h
    refine ⟨fun e => ?_, by simp; omega⟩
    simp only [Value.ownBlock, Option.some.injEq] at e
    omega
  case round =>
    clear HRl hE2 hEa
    obtain ⟨j, nq, cq, Aq, key, rfl, rfl, hj, hg, hnq, HLK, HKY, HO, HRl, HSP, hE⟩ := hrel
    have HG := Lib.hid hg
    clear hg
    have hnlb : nl ≤ 1048577 := by have := HCB.out; have := HL.out; omega
    by_cases hlt : j < n2
    · have hjz : (j : Int) < (n2 : Int) := by omega
      obtain ⟨kv, b0, o0, hkv, hKe, hb0, p0⟩ := (hK.ext (hEw.tr hE)).in1 HKN.out hlt
      have hK2 : wr.cell? ⟨w.heap.size, 2, none⟩ = some (.slice K n2 kc) := hE.cell' hc2
      have hbw : w.heap.size < wr.heap.size := Nat.lt_of_lt_of_le (by simp; omega) hE.size
      have HEQ : Hid (∀ W, Ext wr W → Calls Try.prog 23 #[.slice lA nl lc, .int .i64 kv] W fun e w' => e = .returned (eqR (cs.find? (isEq kv))) ∧ Ext W w') := Lib.hid fun W e => requal_n lA nl lc cs kv W HL.out (HRl.out.ext e) (by omega)
      rcases hfd : cs.find? (isEq kv) with _ | cd
      · rw [hfd] at HEQ
        have HKEY : Hid (prefF cs ks = key) := Lib.hid (by rw [HKY.out, prefF_none hkv hfd, List.append_nil])
        clear hfd hkv HKY
        have HEQ2 : Hid (∀ W, Ext wr W → Calls Try.prog 23 #[.slice lA nl lc, .int .i64 kv] W fun e w' => e = .returned (.tuple #[.agg #[.int .i64 0, .int .i64 0, .string ⟨#[]⟩], .bool false]) ∧ Ext W w') := HEQ
        subst hKe
        go_wp2_with fail
        refine (HEQ2.out _ (by repeat (first | exact Ext.refl' _ | assumption | apply Ext.ex' | apply Ext.al | apply Ext.drN | apply Ext.dr))).mono ?_
        rintro e w3 ⟨rfl, hb1⟩
        obtain ⟨x1, rfl⟩ := hb1.get
        clear hb1
        clear hK2 hbw p0
        have hkk := HKEY.out
        subst hkk
        obtain ⟨x, rfl⟩ := hE.get
        rcases Nat.eq_zero_or_pos nq with h0 | h0
        · have hke : prefF cs ks = [] := List.eq_nil_of_length_eq_zero (by rw [HLK.out]; exact h0)
          have HKE := Lib.hid hke
          clear hke
          subst h0
          clear HO HLK HSP HRl
          rcases (show (pvB s = false) ∨ (pvB s = true ∧ ¬ (s.1 = 0 ∧ s.2 = 1099511627776)) ∨ (pvB s = true ∧ (s.1 = 0 ∧ s.2 = 1099511627776) ∧ ¬ (d.1 = 0 ∧ d.2 = 1099511627776)) ∨ (pvB s = true ∧ (s.1 = 0 ∧ s.2 = 1099511627776) ∧ (d.1 = 0 ∧ d.2 = 1099511627776)) from by
            rcases hq : pvB s with _ | _ <;> simp <;> omega) with h1 | ⟨h1, h2⟩ | ⟨h1, h2, h3⟩ | ⟨h1, h2, h3⟩
          · have HC : Hid (chF (prefF cs ks) s d = ⟨0, [], (0, 0), (0, 0)⟩) := Lib.hid (by rw [HKE.out]; simp [chF, h1])
            go_wp2_with (first
                | (go_at_call 24; (refine (HS.out _).mono ?_; rintro e w1 ⟨rfl, hb1⟩; obtain ⟨xs, rfl⟩ := hb1.get; clear hb1))
                | (go_at_call 15; (refine (rvalid_any s _).mono ?_; rintro e w1 ⟨rfl, hb1⟩; obtain ⟨xv, rfl⟩ := hb1.get; clear hb1)))
            refine bodyPost_ret ?_ rfl ⟨RPa.mk none 0 0 HC.out Rd.nil, by repeat (first | exact Ext.refl' _ | assumption | apply Ext.ex' | apply Ext.al | apply Ext.drN | apply Ext.dr)⟩
            simp [results, Try.results9, go_sem, ↓IntWalk.iteOmega]
          · have HC : Hid (chF (prefF cs ks) s d = ⟨3, [], d, s⟩) := Lib.hid (by rw [HKE.out]; simp [chF, h1, h2])
            have f0 : (!s.1 == 0 || !s.2 == 1099511627776) = true := by (rcases Decidable.em (s.1 = 0) with a | a <;> rcases Decidable.em (s.2 = 1099511627776) with b | b <;> simp_all)
            clear h2
            go_wp2_with (first
                | (go_at_call 24; (refine (HS.out _).mono ?_; rintro e w1 ⟨rfl, hb1⟩; obtain ⟨xs, rfl⟩ := hb1.get; clear hb1))
                | (go_at_call 15; (refine (rvalid_any s _).mono ?_; rintro e w1 ⟨rfl, hb1⟩; obtain ⟨xv, rfl⟩ := hb1.get; clear hb1)))
            refine bodyPost_ret ?_ rfl ⟨RPa.mk none 0 0 HC.out Rd.nil, by repeat (first | exact Ext.refl' _ | assumption | apply Ext.ex' | apply Ext.al | apply Ext.drN | apply Ext.dr)⟩
            simp [results, Try.results9, go_sem, ↓IntWalk.iteOmega]
          · have HC : Hid (chF (prefF cs ks) s d = ⟨2, [], d, (0, 0)⟩) := Lib.hid (by rw [HKE.out]; simp [chF, h1, h2, h3])
            have f0 : (s.1 == 0) = true := by simp [h2.1]
            have f1 : (s.2 == 1099511627776) = true := by simp [h2.2]
            have f2 : (!d.1 == 0 || !d.2 == 1099511627776) = true := by (rcases Decidable.em (d.1 = 0) with a | a <;> rcases Decidable.em (d.2 = 1099511627776) with b | b <;> simp_all)
            clear h2 h3
            go_wp2_with (first
                | (go_at_call 24; (refine (HS.out _).mono ?_; rintro e w1 ⟨rfl, hb1⟩; obtain ⟨xs, rfl⟩ := hb1.get; clear hb1))
                | (go_at_call 15; (refine (rvalid_any s _).mono ?_; rintro e w1 ⟨rfl, hb1⟩; obtain ⟨xv, rfl⟩ := hb1.get; clear hb1)))
            refine bodyPost_ret ?_ rfl ⟨RPa.mk none 0 0 HC.out Rd.nil, by repeat (first | exact Ext.refl' _ | assumption | apply Ext.ex' | apply Ext.al | apply Ext.drN | apply Ext.dr)⟩
            simp [results, Try.results9, go_sem, ↓IntWalk.iteOmega]
          · have HC : Hid (chF (prefF cs ks) s d = ⟨0, [], (0, 0), (0, 0)⟩) := Lib.hid (by rw [HKE.out]; simp [chF, h1, h2, h3])
            have f0 : (s.1 == 0) = true := by simp [h2.1]
            have f1 : (s.2 == 1099511627776) = true := by simp [h2.2]
            have f2 : (d.1 == 0) = true := by simp [h3.1]
            have f3 : (d.2 == 1099511627776) = true := by simp [h3.2]
            clear h2 h3
            go_wp2_with (first
                | (go_at_call 24; (refine (HS.out _).mono ?_; rintro e w1 ⟨rfl, hb1⟩; obtain ⟨xs, rfl⟩ := hb1.get; clear hb1))
                | (go_at_call 15; (refine (rvalid_any s _).mono ?_; rintro e w1 ⟨rfl, hb1⟩; obtain ⟨xv, rfl⟩ := hb1.get; clear hb1)))
            refine bodyPost_ret ?_ rfl ⟨RPa.mk none 0 0 HC.out Rd.nil, by repeat (first | exact Ext.refl' _ | assumption | apply Ext.ex' | apply Ext.al | apply Ext.drN | apply Ext.dr)⟩
            simp [results, Try.results9, go_sem, ↓IntWalk.iteOmega]
        · have HC : Hid (chF (prefF cs ks) s d = ⟨1, prefF cs ks, (0, 0), (0, 0)⟩) := Lib.hid (by
            have hne : prefF cs ks ≠ [] := fun h => by have h2 := HLK.out; rw [h] at h2; simp at h2; omega
            simp [chF, hne])
          have h0z : (0 : Int) < (nq : Int) := by omega
          have HKL := HLK
          go_wp2_with (first
            | (go_at_call 24; (refine (HS.out _).mono ?_; rintro e w1 ⟨rfl, hb1⟩; obtain ⟨xs, rfl⟩ := hb1.get; clear hb1))
            | (go_at_call 15; (refine (rvalid_any s _).mono ?_; rintro e w1 ⟨rfl, hb1⟩; obtain ⟨xv, rfl⟩ := hb1.get; clear hb1)))
          refine bodyPost_ret ?_ rfl ⟨RPa.mk2 Aq nq cq HC.out HKL.out ((Rd.of_own (own_base (W' := ?Wz8) HO.out ?hsz8)).ext ?hx8), by repeat (first | exact Ext.refl' _ | assumption | apply Ext.ex' | apply Ext.al | apply Ext.drN | apply Ext.dr)⟩
          case hx8 => (repeat (first | exact Ext.refl' _ | assumption | apply Ext.ex' | apply Ext.al | apply Ext.drN | apply Ext.dr))
          case hsz8 => simp
          simp [results, Try.results9, go_sem, ↓IntWalk.iteOmega]
      · rw [hfd] at HEQ
        have HKY2 : Hid (prefF cs ks = (key ++ [cd.v]) ++ prefF cs (ks.drop (j + 1))) := Lib.hid (by rw [HKY.out, prefF_some hkv hfd, List.append_assoc]; rfl)
        clear hfd hkv HKY
        have HEQ2 : Hid (∀ W, Ext wr W → Calls Try.prog 23 #[.slice lA nl lc, .int .i64 kv] W fun e w' => e = .returned (.tuple #[vag cd.v, .bool true]) ∧ Ext W w') := HEQ
        subst hKe
        go_wp2_with fail
        refine (HEQ2.out _ (by repeat (first | exact Ext.refl' _ | assumption | apply Ext.ex' | apply Ext.al | apply Ext.drN | apply Ext.dr))).mono ?_
        rintro e w3 ⟨rfl, hb1⟩
        obtain ⟨x1, rfl⟩ := hb1.get
        clear hb1
        go_wp2_with (at_builtin; (refine wpList_app2 _ rfl (.tmp 38) (.tmp 40) rfl elVal (((((w.alloc (.cells #[.string s0, .slice A1 n1 m1, .slice (some ⟨b0, o0, none⟩) n2 kc, .slice A3 n3 m3, .slice A4 n4 m4] 27)).alloc (.cells #[.int .i64 o, .int .i64 i, .int .i64 v.k, .int .i64 v.i, .string v.t, .string nm, .slice A args.length c] 31)).alloc (.cells #[.int .i64 k, .int .i64 f, .int .i64 t] 33)).alloc (.cells #[.int .i64 d.1, .int .i64 d.2] 35)).alloc (.cells #[.int .i64 0, .slice none 0 0, .int .i64 0, .int .i64 0, .int .i64 0, .int .i64 0] 43)) (by repeat (first | exact Ext.refl' _ | assumption | apply Ext.ex' | apply Ext.al | apply Ext.drN | apply Ext.dr)) _ nq _ rfl (ownsRow_ext11 HO.out (by repeat (first | exact Ext.refl' _ | assumption | apply Ext.ex' | apply Ext.al | apply Ext.drN | apply Ext.dr))) _ 1 1 (vcs [cd.v]) rfl (Rd.lit _ #[.int .i64 cd.v.k, .int .i64 cd.v.i, .string cd.v.t] _ 1 3 rfl (by simp [size_ext])) (oneCell_vcs [cd.v]) (by unfold maxLen; omega) (by omega) ?_; intro v1 x4 ho1 hg1 hbk1; have HRl2 := Lib.hid (Rd.grown (HRl.out.ext (by repeat (first | exact Ext.refl' _ | assumption | apply Ext.ex' | apply Ext.al | apply Ext.drN | apply Ext.dr))) hg1 (fun b q h => (HSP.out b q h).1)); have HSZ2 := Lib.hid hg1.size; have HBK := Lib.hid hbk1; clear hg1 hbk1))
        obtain ⟨Aq4, cq4, rfl, hd1, hd2⟩ := Own.form ho1
        have HO4 := Lib.hid ho1
        clear ho1
        have HSP2 : Hid (∀ b q, lA = some ⟨b, q, none⟩ → (Value.slice Aq4 (nq + 1) cq4).ownBlock ≠ some b ∧ b < (ext (((((w.alloc (.cells #[.string s0, .slice A1 n1 m1, .slice (some ⟨b0, o0, none⟩) n2 kc, .slice A3 n3 m3, .slice A4 n4 m4] 27)).alloc (.cells #[.int .i64 o, .int .i64 i, .int .i64 v.k, .int .i64 v.i, .string v.t, .string nm, .slice A args.length c] 31)).alloc (.cells #[.int .i64 k, .int .i64 f, .int .i64 t] 33)).alloc (.cells #[.int .i64 d.1, .int .i64 d.2] 35)).alloc (.cells #[.int .i64 0, .slice none 0 0, .int .i64 0, .int .i64 0, .int .i64 0, .int .i64 0] 43)) x4).heap.size) := Lib.hid fun b q h => by
          obtain ⟨h1, h2⟩ := HSP.out b q h
          have h3 := HSZ2.out
          simp only [size_ext, World.size_alloc] at h3
          refine ⟨fun hv => ?_, by simp only [size_ext, World.size_alloc]; omega⟩
          rcases HBK.out b hv with h4 | h4
          · exact h1 h4
          · simp only [size_ext, World.size_alloc] at h4
            omega
        go_wp2
        go_roundg (gk - 1)
        case rel => exact ⟨j + 1, nq + 1, cq4, Aq4, key ++ [cd.v], rfl, by go_num, by omega, by have := HG.out; omega, by omega, Lib.hid (by rw [List.length_append, HLK.out]; rfl), HKY2, Lib.hid (by rw [show vcs (key ++ [cd.v]) = vcs key ++ vcs [cd.v] from List.flatMap_append]; exact HO4.out), HRl2, HSP2, by repeat (first | exact Ext.refl' _ | assumption | apply Ext.ex' | apply Ext.al | apply Ext.drN | apply Ext.dr)⟩
        case measure => have := HG.out; omega
    · have hjz : ¬ ((j : Int) < (n2 : Int)) := by omega
      have hK2 : wr.cell? ⟨w.heap.size, 2, none⟩ = some (.slice K n2 kc) := hE.cell' hc2
      have hbw : w.heap.size < wr.heap.size := Nat.lt_of_lt_of_le (by simp; omega) hE.size
      have HKEY : Hid (prefF cs ks = key) := Lib.hid (by
        have h := HKY.out
        rw [List.drop_eq_nil_of_le (by have := HKN.out; omega), prefF, List.append_nil] at h
        exact h)
      clear HKY hK2 hbw
      have hkk := HKEY.out
      subst hkk
      obtain ⟨x, rfl⟩ := hE.get
      rcases Nat.eq_zero_or_pos nq with h0 | h0
      · have hke : prefF cs ks = [] := List.eq_nil_of_length_eq_zero (by rw [HLK.out]; exact h0)
        have HKE := Lib.hid hke
        clear hke
        subst h0
        clear HO HLK HSP HRl
        rcases (show (pvB s = false) ∨ (pvB s = true ∧ ¬ (s.1 = 0 ∧ s.2 = 1099511627776)) ∨ (pvB s = true ∧ (s.1 = 0 ∧ s.2 = 1099511627776) ∧ ¬ (d.1 = 0 ∧ d.2 = 1099511627776)) ∨ (pvB s = true ∧ (s.1 = 0 ∧ s.2 = 1099511627776) ∧ (d.1 = 0 ∧ d.2 = 1099511627776)) from by
          rcases hq : pvB s with _ | _ <;> simp <;> omega) with h1 | ⟨h1, h2⟩ | ⟨h1, h2, h3⟩ | ⟨h1, h2, h3⟩
        · have HC : Hid (chF (prefF cs ks) s d = ⟨0, [], (0, 0), (0, 0)⟩) := Lib.hid (by rw [HKE.out]; simp [chF, h1])
          go_wp2_with (first
              | (go_at_call 24; (refine (HS.out _).mono ?_; rintro e w1 ⟨rfl, hb1⟩; obtain ⟨xs, rfl⟩ := hb1.get; clear hb1))
              | (go_at_call 15; (refine (rvalid_any s _).mono ?_; rintro e w1 ⟨rfl, hb1⟩; obtain ⟨xv, rfl⟩ := hb1.get; clear hb1)))
          refine bodyPost_ret ?_ rfl ⟨RPa.mk none 0 0 HC.out Rd.nil, by repeat (first | exact Ext.refl' _ | assumption | apply Ext.ex' | apply Ext.al | apply Ext.drN | apply Ext.dr)⟩
          simp [results, Try.results9, go_sem, ↓IntWalk.iteOmega]
        · have HC : Hid (chF (prefF cs ks) s d = ⟨3, [], d, s⟩) := Lib.hid (by rw [HKE.out]; simp [chF, h1, h2])
          have f0 : (!s.1 == 0 || !s.2 == 1099511627776) = true := by (rcases Decidable.em (s.1 = 0) with a | a <;> rcases Decidable.em (s.2 = 1099511627776) with b | b <;> simp_all)
          clear h2
          go_wp2_with (first
              | (go_at_call 24; (refine (HS.out _).mono ?_; rintro e w1 ⟨rfl, hb1⟩; obtain ⟨xs, rfl⟩ := hb1.get; clear hb1))
              | (go_at_call 15; (refine (rvalid_any s _).mono ?_; rintro e w1 ⟨rfl, hb1⟩; obtain ⟨xv, rfl⟩ := hb1.get; clear hb1)))
          refine bodyPost_ret ?_ rfl ⟨RPa.mk none 0 0 HC.out Rd.nil, by repeat (first | exact Ext.refl' _ | assumption | apply Ext.ex' | apply Ext.al | apply Ext.drN | apply Ext.dr)⟩
          simp [results, Try.results9, go_sem, ↓IntWalk.iteOmega]
        · have HC : Hid (chF (prefF cs ks) s d = ⟨2, [], d, (0, 0)⟩) := Lib.hid (by rw [HKE.out]; simp [chF, h1, h2, h3])
          have f0 : (s.1 == 0) = true := by simp [h2.1]
          have f1 : (s.2 == 1099511627776) = true := by simp [h2.2]
          have f2 : (!d.1 == 0 || !d.2 == 1099511627776) = true := by (rcases Decidable.em (d.1 = 0) with a | a <;> rcases Decidable.em (d.2 = 1099511627776) with b | b <;> simp_all)
          clear h2 h3
          go_wp2_with (first
              | (go_at_call 24; (refine (HS.out _).mono ?_; rintro e w1 ⟨rfl, hb1⟩; obtain ⟨xs, rfl⟩ := hb1.get; clear hb1))
              | (go_at_call 15; (refine (rvalid_any s _).mono ?_; rintro e w1 ⟨rfl, hb1⟩; obtain ⟨xv, rfl⟩ := hb1.get; clear hb1)))
          refine bodyPost_ret ?_ rfl ⟨RPa.mk none 0 0 HC.out Rd.nil, by repeat (first | exact Ext.refl' _ | assumption | apply Ext.ex' | apply Ext.al | apply Ext.drN | apply Ext.dr)⟩
          simp [results, Try.results9, go_sem, ↓IntWalk.iteOmega]
        · have HC : Hid (chF (prefF cs ks) s d = ⟨0, [], (0, 0), (0, 0)⟩) := Lib.hid (by rw [HKE.out]; simp [chF, h1, h2, h3])
          have f0 : (s.1 == 0) = true := by simp [h2.1]
          have f1 : (s.2 == 1099511627776) = true := by simp [h2.2]
          have f2 : (d.1 == 0) = true := by simp [h3.1]
          have f3 : (d.2 == 1099511627776) = true := by simp [h3.2]
          clear h2 h3
          go_wp2_with (first
              | (go_at_call 24; (refine (HS.out _).mono ?_; rintro e w1 ⟨rfl, hb1⟩; obtain ⟨xs, rfl⟩ := hb1.get; clear hb1))
              | (go_at_call 15; (refine (rvalid_any s _).mono ?_; rintro e w1 ⟨rfl, hb1⟩; obtain ⟨xv, rfl⟩ := hb1.get; clear hb1)))
          refine bodyPost_ret ?_ rfl ⟨RPa.mk none 0 0 HC.out Rd.nil, by repeat (first | exact Ext.refl' _ | assumption | apply Ext.ex' | apply Ext.al | apply Ext.drN | apply Ext.dr)⟩
          simp [results, Try.results9, go_sem, ↓IntWalk.iteOmega]
      · have HC : Hid (chF (prefF cs ks) s d = ⟨1, prefF cs ks, (0, 0), (0, 0)⟩) := Lib.hid (by
          have hne : prefF cs ks ≠ [] := fun h => by have h2 := HLK.out; rw [h] at h2; simp at h2; omega
          simp [chF, hne])
        have h0z : (0 : Int) < (nq : Int) := by omega
        have HKL := HLK
        go_wp2_with (first
          | (go_at_call 24; (refine (HS.out _).mono ?_; rintro e w1 ⟨rfl, hb1⟩; obtain ⟨xs, rfl⟩ := hb1.get; clear hb1))
          | (go_at_call 15; (refine (rvalid_any s _).mono ?_; rintro e w1 ⟨rfl, hb1⟩; obtain ⟨xv, rfl⟩ := hb1.get; clear hb1)))
        refine bodyPost_ret ?_ rfl ⟨RPa.mk2 Aq nq cq HC.out HKL.out ((Rd.of_own (own_base (W' := ?Wz6) HO.out ?hsz6)).ext ?hx6), by repeat (first | exact Ext.refl' _ | assumption | apply Ext.ex' | apply Ext.al | apply Ext.drN | apply Ext.dr)⟩
        case hx6 => (repeat (first | exact Ext.refl' _ | assumption | apply Ext.ex' | apply Ext.al | apply Ext.drN | apply Ext.dr))
        case hsz6 => simp
        simp [results, Try.results9, go_sem, ↓IntWalk.iteOmega]

end Go.Proofs.Ytgacmpoonmioeaa
