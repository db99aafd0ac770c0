/- The law's small functions. -/
import Derived.Test.YtdmbgimehepfaaaBtKc
import Derived.Test.YtdmbgimehepfaaaBtRa
import Derived.Test.YtdmbgimehepfaaaGop
import Derived.Deep.LoopGhost
set_option linter.unusedSimpArgs false
set_option linter.unusedVariables false
namespace Go.Proofs.Ytdmbgimehepfaaa
open Go.RowKit


theorem Mu.tr {base : Nat} {w w1 w2 : World} (h : Mu base w w1) (k : Mu base w1 w2) : Mu base w w2 := by
  obtain ⟨S, h⟩ := h
  obtain ⟨T, k⟩ := k
  refine ⟨S ++ T, k.os.trans h.os, k.tape.trans h.tape, k.output.trans h.output, Nat.le_trans h.size k.size, fun b hb hn => ?_, fun b hb hl => ?_, fun b hb c ty f he => ?_⟩
  · rw [List.mem_append] at hn
    exact (k.same b (Nat.lt_of_lt_of_le hb h.size) fun x => hn (.inr x)).trans (h.same b hb fun x => hn (.inl x))
  · rcases List.mem_append.1 hb with hb | hb
    · exact h.old b hb hl
    · exact k.old b hb (Nat.lt_of_lt_of_le hl h.size)
  · by_cases hs : b ∈ S
    · exact h.typ b hs c ty f he
    · exact k.typ b ((List.mem_append.1 hb).resolve_left hs) c ty f (h.block he hs)
def DoP (base : Nat) (w : World) (tb m : Nat) (ks : List Kp) (e : Ending) (w' : World) : Prop := ∃ v', e = .returned (.tuple #[v', .bool true]) ∧ TK base w' tb m ks ∧ RK base w' v' ks ∧ Mu base w w'
set_option maxRecDepth 100000 in
set_option maxHeartbeats 4000000 in
theorem do_any (base m tb : Nat) (ks : List Kp) (v : Value) (kd : Int) (A : Option Addr) (c : Nat) (K : List Va) (id : Int) (w : World) (hm : 2 ≤ m) (hm2 : m ≤ 64) (hbw : base ≤ w.heap.size) (hT : TK base w tb m ks) (hX : RK base w v ks) (hR : Rd w 3 A K.length (vcl K)) (hK : K.length ≤ 1048576) (hnil : A = none → K.length = 0 ∧ c = 0) (hll : ks.length < 1048576) (hid : -9223372036854775808 ≤ id) :
    Calls Try.prog 20 #[pt tb, v, .agg #[.int .i64 kd, .slice A K.length c, .int .i64 id]] w (DoP base w tb m (if kd = 0 then putK ks (K, id) else delK ks (K, id))) := by
  by_cases hk : kd = 0
  · have HR1 : Hid (∀ W, Ext w W → Calls Try.prog 44 #[v, .slice A K.length c, .int .i64 id] W (RPk base W (!hasK ks (K, id)) (putK ks (K, id)))) := Lib.hid fun W e => rput_k base v ks A c K id W (Nat.le_trans hbw e.size) (hX.ext e) hll (hR.ext e) hK
    have HT1 : Hid (∀ W, Ext w W → Calls Try.prog 10 #[pt tb, .slice A K.length c, .int .i64 id] W (TPk base W tb m (!hasK ks (K, id)) (putK ks (K, id)))) := Lib.hid fun W e => put_k base m tb ks A c K id W hm hm2 (Nat.le_trans hbw e.size) (hT.ext e) (hR.ext e) hK hnil hll hid
    rw [if_pos hk]
    clear hT hX hR hnil hbw
    go_enter Try.func20, Try.ntmps20
    go_wp2_with fail
    refine Calls.mono (HR1.out _ (by repeat (first | exact Ext.refl' _ | assumption | apply Ext.ex' | apply Ext.al | apply Ext.drN | apply Ext.dr))) ?_
    rintro e w1 ⟨v1, rfl, hx1, hb1⟩
    obtain ⟨x1, rfl⟩ := hb1.get
    clear hb1
    have HX1 := Lib.hid hx1
    clear hx1
    go_wp2_with (go_at_call 10; refine Calls.mono (HT1.out _ (by repeat (first | exact Ext.refl' _ | assumption | apply Ext.ex' | apply Ext.al | apply Ext.drN | apply Ext.dr))) ?_; rintro e w2 ⟨rfl, hx2, hb2⟩; have HX2 := Lib.hid hx2; have HM2 := Lib.hid hb2; clear hx2 hb2)
    go_ret2
    exact ⟨_, rfl, HX2.out, HX1.out.mu HM2.out, (Mu.ofExt (by repeat (first | exact Ext.refl' _ | assumption | apply Ext.ex' | apply Ext.al | apply Ext.drN | apply Ext.dr))).tr HM2.out⟩
  · have HR1 : Hid (∀ W, Ext w W → Calls Try.prog 45 #[v, .slice A K.length c, .int .i64 id] W (RPk base W (hasK ks (K, id)) (delK ks (K, id)))) := Lib.hid fun W e => rdel_k base v ks A c K id W (Nat.le_trans hbw e.size) (hX.ext e) (hR.ext e) hK
    have HT1 : Hid (∀ W, Ext w W → Calls Try.prog 11 #[pt tb, .slice A K.length c, .int .i64 id] W (TPk base W tb m (hasK ks (K, id)) (delK ks (K, id)))) := Lib.hid fun W e => del_k base m tb ks A c K id W hm hm2 (Nat.le_trans hbw e.size) (hT.ext e) (hR.ext e) hK 
    rw [if_neg hk]
    clear hT hX hR hnil hbw
    go_enter Try.func20, Try.ntmps20
    go_wp2_with fail
    refine Calls.mono (HR1.out _ (by repeat (first | exact Ext.refl' _ | assumption | apply Ext.ex' | apply Ext.al | apply Ext.drN | apply Ext.dr))) ?_
    rintro e w1 ⟨v1, rfl, hx1, hb1⟩
    obtain ⟨x1, rfl⟩ := hb1.get
    clear hb1
    have HX1 := Lib.hid hx1
    clear hx1
    go_wp2_with (go_at_call 11; refine Calls.mono (HT1.out _ (by repeat (first | exact Ext.refl' _ | assumption | apply Ext.ex' | apply Ext.al | apply Ext.drN | apply Ext.dr))) ?_; rintro e w2 ⟨rfl, hx2, hb2⟩; have HX2 := Lib.hid hx2; have HM2 := Lib.hid hb2; clear hx2 hb2)
    go_ret2
    exact ⟨_, rfl, HX2.out, HX1.out.mu HM2.out, (Mu.ofExt (by repeat (first | exact Ext.refl' _ | assumption | apply Ext.ex' | apply Ext.al | apply Ext.drN | apply Ext.dr))).tr HM2.out⟩


/-- an operation, as the law is given it -/
structure OpV where
  kd : Int
  k : Sl Va
  id : Int
def opc (o : OpV) : List Value := [.int .i64 o.kd, .slice o.k.A o.k.l.length o.k.c, .int .i64 o.id]
def opl (l : List OpV) : List Value := l.flatMap opc
abbrev opv (o : OpV) : Value := .agg #[.int .i64 o.kd, .slice o.k.A o.k.l.length o.k.c, .int .i64 o.id]
structure KeyOk (w : World) (s : Sl Va) : Prop where
  rd : Rd w 3 s.A s.l.length (vcl s.l)
  len : s.l.length ≤ maxLen
  txt : ∀ v ∈ s.l, v.t.size ≤ maxLen
  nil : s.A = none → s.l.length = 0 ∧ s.c = 0
structure OpOk (w : World) (o : OpV) : Prop where
  k : KeyOk w o.k
  id : -9223372036854775808 ≤ o.id
theorem KeyOk.ext {w w' : World} {s : Sl Va} (h : KeyOk w s) (e : Ext w w') : KeyOk w' s := ⟨h.rd.ext e, h.len, h.txt, h.nil⟩
theorem OpOk.ext {w w' : World} {o : OpV} (h : OpOk w o) (e : Ext w w') : OpOk w' o := ⟨h.k.ext e, h.id⟩
theorem Rd.op {w : World} {A : Option Addr} {l : List OpV} {n : Nat} (h : Rd w 3 A n (opl l)) (hn : n = l.length) {k : Nat} (hk : k < l.length) :
    ∃ b o, A = some ⟨b, o, none⟩ ∧ b < w.heap.size ∧ w.cell? ⟨b, o + k * 3, none⟩ = some (.int .i64 l[k].kd) ∧ w.cell? ⟨b, o + k * 3 + 1, none⟩ = some (.slice l[k].k.A l[k].k.l.length l[k].k.c) ∧ w.cell? ⟨b, o + k * 3 + 2, none⟩ = some (.int .i64 l[k].id) := by
  obtain ⟨b, o, hA, hb, hc⟩ := h.2 (by omega)
  have f := fun j hj => fmv_get opc 3 (fun _ => rfl) l k hk j hj
  exact ⟨b, o, hA, hb, hc _ _ (f 0 (by omega)), hc _ _ (f 1 (by omega)), hc _ _ (f 2 (by omega))⟩
def SmP (l : List OpV) : Prop := l.length ≤ 150 ∧ ∀ o ∈ l, o.k.l.length ≤ 12
theorem valid_k (s : Sl Va) (w : World) (h : KeyOk w s) : Calls Try.prog 23 #[.slice s.A s.l.length s.c] w fun e w' => RBp (s.l.length ≤ 12) e ∧ Ext w w' :=
  valid_any s.A s.c s.l w h.rd (by have := h.len; unfold maxLen at this; omega) (fun v hv => by have := h.txt v hv; unfold maxLen at this; omega)
set_option maxRecDepth 100000 in
set_option maxHeartbeats 4000000 in
theorem small_any (A : Option Addr) (c : Nat) (l : List OpV) (w : World) (hR : Rd w 3 A l.length (opl l)) (hl : l.length ≤ maxLen) (ho : ∀ o ∈ l, OpOk w o) :
    Calls Try.prog 19 #[.slice A l.length c] w fun e w' => RBp (SmP l) e ∧ Ext w w' := by
  have HO := Lib.hid ho
  obtain ⟨n, hn⟩ : ∃ n, l.length = n := ⟨_, rfl⟩
  have HN := Lib.hid hn
  rw [hn] at hR hl ⊢
  unfold maxLen at hl
  clear hn ho
  by_cases h150 : n ≤ 150
  · have h150z : ¬ ((150 : Int) < (n : Int)) := by omega
    have H150 := Lib.hid h150
    go_enter Try.func19, Try.ntmps19
    go_wp2
    go_loopg [4, 10] n (fun g v x wr => ∃ k : Nat, x = .int .i64 k ∧ k ≤ n ∧ n - k ≤ g ∧ Hid (∀ o ∈ l.take k, o.k.l.length ≤ 12) ∧ Ext w wr)
    case atStart => exact ⟨0, rfl, by omega, by omega, Lib.hid (by simp), Ext.refl' _⟩
    case round =>
      obtain ⟨k, rfl, hk, hg, HA, hE⟩ := hrel
      have HG := Lib.hid hg
      clear hg
      by_cases hlt : k < n
      · obtain ⟨o, hq⟩ : ∃ o, l[k]? = some o := ⟨_, List.getElem?_eq_getElem (by have := HN.out; omega)⟩
        obtain ⟨pb, po, rfl, hpb, q0, q1, q2⟩ := (hR.ext hE).op HN.out.symm (by have := HN.out; omega : k < l.length)
        have hqq : l[k]'(by have := HN.out; omega) = o := (List.getElem?_eq_some_iff.1 hq).2
        rw [hqq] at q0 q1 q2
        have HV : Hid (∀ W, Ext wr W → Calls Try.prog 23 #[.slice o.k.A o.k.l.length o.k.c] W fun e w' => RBp (o.k.l.length ≤ 12) e ∧ Ext W w') := Lib.hid fun W e => valid_k o.k W ((HO.out o (List.mem_of_getElem? hq)).k.ext (hE.tr e))
        have HTK : Hid (l.take (k + 1) = l.take k ++ [o]) := Lib.hid (by
          obtain ⟨h1, h2⟩ := List.getElem?_eq_some_iff.1 hq
          rw [List.take_succ_eq_append_getElem h1, h2])
        have hkz : (k : Int) < (n : Int) := by omega
        clear hqq hq
        go_wp2_with fail
        refine Calls.mono (HV.out _ (by repeat (first | exact Ext.refl' _ | assumption | apply Ext.ex' | apply Ext.al | apply Ext.drN | apply Ext.dr))) ?_
        rintro e w1 ⟨⟨b, rfl, hb⟩, hb1⟩
        obtain ⟨x1, rfl⟩ := hb1.get
        clear hb1
        have HBB := Lib.hid hb
        clear hb
        cases b
        · go_wp2
          go_ret
          exact ⟨RBp.mk false rfl (fun h => by cases h), hE.tr (by repeat (first | exact Ext.refl' _ | assumption | apply Ext.ex' | apply Ext.al | apply Ext.drN | apply Ext.dr))⟩
        · go_wp2
          go_roundg (gk - 1)
          case rel => exact ⟨k + 1, by go_num, by omega, by have := HG.out; omega, Lib.hid (by
            intro x hx
            rw [HTK.out] at hx
            rcases List.mem_append.1 hx with hx | hx
            · exact HA.out x hx
            · simp at hx; subst hx; first | exact HBB.out rfl | exact HBB.out trivial), hE.tr (by repeat (first | exact Ext.refl' _ | assumption | apply Ext.ex' | apply Ext.al | apply Ext.drN | apply Ext.dr))⟩
          case measure => have := HG.out; omega
      · have hkz : ¬ ((k : Int) < (n : Int)) := by omega
        go_wp2
        go_ret
        have ht : l.take k = l := List.take_of_length_le (by have := HN.out; omega)
        refine ⟨RBp.mk true rfl (fun _ => ⟨by rw [HN.out]; exact H150.out, ?_⟩), hE.tr (by repeat (first | exact Ext.refl' _ | assumption | apply Ext.ex' | apply Ext.al | apply Ext.drN | apply Ext.dr))⟩
        have := HA.out
        rw [ht] at this
        exact this
  · have h150z : (150 : Int) < (n : Int) := by omega
    go_enter Try.func19, Try.ntmps19
    go_wp2
    go_ret
    exact ⟨RBp.mk false rfl (fun h => by cases h), Ext.refl' _⟩



end Go.Proofs.Ytdmbgimehepfaaa
