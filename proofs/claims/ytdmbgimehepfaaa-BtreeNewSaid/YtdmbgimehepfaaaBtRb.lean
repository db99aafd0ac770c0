/- The reference's tree: a list of pairs in order. -/
import Derived.Test.YtdmbgimehepfaaaBtRa
import Derived.Deep.LoopGhost
set_option linter.unusedSimpArgs false
set_option linter.unusedVariables false
namespace Go.Proofs.Ytdmbgimehepfaaa
open Go.RowKit


abbrev TR : TypeId := 76
theorem elRef : El Try.prog 39 76 (.agg #[.slice none 0 0, .int .i64 0]) 2 32 := ⟨Try.underlying39, info_parts (by kernel_rfl), rfl, by decide⟩
/-- the reference's tree in memory -/
structure RefIs (base : Nat) (w : World) (v : Value) (l : List MP) : Prop where
  row : w.ownsRow base TR 2 v l.length (mpl l)
  key : ∀ q ∈ l, KOk base w q
  len : l.length ≤ 1048576
theorem RefIs.ext {base : Nat} {w w' : World} {v : Value} {l : List MP} (h : RefIs base w v l) (e : Ext w w') : RefIs base w' v l := ⟨ownsRow_ext h.row e, fun q hq => (h.key q hq).ext e, h.len⟩
theorem RefIs.mut {base : Nat} {S : List Nat} {w w' : World} {v : Value} {l : List MP} (h : RefIs base w v l) (m : Mut base S w w') : RefIs base w' v l :=
  ⟨ownsRow_same h.row fun g hg => by
    obtain ⟨c, hc⟩ := own_typ h.row hg
    refine m.same g (Array.getElem?_eq_some_iff.1 hc).1 fun hs => ?_
    have := m.typ g hs c TR _ hc
    revert this; unfold TreeT; decide, fun q hq => m.key (h.key q hq), h.len⟩
/-- a row of numbers is returned -/
def IPost (w : World) (r : List Int) (e : Ending) (w' : World) : Prop := ∃ A' c', e = .returned (.slice A' r.length c') ∧ Rd w' 1 A' r.length (ic r) ∧ Ext w w'
theorem IPost.mk {w w' : World} {r : List Int} {e : Ending} (A' : Option Addr) (c' : Nat) (h1 : e = .returned (.slice A' r.length c')) (h2 : Rd w' 1 A' r.length (ic r)) (h3 : Ext w w') : IPost w r e w' := ⟨A', c', h1, h2, h3⟩
def pId (K : List Va) (id : Int) : MP := ⟨none, 0, 0, K, id⟩


set_option maxRecDepth 100000 in
set_option maxHeartbeats 4000000 in
theorem rHas_any (base : Nat) (v : Value) (l : List MP) (A : Option Addr) (m c : Nat) (K : List Va) (id : Int) (w : World) (hx : RefIs base w v l) (hR : Rd w 3 A m (vcl K)) (hm : m = K.length) (hK : K.length ≤ 1048576) :
    Calls Try.prog 59 #[v, .slice A m c, .int .i64 id] w fun e w' => RBp True e ∧ (e = .returned (.bool true) ↔ ∃ q ∈ l, q.kp = (K, id)) ∧ Ext w w' := by
  subst hm
  have hrow := hx.row
  obtain ⟨vA, vc, rfl, _, _, _⟩ := own_form2 hrow
  have HKEY := Lib.hid hx.key
  have hlen := hx.len
  obtain ⟨n, hn⟩ : ∃ n, l.length = n := ⟨_, rfl⟩
  rw [hn] at hrow hlen ⊢
  have HN := Lib.hid hn
  clear hx hn
  go_enter Try.func59, Try.ntmps59
  go_wp2
  go_loopg [11] n (fun g x wr => ∃ k : Nat, x = .int .i64 k ∧ k ≤ n ∧ n - k ≤ g ∧ Hid (∀ q ∈ l.take k, q.kp ≠ (K, id)) ∧ Ext w wr)
  case atStart => exact ⟨0, rfl, by omega, by omega, Lib.hid (by simp), Ext.refl' _⟩
  case round =>
    obtain ⟨k, rfl, hk, hg, HNO, hE⟩ := hrel
    have HG := Lib.hid hg
    clear hg
    by_cases hlt : k < n
    · obtain ⟨q, hq⟩ : ∃ q, l[k]? = some q := ⟨_, List.getElem?_eq_getElem (by have := HN.out; omega)⟩
      obtain ⟨pb, po, rfl, hpb, q0, q1⟩ := ((Rd.of_own hrow).ext hE).pr HN.out.symm (by have := HN.out; omega : k < l.length)
      have hqq : l[k]'(by have := HN.out; omega) = q := (List.getElem?_eq_some_iff.1 hq).2
      rw [hqq] at q0 q1
      have HQK := Lib.hid (HKEY.out q (List.mem_of_getElem? hq))
      have HTK : Hid (l.take (k + 1) = l.take k ++ [q]) := Lib.hid (by
        obtain ⟨h1, h2⟩ := List.getElem?_eq_some_iff.1 hq
        rw [List.take_succ_eq_append_getElem h1, h2])
      have HQ := Lib.hid hq
      have hkz : (k : Int) < (n : Int) := by omega
      have hwk : IntKind.i64.wrap ((k : Int) + 1) = (k : Int) + 1 := IntWalk.i64_in _ (by omega)
      clear hqq hq
      have HC : Hid (∀ W, Ext wr W → Calls Try.prog 27 #[.slice q.A q.n q.c, .slice A K.length c] W fun e w' => e = .returned (.int .i64 (cmpR q.key K)) ∧ Ext W w') := Lib.hid fun W hE' => by
        have h1 := (HQK.out.ext (hE.tr hE')).kr
        have h2 := h1.le
        rw [h1.n]
        exact rcmp30_any q.A A q.c c q.key K W h1.rd (hR.ext (hE.tr hE')) h2 (by omega)
      have HZ : Hid (cmpR q.key K = 0 ↔ q.key = K) := Lib.hid cmpR_zero
      generalize cmpR q.key K = z at HC HZ
      have HNX : Hid (q.kp ≠ (K, id) → ∀ x ∈ l.take (k + 1), x.kp ≠ (K, id)) := Lib.hid fun h x hx => by
        rw [HTK.out] at hx
        rcases List.mem_append.1 hx with hx | hx
        · exact HNO.out x hx
        · simp at hx; subst hx; exact h
      by_cases hid : q.id = id
      · by_cases hz : z = 0
        · have HYES : Hid (∃ q ∈ l, q.kp = (K, id)) := Lib.hid ⟨q, List.mem_of_getElem? HQ.out, by show (q.key, q.id) = _; rw [HZ.out.1 hz, hid]⟩
          go_wp2_with (go_at_call 27; refine Calls.mono (HC.out _ (by repeat (first | exact Ext.refl' _ | assumption | apply Ext.ex' | apply Ext.al | apply Ext.drN | apply Ext.dr))) ?_; rintro e w1 ⟨rfl, hb1⟩; obtain ⟨x1, rfl⟩ := hb1.get; clear hb1)
          go_ret
          exact ⟨RBp.mk true rfl (fun _ => trivial), ⟨fun _ => HYES.out, fun _ => rfl⟩, hE.tr (by repeat (first | exact Ext.refl' _ | assumption | apply Ext.ex' | apply Ext.al | apply Ext.drN | apply Ext.dr))⟩
        · have HN2 := Lib.hid (HNX.out fun e => hz (HZ.out.2 (congrArg Prod.fst e)))
          go_wp2_with (go_at_call 27; refine Calls.mono (HC.out _ (by repeat (first | exact Ext.refl' _ | assumption | apply Ext.ex' | apply Ext.al | apply Ext.drN | apply Ext.dr))) ?_; rintro e w1 ⟨rfl, hb1⟩; obtain ⟨x1, rfl⟩ := hb1.get; clear hb1)
          go_roundg (gk - 1)
          case rel => exact ⟨k + 1, by go_num, by omega, by have := HG.out; omega, HN2, hE.tr (by repeat (first | exact Ext.refl' _ | assumption | apply Ext.ex' | apply Ext.al | apply Ext.drN | apply Ext.dr))⟩
          case measure => have := HG.out; omega
      · have HN2 := Lib.hid (HNX.out fun e => hid (congrArg Prod.snd e))
        go_wp2
        go_roundg (gk - 1)
        case rel => exact ⟨k + 1, by go_num, by omega, by have := HG.out; omega, HN2, hE.tr (by repeat (first | exact Ext.refl' _ | assumption | apply Ext.ex' | apply Ext.al | apply Ext.drN | apply Ext.dr))⟩
        case measure => have := HG.out; omega
    · have HNN : Hid (¬ ∃ q ∈ l, q.kp = (K, id)) := Lib.hid (by
        rintro ⟨q, hq, hqp⟩
        have h1 := HNO.out
        rw [List.take_of_length_le (by have := HN.out; omega)] at h1
        exact h1 q hq hqp)
      have hkz : ¬ ((k : Int) < (n : Int)) := by omega
      go_wp2
      go_ret
      exact ⟨RBp.mk false rfl (fun _ => trivial), ⟨fun h => (by cases h), fun h => absurd h HNN.out⟩, hE.tr (by repeat (first | exact Ext.refl' _ | assumption | apply Ext.ex' | apply Ext.al | apply Ext.drN | apply Ext.dr))⟩


set_option maxRecDepth 100000 in
set_option maxHeartbeats 8000000 in
theorem rGet_any (base : Nat) (v : Value) (l : List MP) (A : Option Addr) (c : Nat) (K : List Va) (w : World) (hx : RefIs base w v l) (hR : Rd w 3 A K.length (vcl K)) (hK : K.length ≤ 1048576) :
    Calls Try.prog 24 #[v, .slice A K.length c] w (IPost w ((l.filter fun q => decide (cmpR q.key K = 0)).map MP.id)) := by
  have hrow := hx.row
  obtain ⟨vA, vc, rfl, _, _, _⟩ := own_form2 hrow
  have HKEY := Lib.hid hx.key
  have hlen := hx.len
  obtain ⟨n, hn⟩ : ∃ n, l.length = n := ⟨_, rfl⟩
  rw [hn] at hrow hlen ⊢
  have HN := Lib.hid hn
  have HCF : Hid (∀ q, (fun q : MP => decide (cmpR q.key K = 0)) q = (fun q : MP => decide (cmpR q.key K = 0)) q) := Lib.hid fun _ => rfl
  obtain ⟨cf, hcf⟩ : ∃ cf : MP → Bool, cf = fun q => decide (cmpR q.key K = 0) := ⟨_, rfl⟩
  have HDF : Hid (∀ q, cf q = (decide (cmpR q.key K = 0))) := Lib.hid fun q => by rw [hcf]
  rw [← hcf]
  clear hx hn hcf HCF
  have HP0 : Hid (Hp w.heap.size [] w w [] [⟨.slice none 0 0, TI', 1, 0, []⟩]) := Lib.hid (Hp.start (Nat.le_refl _) (Mut.refl _ _) (by simp) (by intro r hr; simp at hr; subst hr; exact World.ownsRow_nil _ _ _ _) (by simp [blks, ob, Value.ownBlock]) (by simp [blks, ob, Value.ownBlock]))
  go_enter Try.func24, Try.ntmps24
  go_wp2
  go_loopg [5, 10] n (fun g vo x wr => ∃ (k : Nat) (nr : Nat), x = .int .i64 k ∧ k ≤ n ∧ n - k ≤ g ∧ nr ≤ k ∧ Hid (nr = ((l.take k).filter cf).length) ∧ Hid (Hp w.heap.size [] w wr [] [⟨vo, TI', 1, nr, ic (((l.take k).filter cf).map MP.id)⟩]))
  case atStart => exact ⟨0, 0, rfl, by omega, by omega, by omega, Lib.hid rfl, Lib.hid (by simpa [ic] using HP0.out.ext (by repeat (first | exact Ext.refl' _ | assumption | apply Ext.ex' | apply Ext.al | apply Ext.drN | apply Ext.dr)))⟩
  case round =>
    obtain ⟨k, nr, rfl, hk, hg, hnr, HNR, HPR⟩ := hrel
    have HG := Lib.hid hg
    clear hg
    have hE : Ext w wr := ⟨HPR.out.mu.os, HPR.out.mu.tape, HPR.out.mu.output, HPR.out.mu.size, fun b hb => HPR.out.mu.same b hb (by simp)⟩
    obtain ⟨oA, oc, hoe, _, _, _⟩ := own_form2 (HPR.out.own 0 rfl)
    have hoe : _ = Value.slice oA nr oc := hoe
    subst hoe
    have HOW : Hid (∀ W, Ext wr W → W.ownsRow w.heap.size TI' 1 (.slice oA nr oc) nr (ic (((l.take k).filter cf).map MP.id))) := Lib.hid fun W e => (HPR.out.ext e).own 0 rfl
    have HBS : Hid (∀ W, Ext wr W → w.heap.size ≤ W.heap.size) := Lib.hid fun W e => (hE.tr e).size
    by_cases hlt : k < n
    · obtain ⟨q, hq⟩ : ∃ q, l[k]? = some q := ⟨_, List.getElem?_eq_getElem (by have := HN.out; omega)⟩
      obtain ⟨pb, po, rfl, hpb, q0, q1⟩ := ((Rd.of_own hrow).ext hE).pr HN.out.symm (by have := HN.out; omega : k < l.length)
      have hqq : l[k]'(by have := HN.out; omega) = q := (List.getElem?_eq_some_iff.1 hq).2
      rw [hqq] at q0 q1
      have HQK := Lib.hid (HKEY.out q (List.mem_of_getElem? hq))
      have HTK : Hid (l.take (k + 1) = l.take k ++ [q]) := Lib.hid (by
        obtain ⟨h1, h2⟩ := List.getElem?_eq_some_iff.1 hq
        rw [List.take_succ_eq_append_getElem h1, h2])
      have HQ := Lib.hid hq
      have hkz : (k : Int) < (n : Int) := by omega
      have hwk : IntKind.i64.wrap ((k : Int) + 1) = (k : Int) + 1 := IntWalk.i64_in _ (by omega)
      clear hqq hq
      have HC : Hid (∀ W, Ext wr W → Calls Try.prog 27 #[.slice q.A q.n q.c, .slice A K.length c] W fun e w' => e = .returned (.int .i64 (cmpR q.key K)) ∧ Ext W w') := Lib.hid fun W hE' => by
        have h1 := (HQK.out.ext (hE.tr hE')).kr
        have h2 := h1.le
        rw [h1.n]
        exact rcmp30_any q.A A q.c c q.key K W h1.rd (hR.ext (hE.tr hE')) h2 (by omega)
      have HCQ : Hid (cf q = decide (cmpR q.key K = 0)) := HDF.out q |> Lib.hid
      generalize cmpR q.key K = z at HC HCQ
      by_cases hz : z = 0
      · have HNK : Hid (((l.take (k + 1)).filter cf) = ((l.take k).filter cf) ++ [q]) := Lib.hid (by rw [HTK.out, List.filter_append, show [q].filter cf = [q] by rw [List.filter_cons, HDF.out, if_pos (by rw [← HDF.out, HCQ.out]; exact decide_eq_true hz)]; rfl])
        go_wp2_with (first | (go_at_call 27; refine Calls.mono (HC.out _ (by repeat (first | exact Ext.refl' _ | assumption | apply Ext.ex' | apply Ext.al | apply Ext.drN | apply Ext.dr))) ?_; rintro e w1 ⟨rfl, hb1⟩; obtain ⟨x1, rfl⟩ := hb1.get; clear hb1) | (at_builtin; go_loud (refine wpList_app3 _ rfl (.tmp 19) (.tmp 22) rfl elI w.heap.size (HBS.out _ (by repeat (first | exact Ext.refl' _ | assumption | apply Ext.ex' | apply Ext.al | apply Ext.drN | apply Ext.dr))) (.slice oA nr oc) nr _ rfl (HOW.out _ (by repeat (first | exact Ext.refl' _ | assumption | apply Ext.ex' | apply Ext.al | apply Ext.drN | apply Ext.dr))) (some ⟨_, 0, none⟩) 1 1 [.int .i64 q.id] rfl (Rd.lit _ _ _ _ _ rfl (by simp)) (by intro u hu; simp at hu; subst hu; rfl) (by unfold maxLen; omega) (by omega) ?_; intro v2 w2 ho2 hg2 hn2; have HP2 := Lib.hid ((HPR.out.ext (by repeat (first | exact Ext.refl' _ | assumption | apply Ext.ex' | apply Ext.al | apply Ext.drN | apply Ext.dr))).grow 0 rfl hg2 ho2 hn2); clear ho2 hg2 hn2)))
        go_roundg (gk - 1)
        case rel => exact ⟨k + 1, nr + 1, by go_num, by omega, by have := HG.out; omega, by omega, Lib.hid (by rw [HNK.out, List.length_append, ← HNR.out]; rfl), Lib.hid (by
          rw [HNK.out, List.map_append, show ic (List.map MP.id ((l.take k).filter cf) ++ List.map MP.id [q]) = ic (List.map MP.id ((l.take k).filter cf)) ++ [.int .i64 q.id] by simp [ic]]
          exact HP2.out.ext (by repeat (first | exact Ext.refl' _ | assumption | apply Ext.ex' | apply Ext.al | apply Ext.drN | apply Ext.dr)))⟩
        case measure => have := HG.out; omega
      · have HNK : Hid (((l.take (k + 1)).filter cf) = ((l.take k).filter cf)) := Lib.hid (by rw [HTK.out, List.filter_append, show [q].filter cf = [] by rw [List.filter_cons, HDF.out, if_neg (by rw [← HDF.out, HCQ.out, decide_eq_false hz]; simp)]; rfl, List.append_nil])
        go_wp2_with (go_at_call 27; refine Calls.mono (HC.out _ (by repeat (first | exact Ext.refl' _ | assumption | apply Ext.ex' | apply Ext.al | apply Ext.drN | apply Ext.dr))) ?_; rintro e w1 ⟨rfl, hb1⟩; obtain ⟨x1, rfl⟩ := hb1.get; clear hb1)
        go_roundg (gk - 1)
        case rel => exact ⟨k + 1, nr, by go_num, by omega, by have := HG.out; omega, by omega, Lib.hid (by rw [HNK.out]; exact HNR.out), Lib.hid (by rw [HNK.out]; exact HPR.out.ext (by repeat (first | exact Ext.refl' _ | assumption | apply Ext.ex' | apply Ext.al | apply Ext.drN | apply Ext.dr)))⟩
        case measure => have := HG.out; omega
    · have hkz : ¬ ((k : Int) < (n : Int)) := by omega
      go_wp2
      go_ret
      have ht : l.take k = l := List.take_of_length_le (by have := HN.out; omega)
      have h1 := HPR.out.own 0 rfl
      have h2 := HNR.out
      rw [ht] at h1 h2
      have h3 : nr = ((l.filter cf).map MP.id).length := by rw [List.length_map]; exact h2
      have h4 : Rd wr 1 oA nr (ic ((l.filter cf).map MP.id)) := Rd.of_own h1
      rw [h3] at h4
      exact IPost.mk oA oc (by rw [← h3]; rfl) h4 (hE.tr (by repeat (first | exact Ext.refl' _ | assumption | apply Ext.ex' | apply Ext.al | apply Ext.drN | apply Ext.dr)))

end Go.Proofs.Ytdmbgimehepfaaa
