/- The reference's tree: Range, Prefix. -/
import Derived.Test.YtdmbgimehepfaaaBtRb
import Derived.Deep.LoopGhost
set_option linter.unusedSimpArgs false
set_option linter.unusedVariables false
namespace Go.Proofs.Ytdmbgimehepfaaa
open Go.RowKit


set_option maxRecDepth 100000 in
set_option maxHeartbeats 8000000 in
theorem rRange_any (base : Nat) (v : Value) (l : List MP) (A : Option Addr) (c : Nat) (K : List Va) (A2 : Option Addr) (c2 : Nat) (K2 : List Va) (w : World) (hx : RefIs base w v l) (hR : Rd w 3 A K.length (vcl K)) (hK : K.length ≤ 1048576) (hR2 : Rd w 3 A2 K2.length (vcl K2)) (hK2 : K2.length ≤ 1048576) :
    Calls Try.prog 25 #[v, .slice A K.length c, .slice A2 K2.length c2] w (IPost w ((l.filter fun q => (decide (0 ≤ cmpR q.key K) && decide (cmpR q.key K2 < 0))).map MP.id)) := by
  have hrow := hx.row
  obtain ⟨vA, vc, rfl, _, _, _⟩ := own_form2 hrow
  have HKEY := Lib.hid hx.key
  have hlen := hx.len
  obtain ⟨n, hn⟩ : ∃ n, l.length = n := ⟨_, rfl⟩
  rw [hn] at hrow hlen ⊢
  have HN := Lib.hid hn
  have HCF : Hid (∀ q, (fun q : MP => (decide (0 ≤ cmpR q.key K) && decide (cmpR q.key K2 < 0))) q = (fun q : MP => (decide (0 ≤ cmpR q.key K) && decide (cmpR q.key K2 < 0))) q) := Lib.hid fun _ => rfl
  obtain ⟨cf, hcf⟩ : ∃ cf : MP → Bool, cf = fun q => (decide (0 ≤ cmpR q.key K) && decide (cmpR q.key K2 < 0)) := ⟨_, rfl⟩
  have HDF : Hid (∀ q, cf q = ((decide (0 ≤ cmpR q.key K) && decide (cmpR q.key K2 < 0)))) := Lib.hid fun q => by rw [hcf]
  rw [← hcf]
  clear hx hn hcf HCF
  have HP0 : Hid (Hp w.heap.size [] w w [] [⟨.slice none 0 0, TI', 1, 0, []⟩]) := Lib.hid (Hp.start (Nat.le_refl _) (Mut.refl _ _) (by simp) (by intro r hr; simp at hr; subst hr; exact World.ownsRow_nil _ _ _ _) (by simp [blks, ob, Value.ownBlock]) (by simp [blks, ob, Value.ownBlock]))
  go_enter Try.func25, Try.ntmps25
  go_wp2
  go_loopg [7, 12] n (fun g vo x wr => ∃ (k : Nat) (nr : Nat), x = .int .i64 k ∧ k ≤ n ∧ n - k ≤ g ∧ nr ≤ k ∧ Hid (nr = ((l.take k).filter cf).length) ∧ Hid (Hp w.heap.size [] w wr [] [⟨vo, TI', 1, nr, ic (((l.take k).filter cf).map MP.id)⟩]))
  case atStart => exact ⟨0, 0, rfl, by omega, by omega, by omega, Lib.hid rfl, Lib.hid (by simpa [ic] using HP0.out.ext (by repeat (first | exact Ext.refl' _ | assumption | apply Ext.ex' | apply Ext.al | apply Ext.drN | apply Ext.dr)))⟩
  case round =>
    obtain ⟨k, nr, rfl, hk, hg, hnr, HNR, HPR⟩ := hrel
    have HG := Lib.hid hg
    clear hg
    have hE : Ext w wr := ⟨HPR.out.mu.os, HPR.out.mu.tape, HPR.out.mu.output, HPR.out.mu.size, fun b hb => HPR.out.mu.same b hb (by simp)⟩
    obtain ⟨oA, oc, hoe, _, _, _⟩ := own_form2 (HPR.out.own 0 rfl)
    have hoe : _ = Value.slice oA nr oc := hoe
    subst hoe
    have HOW : Hid (∀ W, Ext wr W → W.ownsRow w.heap.size TI' 1 (.slice oA nr oc) nr (ic (((l.take k).filter cf).map MP.id))) := Lib.hid fun W e => (HPR.out.ext e).own 0 rfl
    have HBS : Hid (∀ W, Ext wr W → w.heap.size ≤ W.heap.size) := Lib.hid fun W e => (hE.tr e).size
    by_cases hlt : k < n
    · obtain ⟨q, hq⟩ : ∃ q, l[k]? = some q := ⟨_, List.getElem?_eq_getElem (by have := HN.out; omega)⟩
      obtain ⟨pb, po, rfl, hpb, q0, q1⟩ := ((Rd.of_own hrow).ext hE).pr HN.out.symm (by have := HN.out; omega : k < l.length)
      have hqq : l[k]'(by have := HN.out; omega) = q := (List.getElem?_eq_some_iff.1 hq).2
      rw [hqq] at q0 q1
      have HQK := Lib.hid (HKEY.out q (List.mem_of_getElem? hq))
      have HTK : Hid (l.take (k + 1) = l.take k ++ [q]) := Lib.hid (by
        obtain ⟨h1, h2⟩ := List.getElem?_eq_some_iff.1 hq
        rw [List.take_succ_eq_append_getElem h1, h2])
      have HQ := Lib.hid hq
      have hkz : (k : Int) < (n : Int) := by omega
      have hwk : IntKind.i64.wrap ((k : Int) + 1) = (k : Int) + 1 := IntWalk.i64_in _ (by omega)
      clear hqq hq
      have HC : Hid (∀ W, Ext wr W → Calls Try.prog 27 #[.slice q.A q.n q.c, .slice A K.length c] W fun e w' => e = .returned (.int .i64 (cmpR q.key K)) ∧ Ext W w') := Lib.hid fun W hE' => by
        have h1 := (HQK.out.ext (hE.tr hE')).kr
        have h2 := h1.le
        rw [h1.n]
        exact rcmp30_any q.A A q.c c q.key K W h1.rd (hR.ext (hE.tr hE')) h2 (by omega)
      have HC2 : Hid (∀ W, Ext wr W → Calls Try.prog 27 #[.slice q.A q.n q.c, .slice A2 K2.length c2] W fun e w' => e = .returned (.int .i64 (cmpR q.key K2)) ∧ Ext W w') := Lib.hid fun W hE' => by
        have h1 := (HQK.out.ext (hE.tr hE')).kr
        have h2 := h1.le
        rw [h1.n]
        exact rcmp30_any q.A A2 q.c c2 q.key K2 W h1.rd (hR2.ext (hE.tr hE')) h2 (by omega)
      have HCQ : Hid (cf q = (decide (0 ≤ cmpR q.key K) && decide (cmpR q.key K2 < 0))) := HDF.out q |> Lib.hid
      generalize cmpR q.key K = z at HC HCQ
      generalize cmpR q.key K2 = z2 at HC2 HCQ
      by_cases hz : 0 ≤ z
      · by_cases hz2 : z2 < 0
        · have HNK : Hid (((l.take (k + 1)).filter cf) = ((l.take k).filter cf) ++ [q]) := Lib.hid (by rw [HTK.out, List.filter_append, show [q].filter cf = [q] by rw [List.filter_cons, HDF.out, if_pos (by rw [← HDF.out, HCQ.out, decide_eq_true hz, decide_eq_true hz2]; rfl)]; rfl])
          go_wp2_with (first | (go_at_call 27; (with_reducible refine Calls.mono (HC.out _ (by repeat (first | exact Ext.refl' _ | assumption | apply Ext.ex' | apply Ext.al | apply Ext.drN | apply Ext.dr))) ?_); rintro e w1 ⟨rfl, hb1⟩; obtain ⟨x1, rfl⟩ := hb1.get; clear hb1) | (go_at_call 27; (with_reducible refine Calls.mono (HC2.out _ (by repeat (first | exact Ext.refl' _ | assumption | apply Ext.ex' | apply Ext.al | apply Ext.drN | apply Ext.dr))) ?_); rintro e w1 ⟨rfl, hb1⟩; obtain ⟨x1, rfl⟩ := hb1.get; clear hb1) | (at_builtin; go_loud (refine wpList_app3 _ rfl (.tmp 28) (.tmp 31) rfl elI w.heap.size (HBS.out _ (by repeat (first | exact Ext.refl' _ | assumption | apply Ext.ex' | apply Ext.al | apply Ext.drN | apply Ext.dr))) (.slice oA nr oc) nr _ rfl (HOW.out _ (by repeat (first | exact Ext.refl' _ | assumption | apply Ext.ex' | apply Ext.al | apply Ext.drN | apply Ext.dr))) (some ⟨_, 0, none⟩) 1 1 [.int .i64 q.id] rfl (Rd.lit _ _ _ _ _ rfl (by simp)) (by intro u hu; simp at hu; subst hu; rfl) (by unfold maxLen; omega) (by omega) ?_; intro v2 w2 ho2 hg2 hn2; have HP2 := Lib.hid ((HPR.out.ext (by repeat (first | exact Ext.refl' _ | assumption | apply Ext.ex' | apply Ext.al | apply Ext.drN | apply Ext.dr))).grow 0 rfl hg2 ho2 hn2); clear ho2 hg2 hn2)))
          go_roundg (gk - 1)
          case rel => exact ⟨k + 1, nr + 1, by go_num, by omega, by have := HG.out; omega, by omega, Lib.hid (by rw [HNK.out, List.length_append, ← HNR.out]; rfl), Lib.hid (by
            rw [HNK.out, List.map_append, show ic (List.map MP.id ((l.take k).filter cf) ++ List.map MP.id [q]) = ic (List.map MP.id ((l.take k).filter cf)) ++ [.int .i64 q.id] by simp [ic]]
            exact HP2.out.ext (by repeat (first | exact Ext.refl' _ | assumption | apply Ext.ex' | apply Ext.al | apply Ext.drN | apply Ext.dr)))⟩
          case measure => have := HG.out; omega
        · have HNK : Hid (((l.take (k + 1)).filter cf) = ((l.take k).filter cf)) := Lib.hid (by rw [HTK.out, List.filter_append, show [q].filter cf = [] by rw [List.filter_cons, HDF.out, if_neg (by rw [← HDF.out, HCQ.out, decide_eq_false hz2, Bool.and_false]; simp)]; rfl, List.append_nil])
          go_wp2_with (first | (go_at_call 27; (with_reducible refine Calls.mono (HC.out _ (by repeat (first | exact Ext.refl' _ | assumption | apply Ext.ex' | apply Ext.al | apply Ext.drN | apply Ext.dr))) ?_); rintro e w1 ⟨rfl, hb1⟩; obtain ⟨x1, rfl⟩ := hb1.get; clear hb1) | (go_at_call 27; (with_reducible refine Calls.mono (HC2.out _ (by repeat (first | exact Ext.refl' _ | assumption | apply Ext.ex' | apply Ext.al | apply Ext.drN | apply Ext.dr))) ?_); rintro e w1 ⟨rfl, hb1⟩; obtain ⟨x1, rfl⟩ := hb1.get; clear hb1))
          go_roundg (gk - 1)
          case rel => exact ⟨k + 1, nr, by go_num, by omega, by have := HG.out; omega, by omega, Lib.hid (by rw [HNK.out]; exact HNR.out), Lib.hid (by rw [HNK.out]; exact HPR.out.ext (by repeat (first | exact Ext.refl' _ | assumption | apply Ext.ex' | apply Ext.al | apply Ext.drN | apply Ext.dr)))⟩
          case measure => have := HG.out; omega
      · have HNK : Hid (((l.take (k + 1)).filter cf) = ((l.take k).filter cf)) := Lib.hid (by rw [HTK.out, List.filter_append, show [q].filter cf = [] by rw [List.filter_cons, HDF.out, if_neg (by rw [← HDF.out, HCQ.out, decide_eq_false hz]; simp)]; rfl, List.append_nil])
        go_wp2_with (first | (go_at_call 27; (with_reducible refine Calls.mono (HC.out _ (by repeat (first | exact Ext.refl' _ | assumption | apply Ext.ex' | apply Ext.al | apply Ext.drN | apply Ext.dr))) ?_); rintro e w1 ⟨rfl, hb1⟩; obtain ⟨x1, rfl⟩ := hb1.get; clear hb1) | (go_at_call 27; (with_reducible refine Calls.mono (HC2.out _ (by repeat (first | exact Ext.refl' _ | assumption | apply Ext.ex' | apply Ext.al | apply Ext.drN | apply Ext.dr))) ?_); rintro e w1 ⟨rfl, hb1⟩; obtain ⟨x1, rfl⟩ := hb1.get; clear hb1))
        go_roundg (gk - 1)
        case rel => exact ⟨k + 1, nr, by go_num, by omega, by have := HG.out; omega, by omega, Lib.hid (by rw [HNK.out]; exact HNR.out), Lib.hid (by rw [HNK.out]; exact HPR.out.ext (by repeat (first | exact Ext.refl' _ | assumption | apply Ext.ex' | apply Ext.al | apply Ext.drN | apply Ext.dr)))⟩
        case measure => have := HG.out; omega
    · have hkz : ¬ ((k : Int) < (n : Int)) := by omega
      go_wp2
      go_ret
      have ht : l.take k = l := List.take_of_length_le (by have := HN.out; omega)
      have h1 := HPR.out.own 0 rfl
      have h2 := HNR.out
      rw [ht] at h1 h2
      have h3 : nr = ((l.filter cf).map MP.id).length := by rw [List.length_map]; exact h2
      have h4 : Rd wr 1 oA nr (ic ((l.filter cf).map MP.id)) := Rd.of_own h1
      rw [h3] at h4
      exact IPost.mk oA oc (by rw [← h3]; rfl) h4 (hE.tr (by repeat (first | exact Ext.refl' _ | assumption | apply Ext.ex' | apply Ext.al | apply Ext.drN | apply Ext.dr)))


set_option maxRecDepth 100000 in
set_option maxHeartbeats 8000000 in
theorem rPrefix_any (base : Nat) (v : Value) (l : List MP) (A : Option Addr) (c : Nat) (K : List Va) (w : World) (hx : RefIs base w v l) (hR : Rd w 3 A K.length (vcl K)) (hK : K.length ≤ 1048576) :
    Calls Try.prog 22 #[v, .slice A K.length c] w (IPost w ((l.filter fun q => (decide (K.length ≤ q.key.length) && decide (cmpR (q.key.take K.length) K = 0))).map MP.id)) := by
  have hrow := hx.row
  obtain ⟨vA, vc, rfl, _, _, _⟩ := own_form2 hrow
  have HKEY := Lib.hid hx.key
  have hlen := hx.len
  obtain ⟨n, hn⟩ : ∃ n, l.length = n := ⟨_, rfl⟩
  rw [hn] at hrow hlen ⊢
  have HN := Lib.hid hn
  have HCF : Hid (∀ q, (fun q : MP => (decide (K.length ≤ q.key.length) && decide (cmpR (q.key.take K.length) K = 0))) q = (fun q : MP => (decide (K.length ≤ q.key.length) && decide (cmpR (q.key.take K.length) K = 0))) q) := Lib.hid fun _ => rfl
  obtain ⟨cf, hcf⟩ : ∃ cf : MP → Bool, cf = fun q => (decide (K.length ≤ q.key.length) && decide (cmpR (q.key.take K.length) K = 0)) := ⟨_, rfl⟩
  have HDF : Hid (∀ q, cf q = ((decide (K.length ≤ q.key.length) && decide (cmpR (q.key.take K.length) K = 0)))) := Lib.hid fun q => by rw [hcf]
  rw [← hcf]
  have HRK := Lib.hid hR
  obtain ⟨kn, hkn⟩ : ∃ n, K.length = n := ⟨_, rfl⟩
  have HKN := Lib.hid hkn
  rw [hkn] at hK ⊢
  clear hx hn hcf HCF hkn hR
  have HP0 : Hid (Hp w.heap.size [] w w [] [⟨.slice none 0 0, TI', 1, 0, []⟩]) := Lib.hid (Hp.start (Nat.le_refl _) (Mut.refl _ _) (by simp) (by intro r hr; simp at hr; subst hr; exact World.ownsRow_nil _ _ _ _) (by simp [blks, ob, Value.ownBlock]) (by simp [blks, ob, Value.ownBlock]))
  go_enter Try.func22, Try.ntmps22
  go_wp2
  go_loopg [5, 10] n (fun g vo x wr => ∃ (k : Nat) (nr : Nat), x = .int .i64 k ∧ k ≤ n ∧ n - k ≤ g ∧ nr ≤ k ∧ Hid (nr = ((l.take k).filter cf).length) ∧ Hid (Hp w.heap.size [] w wr [] [⟨vo, TI', 1, nr, ic (((l.take k).filter cf).map MP.id)⟩]))
  case atStart => exact ⟨0, 0, rfl, by omega, by omega, by omega, Lib.hid rfl, Lib.hid (by simpa [ic] using HP0.out.ext (by repeat (first | exact Ext.refl' _ | assumption | apply Ext.ex' | apply Ext.al | apply Ext.drN | apply Ext.dr)))⟩
  case round =>
    obtain ⟨k, nr, rfl, hk, hg, hnr, HNR, HPR⟩ := hrel
    have HG := Lib.hid hg
    clear hg
    have hE : Ext w wr := ⟨HPR.out.mu.os, HPR.out.mu.tape, HPR.out.mu.output, HPR.out.mu.size, fun b hb => HPR.out.mu.same b hb (by simp)⟩
    obtain ⟨oA, oc, hoe, _, _, _⟩ := own_form2 (HPR.out.own 0 rfl)
    have hoe : _ = Value.slice oA nr oc := hoe
    subst hoe
    have HOW : Hid (∀ W, Ext wr W → W.ownsRow w.heap.size TI' 1 (.slice oA nr oc) nr (ic (((l.take k).filter cf).map MP.id))) := Lib.hid fun W e => (HPR.out.ext e).own 0 rfl
    have HBS : Hid (∀ W, Ext wr W → w.heap.size ≤ W.heap.size) := Lib.hid fun W e => (hE.tr e).size
    by_cases hlt : k < n
    · obtain ⟨q, hq⟩ : ∃ q, l[k]? = some q := ⟨_, List.getElem?_eq_getElem (by have := HN.out; omega)⟩
      obtain ⟨pb, po, rfl, hpb, q0, q1⟩ := ((Rd.of_own hrow).ext hE).pr HN.out.symm (by have := HN.out; omega : k < l.length)
      have hqq : l[k]'(by have := HN.out; omega) = q := (List.getElem?_eq_some_iff.1 hq).2
      rw [hqq] at q0 q1
      have HQK := Lib.hid (HKEY.out q (List.mem_of_getElem? hq))
      have HTK : Hid (l.take (k + 1) = l.take k ++ [q]) := Lib.hid (by
        obtain ⟨h1, h2⟩ := List.getElem?_eq_some_iff.1 hq
        rw [List.take_succ_eq_append_getElem h1, h2])
      have HQ := Lib.hid hq
      have hkz : (k : Int) < (n : Int) := by omega
      have hwk : IntKind.i64.wrap ((k : Int) + 1) = (k : Int) + 1 := IntWalk.i64_in _ (by omega)
      clear hqq hq
      have HCQ : Hid (cf q = (decide (kn ≤ q.key.length) && decide (cmpR (q.key.take kn) K = 0))) := Lib.hid (by rw [HDF.out, HKN.out])
      have hqn := HQK.out.1
      have hqc := HQK.out.2.1.2
      obtain ⟨qn, hqe⟩ : ∃ n, q.key.length = n := ⟨_, rfl⟩
      rw [hqe] at hqn HCQ
      rw [hqn] at q0 hqc
      have HQE := Lib.hid hqe
      have HQN := Lib.hid hqn
      clear hqe hqn
      by_cases hkq : kn ≤ qn
      · have hkqz : (kn : Int) ≤ (qn : Int) := by omega
        have HC : Hid (∀ W, Ext wr W → Calls Try.prog 27 #[.slice q.A kn q.c, .slice A kn c] W fun e w' => e = .returned (.int .i64 (cmpR (q.key.take kn) K)) ∧ Ext W w') := Lib.hid fun W hE' => by
          have h1 := (HQK.out.ext (hE.tr hE')).kr
          have h3 := h1.rd.cutP kn (by have := HQE.out; omega)
          rw [vcl_take] at h3
          have hl : (q.key.take kn).length = kn := by rw [List.length_take]; have := HQE.out; omega
          have h2 := rcmp30_any q.A A q.c c (q.key.take kn) K W (by rw [hl]; exact h3) (HRK.out.ext (hE.tr hE')) (by omega) (by have := HKN.out; omega)
          rw [hl, HKN.out] at h2
          exact h2
        generalize cmpR (q.key.take kn) K = z at HC HCQ
        have hkc : kn ≤ q.c := by omega
        by_cases hz : z = 0
        · have HNK : Hid (((l.take (k + 1)).filter cf) = ((l.take k).filter cf) ++ [q]) := Lib.hid (by rw [HTK.out, List.filter_append, show [q].filter cf = [q] by rw [List.filter_cons, HDF.out, if_pos (by rw [← HDF.out, HCQ.out, decide_eq_true hkq, decide_eq_true hz]; rfl)]; rfl])
          go_wp2_with (first | (go_at_call 27; (with_reducible refine Calls.mono (HC.out _ (by repeat (first | exact Ext.refl' _ | assumption | apply Ext.ex' | apply Ext.al | apply Ext.drN | apply Ext.dr))) ?_); rintro e w1 ⟨rfl, hb1⟩; obtain ⟨x1, rfl⟩ := hb1.get; clear hb1) | (at_builtin; go_loud (refine wpList_app3 _ rfl (.tmp 30) (.tmp 33) rfl elI w.heap.size (HBS.out _ (by repeat (first | exact Ext.refl' _ | assumption | apply Ext.ex' | apply Ext.al | apply Ext.drN | apply Ext.dr))) (.slice oA nr oc) nr _ rfl (HOW.out _ (by repeat (first | exact Ext.refl' _ | assumption | apply Ext.ex' | apply Ext.al | apply Ext.drN | apply Ext.dr))) (some ⟨_, 0, none⟩) 1 1 [.int .i64 q.id] rfl (Rd.lit _ _ _ _ _ rfl (by simp)) (by intro u hu; simp at hu; subst hu; rfl) (by unfold maxLen; omega) (by omega) ?_; intro v2 w2 ho2 hg2 hn2; have HP2 := Lib.hid ((HPR.out.ext (by repeat (first | exact Ext.refl' _ | assumption | apply Ext.ex' | apply Ext.al | apply Ext.drN | apply Ext.dr))).grow 0 rfl hg2 ho2 hn2); clear ho2 hg2 hn2)))
          go_roundg (gk - 1)
          case rel => exact ⟨k + 1, nr + 1, by go_num, by omega, by have := HG.out; omega, by omega, Lib.hid (by rw [HNK.out, List.length_append, ← HNR.out]; rfl), Lib.hid (by
            rw [HNK.out, List.map_append, show ic (List.map MP.id ((l.take k).filter cf) ++ List.map MP.id [q]) = ic (List.map MP.id ((l.take k).filter cf)) ++ [.int .i64 q.id] by simp [ic]]
            exact HP2.out.ext (by repeat (first | exact Ext.refl' _ | assumption | apply Ext.ex' | apply Ext.al | apply Ext.drN | apply Ext.dr)))⟩
          case measure => have := HG.out; omega
        · have HNK : Hid (((l.take (k + 1)).filter cf) = ((l.take k).filter cf)) := Lib.hid (by rw [HTK.out, List.filter_append, show [q].filter cf = [] by rw [List.filter_cons, HDF.out, if_neg (by rw [← HDF.out, HCQ.out, decide_eq_false hz, Bool.and_false]; simp)]; rfl, List.append_nil])
          go_wp2_with (first | (go_at_call 27; (with_reducible refine Calls.mono (HC.out _ (by repeat (first | exact Ext.refl' _ | assumption | apply Ext.ex' | apply Ext.al | apply Ext.drN | apply Ext.dr))) ?_); rintro e w1 ⟨rfl, hb1⟩; obtain ⟨x1, rfl⟩ := hb1.get; clear hb1))
          go_roundg (gk - 1)
          case rel => exact ⟨k + 1, nr, by go_num, by omega, by have := HG.out; omega, by omega, Lib.hid (by rw [HNK.out]; exact HNR.out), Lib.hid (by rw [HNK.out]; exact HPR.out.ext (by repeat (first | exact Ext.refl' _ | assumption | apply Ext.ex' | apply Ext.al | apply Ext.drN | apply Ext.dr)))⟩
          case measure => have := HG.out; omega
      · have hkqz : ¬ ((kn : Int) ≤ (qn : Int)) := by omega
        have HNK : Hid (((l.take (k + 1)).filter cf) = ((l.take k).filter cf)) := Lib.hid (by rw [HTK.out, List.filter_append, show [q].filter cf = [] by rw [List.filter_cons, HDF.out, if_neg (by rw [← HDF.out, HCQ.out, decide_eq_false hkq]; simp)]; rfl, List.append_nil])
        go_wp2
        go_roundg (gk - 1)
        case rel => exact ⟨k + 1, nr, by go_num, by omega, by have := HG.out; omega, by omega, Lib.hid (by rw [HNK.out]; exact HNR.out), Lib.hid (by rw [HNK.out]; exact HPR.out.ext (by repeat (first | exact Ext.refl' _ | assumption | apply Ext.ex' | apply Ext.al | apply Ext.drN | apply Ext.dr)))⟩
        case measure => have := HG.out; omega
    · have hkz : ¬ ((k : Int) < (n : Int)) := by omega
      go_wp2
      go_ret
      have ht : l.take k = l := List.take_of_length_le (by have := HN.out; omega)
      have h1 := HPR.out.own 0 rfl
      have h2 := HNR.out
      rw [ht] at h1 h2
      have h3 : nr = ((l.filter cf).map MP.id).length := by rw [List.length_map]; exact h2
      have h4 : Rd wr 1 oA nr (ic ((l.filter cf).map MP.id)) := Rd.of_own h1
      rw [h3] at h4
      exact IPost.mk oA oc (by rw [← h3]; rfl) h4 (hE.tr (by repeat (first | exact Ext.refl' _ | assumption | apply Ext.ex' | apply Ext.al | apply Ext.drN | apply Ext.dr)))

end Go.Proofs.Ytdmbgimehepfaaa
