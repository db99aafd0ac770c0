/- The reference's tree: Delete, Put. -/
import Derived.Test.YtdmbgimehepfaaaBtRc
import Derived.Deep.LoopGhost
set_option linter.unusedSimpArgs false
set_option linter.unusedVariables false
namespace Go.Proofs.Ytdmbgimehepfaaa
open Go.RowKit


/-- a tree and a bool are returned -/
def TPost (base : Nat) (w : World) (Q : Bool → List MP → Prop) (e : Ending) (w' : World) : Prop := ∃ b v' l', e = .returned (.tuple #[v', .bool b]) ∧ RefIs base w' v' l' ∧ Ext w w' ∧ Q b l'
theorem TPost.mk {base : Nat} {w w' : World} {Q : Bool → List MP → Prop} {e : Ending} (b : Bool) (v' : Value) (l' : List MP) (h1 : e = .returned (.tuple #[v', .bool b])) (h2 : RefIs base w' v' l') (h3 : Ext w w') (h4 : Q b l') : TPost base w Q e w' := ⟨b, v', l', h1, h2, h3, h4⟩
theorem rHas2_any (base : Nat) (v : Value) (l : List MP) (A : Option Addr) (c : Nat) (K : List Va) (id : Int) (w : World) (hx : RefIs base w v l) (hR : Rd w 3 A K.length (vcl K)) (hK : K.length ≤ 1048576) :
    Calls Try.prog 59 #[v, .slice A K.length c, .int .i64 id] w fun e w' => ∃ b : Bool, (b = true ↔ ∃ q ∈ l, q.kp = (K, id)) ∧ e = .returned (.bool b) ∧ Ext w w' := by
  refine Calls.mono (rHas_any base v l A K.length c K id w hx hR rfl hK) ?_
  rintro e w' ⟨⟨b, rfl, _⟩, h, hE⟩
  refine ⟨b, ?_, rfl, hE⟩
  rw [← h]
  cases b <;> simp


set_option maxRecDepth 100000 in
set_option maxHeartbeats 8000000 in
theorem rDelete_any (base : Nat) (v : Value) (l : List MP) (A : Option Addr) (c : Nat) (K : List Va) (id : Int) (w : World) (hbw : base ≤ w.heap.size) (hx : RefIs base w v l) (hR : Rd w 3 A K.length (vcl K)) (hK : K.length ≤ 1048576) :
    Calls Try.prog 45 #[v, .slice A K.length c, .int .i64 id] w (TPost base w (fun b l' => (b = false ∧ (¬ ∃ q ∈ l, q.kp = (K, id)) ∧ l' = l) ∨ (b = true ∧ (∃ q ∈ l, q.kp = (K, id)) ∧ l' = l.filter fun q => !(decide (q.id = id) && decide (cmpR q.key K = 0))))) := by
  have HH : Hid (∀ W, Ext w W → Calls Try.prog 59 #[v, .slice A K.length c, .int .i64 id] W fun e w' => ∃ b : Bool, (b = true ↔ ∃ q ∈ l, q.kp = (K, id)) ∧ e = .returned (.bool b) ∧ Ext W w') := Lib.hid fun W e => rHas2_any base v l A c K id W (hx.ext e) (hR.ext e) hK
  have HX := Lib.hid hx
  have hrow := hx.row
  obtain ⟨vA, vc, rfl, _, _, _⟩ := own_form2 hrow
  have HKEY := Lib.hid hx.key
  have hlen := hx.len
  obtain ⟨n, hn⟩ : ∃ n, l.length = n := ⟨_, rfl⟩
  rw [hn] at hrow hlen ⊢
  have HN := Lib.hid hn
  rw [hn] at HH
  have HB := Lib.hid hbw
  obtain ⟨cf, hcf⟩ : ∃ cf : MP → Bool, cf = fun q => !(decide (q.id = id) && decide (cmpR q.key K = 0)) := ⟨_, rfl⟩
  have HDF : Hid (∀ q, cf q = !(decide (q.id = id) && decide (cmpR q.key K = 0))) := Lib.hid fun q => by rw [hcf]
  rw [← hcf]
  clear hx hn hcf hbw
  have HP0 : Hid (Hp w.heap.size [] w w [] [⟨.slice none 0 0, TR, 2, 0, []⟩]) := Lib.hid (Hp.start (Nat.le_refl _) (Mut.refl _ _) (by simp) (by intro r hr; simp at hr; subst hr; exact World.ownsRow_nil _ _ _ _) (by simp [blks, ob, Value.ownBlock]) (by simp [blks, ob, Value.ownBlock]))
  go_enter Try.func45, Try.ntmps45
  go_wp2_with fail
  refine Calls.mono (HH.out _ (by repeat (first | exact Ext.refl' _ | assumption | apply Ext.ex' | apply Ext.al | apply Ext.drN | apply Ext.dr))) ?_
  rintro e w1 ⟨b, hbi, rfl, hb1⟩
  have HBI := Lib.hid hbi
  have hE1 : Ext w w1 := hb1
  clear hbi hb1
  cases b with
  | false =>
    go_wp2
    go_ret2
    exact TPost.mk false _ l rfl (by have := HX.out.ext (show Ext w w1 from hE1); rw [← HN.out]; exact this) (by repeat (first | exact Ext.refl' _ | assumption | apply Ext.ex' | apply Ext.al | apply Ext.drN | apply Ext.dr)) (.inl ⟨rfl, by simpa using HBI.out, rfl⟩)
  | true =>
    go_wp2
    go_loopg [8, 19] n (fun g vo x wr => ∃ (k : Nat) (nr : Nat), x = .int .i64 k ∧ k ≤ n ∧ n - k ≤ g ∧ nr ≤ k ∧ Hid (nr = ((l.take k).filter cf).length) ∧ Hid (Hp w.heap.size [] w wr [] [⟨vo, TR, 2, nr, mpl ((l.take k).filter cf)⟩]))
    case atStart => exact ⟨0, 0, rfl, by omega, by omega, by omega, Lib.hid rfl, Lib.hid (by simpa [mpl] using HP0.out.ext (by repeat (first | exact Ext.refl' _ | assumption | apply Ext.ex' | apply Ext.al | apply Ext.drN | apply Ext.dr)))⟩
    case round =>
      obtain ⟨k, nr, rfl, hk, hg, hnr, HNR, HPR⟩ := hrel
      have HG := Lib.hid hg
      clear hg
      have hE : Ext w wr := ⟨HPR.out.mu.os, HPR.out.mu.tape, HPR.out.mu.output, HPR.out.mu.size, fun b hb => HPR.out.mu.same b hb (by simp)⟩
      obtain ⟨oA, oc, hoe, _, _, _⟩ := own_form2 (HPR.out.own 0 rfl)
      have hoe : _ = Value.slice oA nr oc := hoe
      subst hoe
      have HOW : Hid (∀ W, Ext wr W → W.ownsRow w.heap.size TR 2 (.slice oA nr oc) nr (mpl ((l.take k).filter cf))) := Lib.hid fun W e => (HPR.out.ext e).own 0 rfl
      have HBS : Hid (∀ W, Ext wr W → w.heap.size ≤ W.heap.size) := Lib.hid fun W e => (hE.tr e).size
      by_cases hlt : k < n
      · obtain ⟨q, hq⟩ : ∃ q, l[k]? = some q := ⟨_, List.getElem?_eq_getElem (by have := HN.out; omega)⟩
        obtain ⟨pb, po, rfl, hpb, q0, q1⟩ := ((Rd.of_own hrow).ext hE).pr HN.out.symm (by have := HN.out; omega : k < l.length)
        have hqq : l[k]'(by have := HN.out; omega) = q := (List.getElem?_eq_some_iff.1 hq).2
        rw [hqq] at q0 q1
        have HQK := Lib.hid (HKEY.out q (List.mem_of_getElem? hq))
        have HTK : Hid (l.take (k + 1) = l.take k ++ [q]) := Lib.hid (by
          obtain ⟨h1, h2⟩ := List.getElem?_eq_some_iff.1 hq
          rw [List.take_succ_eq_append_getElem h1, h2])
        have HQ := Lib.hid hq
        have hkz : (k : Int) < (n : Int) := by omega
        have hwk : IntKind.i64.wrap ((k : Int) + 1) = (k : Int) + 1 := IntWalk.i64_in _ (by omega)
        clear hqq hq
        have HC : Hid (∀ W, Ext wr W → Calls Try.prog 27 #[.slice q.A q.n q.c, .slice A K.length c] W fun e w' => e = .returned (.int .i64 (cmpR q.key K)) ∧ Ext W w') := Lib.hid fun W hE' => by
          have h1 := (HQK.out.ext (hE.tr hE')).kr
          have h2 := h1.le
          rw [h1.n]
          exact rcmp30_any q.A A q.c c q.key K W h1.rd (hR.ext (hE.tr hE')) h2 (by omega)
        have HCQ : Hid (cf q = !(decide (q.id = id) && decide (cmpR q.key K = 0))) := HDF.out q |> Lib.hid
        generalize cmpR q.key K = z at HC HCQ
        by_cases hid : q.id = id
        · have HID : Hid (decide (q.id = id) = true) := Lib.hid (decide_eq_true hid)
          subst hid
          by_cases hz : z = 0
          · have HNK : Hid (((l.take (k + 1)).filter cf) = ((l.take k).filter cf)) := Lib.hid (by rw [HTK.out, List.filter_append, show [q].filter cf = [] by rw [List.filter_cons, HDF.out, if_neg (by rw [← HDF.out, HCQ.out, HID.out, decide_eq_true hz]; simp)]; rfl, List.append_nil])
            go_wp2_with (go_at_call 27; (with_reducible refine Calls.mono (HC.out _ (by repeat (first | exact Ext.refl' _ | assumption | apply Ext.ex' | apply Ext.al | apply Ext.drN | apply Ext.dr))) ?_); rintro e w1 ⟨rfl, hb1⟩; obtain ⟨x1, rfl⟩ := hb1.get; clear hb1)
            go_roundg (gk - 1)
            case rel => exact ⟨k + 1, nr, by go_num, by omega, by have := HG.out; omega, by omega, Lib.hid (by rw [HNK.out]; exact HNR.out), Lib.hid (by rw [HNK.out]; exact HPR.out.ext (by repeat (first | exact Ext.refl' _ | assumption | apply Ext.ex' | apply Ext.al | apply Ext.drN | apply Ext.dr)))⟩
            case measure => have := HG.out; omega
          · have HNK : Hid (((l.take (k + 1)).filter cf) = ((l.take k).filter cf) ++ [q]) := Lib.hid (by rw [HTK.out, List.filter_append, show [q].filter cf = [q] by rw [List.filter_cons, HDF.out, if_pos (by rw [← HDF.out, HCQ.out, decide_eq_false hz, Bool.and_false]; rfl)]; rfl])
            go_wp2_with (first | (go_at_call 27; (with_reducible refine Calls.mono (HC.out _ (by repeat (first | exact Ext.refl' _ | assumption | apply Ext.ex' | apply Ext.al | apply Ext.drN | apply Ext.dr))) ?_); rintro e w1 ⟨rfl, hb1⟩; obtain ⟨x1, rfl⟩ := hb1.get; clear hb1) | (at_builtin; go_loud (refine wpList_app3 _ rfl (.tmp 34) (.tmp 36) rfl elRef w.heap.size (HBS.out _ (by repeat (first | exact Ext.refl' _ | assumption | apply Ext.ex' | apply Ext.al | apply Ext.drN | apply Ext.dr))) (.slice oA nr oc) nr _ rfl (HOW.out _ (by repeat (first | exact Ext.refl' _ | assumption | apply Ext.ex' | apply Ext.al | apply Ext.drN | apply Ext.dr))) (some ⟨_, 0, none⟩) 1 1 (mp2 q) rfl (Rd.lit _ _ _ _ _ rfl (by first | rfl | simp)) (by intro u hu; simp [mp2] at hu; rcases hu with rfl | rfl <;> rfl) (by unfold maxLen; omega) (by omega) ?_; intro v2 w2 ho2 hg2 hn2; have HP2 := Lib.hid ((HPR.out.ext (by repeat (first | exact Ext.refl' _ | assumption | apply Ext.ex' | apply Ext.al | apply Ext.drN | apply Ext.dr))).grow 0 rfl hg2 ho2 hn2); clear ho2 hg2 hn2)))
            go_roundg (gk - 1)
            case rel => exact ⟨k + 1, nr + 1, by go_num, by omega, by have := HG.out; omega, by omega, Lib.hid (by rw [HNK.out, List.length_append, ← HNR.out]; rfl), Lib.hid (by
              rw [HNK.out, mpl_append, mpl_one]
              exact HP2.out.ext (by repeat (first | exact Ext.refl' _ | assumption | apply Ext.ex' | apply Ext.al | apply Ext.drN | apply Ext.dr)))⟩
            case measure => have := HG.out; omega
        · have HNK : Hid (((l.take (k + 1)).filter cf) = ((l.take k).filter cf) ++ [q]) := Lib.hid (by rw [HTK.out, List.filter_append, show [q].filter cf = [q] by rw [List.filter_cons, HDF.out, if_pos (by rw [← HDF.out, HCQ.out, decide_eq_false hid]; rfl)]; rfl])
          go_wp2_with ((at_builtin; go_loud (refine wpList_app3 _ rfl (.tmp 34) (.tmp 36) rfl elRef w.heap.size (HBS.out _ (by repeat (first | exact Ext.refl' _ | assumption | apply Ext.ex' | apply Ext.al | apply Ext.drN | apply Ext.dr))) (.slice oA nr oc) nr _ rfl (HOW.out _ (by repeat (first | exact Ext.refl' _ | assumption | apply Ext.ex' | apply Ext.al | apply Ext.drN | apply Ext.dr))) (some ⟨_, 0, none⟩) 1 1 (mp2 q) rfl (Rd.lit _ _ _ _ _ rfl (by first | rfl | simp)) (by intro u hu; simp [mp2] at hu; rcases hu with rfl | rfl <;> rfl) (by unfold maxLen; omega) (by omega) ?_; intro v2 w2 ho2 hg2 hn2; have HP2 := Lib.hid ((HPR.out.ext (by repeat (first | exact Ext.refl' _ | assumption | apply Ext.ex' | apply Ext.al | apply Ext.drN | apply Ext.dr))).grow 0 rfl hg2 ho2 hn2); clear ho2 hg2 hn2)))
          go_roundg (gk - 1)
          case rel => exact ⟨k + 1, nr + 1, by go_num, by omega, by have := HG.out; omega, by omega, Lib.hid (by rw [HNK.out, List.length_append, ← HNR.out]; rfl), Lib.hid (by
            rw [HNK.out, mpl_append, mpl_one]
            exact HP2.out.ext (by repeat (first | exact Ext.refl' _ | assumption | apply Ext.ex' | apply Ext.al | apply Ext.drN | apply Ext.dr)))⟩
          case measure => have := HG.out; omega
      · have hkz : ¬ ((k : Int) < (n : Int)) := by omega
        go_wp2
        go_ret2
        have ht : l.take k = l := List.take_of_length_le (by have := HN.out; omega)
        have h1 := HPR.out.own 0 rfl
        have h2 := HNR.out
        rw [ht] at h1 h2
        refine TPost.mk true (.slice oA nr oc) (l.filter cf) rfl ⟨?_, fun q hq => KOk.ext (HKEY.out q ((List.mem_filter.1 hq).1)) (hE.tr (by repeat (first | exact Ext.refl' _ | assumption | apply Ext.ex' | apply Ext.al | apply Ext.drN | apply Ext.dr))), by rw [← h2]; omega⟩ (hE.tr (by repeat (first | exact Ext.refl' _ | assumption | apply Ext.ex' | apply Ext.al | apply Ext.drN | apply Ext.dr))) (.inr ⟨rfl, by simpa using HBI.out, rfl⟩)
        rw [← h2]
        exact own_mono h1 HB.out

end Go.Proofs.Ytdmbgimehepfaaa
