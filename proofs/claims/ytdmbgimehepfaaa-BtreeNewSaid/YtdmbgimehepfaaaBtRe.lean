/- The reference's tree: Put. -/
import Derived.Test.YtdmbgimehepfaaaBtRd
import Derived.Deep.LoopGhost
set_option linter.unusedSimpArgs false
set_option linter.unusedVariables false
namespace Go.Proofs.Ytdmbgimehepfaaa
open Go.RowKit


theorem ext_grown2 {a b c : World} {row : Option Nat} (e : Ext a b) (h : b.grownBy c row) (hr : ∀ g, row = some g → a.heap.size ≤ g) : Ext a c :=
  ⟨h.os.trans e.os, h.tape.trans e.tape, h.output.trans e.output, Nat.le_trans e.size h.size, fun k hk => (h.block k (Nat.lt_of_lt_of_le hk e.size) (fun e' => by have := hr k e'.symm; omega)).trans (e.block k hk)⟩
set_option maxRecDepth 100000 in
set_option maxHeartbeats 8000000 in
theorem rPut_any (base : Nat) (v : Value) (l : List MP) (A : Option Addr) (c : Nat) (K : List Va) (id : Int) (w : World) (hbw : base ≤ w.heap.size) (hx : RefIs base w v l) (hl1 : l.length < 1048576) (hR : Rd w 3 A K.length (vcl K)) (hK : K.length ≤ 1048576) :
    Calls Try.prog 44 #[v, .slice A K.length c, .int .i64 id] w (TPost base w (fun b l' => (b = false ∧ (∃ q ∈ l, q.kp = (K, id)) ∧ l' = l) ∨ (b = true ∧ (¬ ∃ q ∈ l, q.kp = (K, id)) ∧ ∃ p : MP, p.kp = (K, id) ∧ l' = (l.filter fun q => (decide (cmpR q.key K < 0) || (decide (cmpR q.key K = 0) && decide (q.id < id)))) ++ p :: (l.filter fun q => !(decide (cmpR q.key K < 0) || (decide (cmpR q.key K = 0) && decide (q.id < id))))))) := by
  have HH : Hid (∀ W, Ext w W → Calls Try.prog 59 #[v, .slice A K.length c, .int .i64 id] W fun e w' => ∃ b : Bool, (b = true ↔ ∃ q ∈ l, q.kp = (K, id)) ∧ e = .returned (.bool b) ∧ Ext W w') := Lib.hid fun W e => rHas2_any base v l A c K id W (hx.ext e) (hR.ext e) hK
  have HX := Lib.hid hx
  have hrow := hx.row
  obtain ⟨vA, vc, rfl, _, _, _⟩ := own_form2 hrow
  have HKEY := Lib.hid hx.key
  have hlen := hx.len
  obtain ⟨n, hn⟩ : ∃ n, l.length = n := ⟨_, rfl⟩
  rw [hn] at hrow hlen ⊢
  have HN := Lib.hid hn
  rw [hn] at HH hl1
  have HB := Lib.hid hbw
  have HRK := Lib.hid hR
  obtain ⟨cf, hcf⟩ : ∃ cf : MP → Bool, cf = fun q => (decide (cmpR q.key K < 0) || (decide (cmpR q.key K = 0) && decide (q.id < id))) := ⟨_, rfl⟩
  have HDF : Hid (∀ q, cf q = (decide (cmpR q.key K < 0) || (decide (cmpR q.key K = 0) && decide (q.id < id)))) := Lib.hid fun q => by rw [hcf]
  have HQQ : Hid ((fun b l' => (b = false ∧ (∃ q ∈ l, q.kp = (K, id)) ∧ l' = l) ∨ (b = true ∧ (¬ ∃ q ∈ l, q.kp = (K, id)) ∧ ∃ p : MP, p.kp = (K, id) ∧ l' = l.filter cf ++ p :: (l.filter fun q => !cf q))) = (fun b l' => (b = false ∧ (∃ q ∈ l, q.kp = (K, id)) ∧ l' = l) ∨ (b = true ∧ (¬ ∃ q ∈ l, q.kp = (K, id)) ∧ ∃ p : MP, p.kp = (K, id) ∧ l' = (l.filter fun q => (decide (cmpR q.key K < 0) || (decide (cmpR q.key K = 0) && decide (q.id < id)))) ++ p :: (l.filter fun q => !(decide (cmpR q.key K < 0) || (decide (cmpR q.key K = 0) && decide (q.id < id))))))) := Lib.hid (by rw [hcf])
  rw [← HQQ.out]
  clear hx hn hcf hbw
  have HP0 : Hid (Hp w.heap.size [] w w [] [⟨.slice none 0 0, TR, 2, 0, []⟩, ⟨.slice none 0 0, TR, 2, 0, []⟩]) := Lib.hid (Hp.start (Nat.le_refl _) (Mut.refl _ _) (by simp) (by intro r hr; simp at hr; subst hr; exact World.ownsRow_nil _ _ _ _) (by simp [blks, ob, Value.ownBlock]) (by simp [blks, ob, Value.ownBlock]))
  go_enter Try.func44, Try.ntmps44
  go_wp2_with fail
  refine Calls.mono (HH.out _ (by repeat (first | exact Ext.refl' _ | assumption | apply Ext.ex' | apply Ext.al | apply Ext.drN | apply Ext.dr))) ?_
  rintro e w1 ⟨b, hbi, rfl, hb1⟩
  have HBI := Lib.hid hbi
  have hE1 : Ext w w1 := hb1
  clear hbi hb1
  cases b with
  | true =>
    go_wp2
    go_ret2
    exact TPost.mk false _ l rfl (by have := HX.out.ext (show Ext w w1 from hE1); rw [← HN.out]; exact this) (by repeat (first | exact Ext.refl' _ | assumption | apply Ext.ex' | apply Ext.al | apply Ext.drN | apply Ext.dr)) (.inl ⟨rfl, by simpa using HBI.out, rfl⟩)
  | false =>
    go_wp2
    go_loopg [8, 9, 20] n (fun g vo vh x wr => ∃ (k : Nat) (nl nh : Nat), x = .int .i64 k ∧ k ≤ n ∧ n - k ≤ g ∧ nl + nh ≤ k ∧ Hid (nl = ((l.take k).filter cf).length ∧ nh = ((l.take k).filter fun q => !cf q).length) ∧ Hid (Hp w.heap.size [] w wr [] [⟨vo, TR, 2, nl, mpl ((l.take k).filter cf)⟩, ⟨vh, TR, 2, nh, mpl ((l.take k).filter fun q => !cf q)⟩]))
    case atStart => exact ⟨0, 0, 0, rfl, by omega, by omega, by omega, Lib.hid ⟨rfl, rfl⟩, Lib.hid (by simpa [mpl] using HP0.out.ext (by repeat (first | exact Ext.refl' _ | assumption | apply Ext.ex' | apply Ext.al | apply Ext.drN | apply Ext.dr)))⟩
    case round =>
      obtain ⟨k, nl, nh, rfl, hk, hg, hnr, HNL, HPR⟩ := hrel
      have HG := Lib.hid hg
      clear hg
      have hE : Ext w wr := ⟨HPR.out.mu.os, HPR.out.mu.tape, HPR.out.mu.output, HPR.out.mu.size, fun b hb => HPR.out.mu.same b hb (by simp)⟩
      obtain ⟨lA, lc, hoe, _, _, _⟩ := own_form2 (HPR.out.own 0 rfl)
      have hoe : _ = Value.slice lA nl lc := hoe
      subst hoe
      obtain ⟨hA, hc, hoe, _, _, _⟩ := own_form2 (HPR.out.own 1 rfl)
      have hoe : _ = Value.slice hA nh hc := hoe
      subst hoe
      have HOL : Hid (∀ W, Ext wr W → W.ownsRow w.heap.size TR 2 (.slice lA nl lc) nl (mpl ((l.take k).filter cf))) := Lib.hid fun W e => (HPR.out.ext e).own 0 rfl
      have HOH : Hid (∀ W, Ext wr W → W.ownsRow w.heap.size TR 2 (.slice hA nh hc) nh (mpl ((l.take k).filter fun q => !cf q))) := Lib.hid fun W e => (HPR.out.ext e).own 1 rfl
      have HBS : Hid (∀ W, Ext wr W → w.heap.size ≤ W.heap.size) := Lib.hid fun W e => (hE.tr e).size
      by_cases hlt : k < n
      · obtain ⟨q, hq⟩ : ∃ q, l[k]? = some q := ⟨_, List.getElem?_eq_getElem (by have := HN.out; omega)⟩
        obtain ⟨pb, po, rfl, hpb, q0, q1⟩ := ((Rd.of_own hrow).ext hE).pr HN.out.symm (by have := HN.out; omega : k < l.length)
        have hqq : l[k]'(by have := HN.out; omega) = q := (List.getElem?_eq_some_iff.1 hq).2
        rw [hqq] at q0 q1
        have HQK := Lib.hid (HKEY.out q (List.mem_of_getElem? hq))
        have HTK : Hid (l.take (k + 1) = l.take k ++ [q]) := Lib.hid (by
          obtain ⟨h1, h2⟩ := List.getElem?_eq_some_iff.1 hq
          rw [List.take_succ_eq_append_getElem h1, h2])
        have HQ := Lib.hid hq
        have hkz : (k : Int) < (n : Int) := by omega
        have hwk : IntKind.i64.wrap ((k : Int) + 1) = (k : Int) + 1 := IntWalk.i64_in _ (by omega)
        clear hqq hq
        have HC : Hid (∀ W, Ext wr W → Calls Try.prog 27 #[.slice q.A q.n q.c, .slice A K.length c] W fun e w' => e = .returned (.int .i64 (cmpR q.key K)) ∧ Ext W w') := Lib.hid fun W hE' => by
          have h1 := (HQK.out.ext (hE.tr hE')).kr
          have h2 := h1.le
          rw [h1.n]
          exact rcmp30_any q.A A q.c c q.key K W h1.rd (hR.ext (hE.tr hE')) h2 (by omega)
        have HCQ : Hid (cf q = (decide (cmpR q.key K < 0) || (decide (cmpR q.key K = 0) && decide (q.id < id)))) := HDF.out q |> Lib.hid
        generalize cmpR q.key K = z at HC HCQ
        by_cases hz : z < 0
        · have HCV : Hid (cf q = true) := Lib.hid (by rw [HCQ.out, decide_eq_true hz]; rfl)
          have HFA : Hid ((l.take (k + 1)).filter cf = (l.take k).filter cf ++ [q] ∧ (l.take (k + 1)).filter (fun q => !cf q) = (l.take k).filter (fun q => !cf q) ++ []) := Lib.hid (by
            rw [HTK.out, List.filter_append, List.filter_append]
            constructor <;> congr 1 <;> simp [HCV.out])
          go_wp2_with (first | (go_at_call 27; (with_reducible refine Calls.mono (HC.out _ (by repeat (first | exact Ext.refl' _ | assumption | apply Ext.ex' | apply Ext.al | apply Ext.drN | apply Ext.dr))) ?_); rintro e w1 ⟨rfl, hb1⟩; obtain ⟨x1, rfl⟩ := hb1.get; clear hb1) | (at_builtin; refine wpList_app3 _ rfl (.tmp 40) (.tmp 42) rfl elRef w.heap.size (HBS.out _ (by repeat (first | exact Ext.refl' _ | assumption | apply Ext.ex' | apply Ext.al | apply Ext.drN | apply Ext.dr))) (.slice lA nl lc) nl _ rfl (HOL.out _ (by repeat (first | exact Ext.refl' _ | assumption | apply Ext.ex' | apply Ext.al | apply Ext.drN | apply Ext.dr))) (some ⟨_, 0, none⟩) 1 1 (mp2 q) rfl (Rd.lit _ _ _ _ _ rfl (by first | rfl | simp)) (by intro u hu; simp [mp2] at hu; rcases hu with rfl | rfl <;> rfl) (by unfold maxLen; omega) (by omega) ?_; intro v2 w2 ho2 hg2 hn2; have HP2 := Lib.hid ((HPR.out.ext (by repeat (first | exact Ext.refl' _ | assumption | apply Ext.ex' | apply Ext.al | apply Ext.drN | apply Ext.dr))).grow 0 rfl hg2 ho2 hn2); clear ho2 hg2 hn2))
          go_roundg (gk - 1)
          case rel => exact ⟨k + 1, nl + 1, nh, by go_num, by omega, by have := HG.out; omega, by omega, Lib.hid (by
            rw [HFA.out.1, HFA.out.2, List.length_append, List.length_append, ← HNL.out.1, ← HNL.out.2]
            exact ⟨rfl, rfl⟩), Lib.hid (by
            rw [HFA.out.1, HFA.out.2, mpl_append, mpl_append]
            have := HP2.out.ext (by repeat (first | exact Ext.refl' _ | assumption | apply Ext.ex' | apply Ext.al | apply Ext.drN | apply Ext.dr) : Ext w2 w2)
            simpa [mpl] using this)⟩
          case measure => have := HG.out; omega
        · by_cases hz0 : z = 0
          · by_cases hid : q.id < id
            · have HCV : Hid (cf q = true) := Lib.hid (by rw [HCQ.out, decide_eq_true hz0, decide_eq_true hid, decide_eq_false hz]; rfl)
              have HFA : Hid ((l.take (k + 1)).filter cf = (l.take k).filter cf ++ [q] ∧ (l.take (k + 1)).filter (fun q => !cf q) = (l.take k).filter (fun q => !cf q) ++ []) := Lib.hid (by
                rw [HTK.out, List.filter_append, List.filter_append]
                constructor <;> congr 1 <;> simp [HCV.out])
              go_wp2_with (first | (go_at_call 27; (with_reducible refine Calls.mono (HC.out _ (by repeat (first | exact Ext.refl' _ | assumption | apply Ext.ex' | apply Ext.al | apply Ext.drN | apply Ext.dr))) ?_); rintro e w1 ⟨rfl, hb1⟩; obtain ⟨x1, rfl⟩ := hb1.get; clear hb1) | (at_builtin; refine wpList_app3 _ rfl (.tmp 40) (.tmp 42) rfl elRef w.heap.size (HBS.out _ (by repeat (first | exact Ext.refl' _ | assumption | apply Ext.ex' | apply Ext.al | apply Ext.drN | apply Ext.dr))) (.slice lA nl lc) nl _ rfl (HOL.out _ (by repeat (first | exact Ext.refl' _ | assumption | apply Ext.ex' | apply Ext.al | apply Ext.drN | apply Ext.dr))) (some ⟨_, 0, none⟩) 1 1 (mp2 q) rfl (Rd.lit _ _ _ _ _ rfl (by first | rfl | simp)) (by intro u hu; simp [mp2] at hu; rcases hu with rfl | rfl <;> rfl) (by unfold maxLen; omega) (by omega) ?_; intro v2 w2 ho2 hg2 hn2; have HP2 := Lib.hid ((HPR.out.ext (by repeat (first | exact Ext.refl' _ | assumption | apply Ext.ex' | apply Ext.al | apply Ext.drN | apply Ext.dr))).grow 0 rfl hg2 ho2 hn2); clear ho2 hg2 hn2))
              go_roundg (gk - 1)
              case rel => exact ⟨k + 1, nl + 1, nh, by go_num, by omega, by have := HG.out; omega, by omega, Lib.hid (by
                rw [HFA.out.1, HFA.out.2, List.length_append, List.length_append, ← HNL.out.1, ← HNL.out.2]
                exact ⟨rfl, rfl⟩), Lib.hid (by
                rw [HFA.out.1, HFA.out.2, mpl_append, mpl_append]
                have := HP2.out.ext (by repeat (first | exact Ext.refl' _ | assumption | apply Ext.ex' | apply Ext.al | apply Ext.drN | apply Ext.dr) : Ext w2 w2)
                simpa [mpl] using this)⟩
              case measure => have := HG.out; omega
            · have HCV : Hid (cf q = false) := Lib.hid (by rw [HCQ.out, decide_eq_false hid, decide_eq_false hz, Bool.and_false]; rfl)
              have HFA : Hid ((l.take (k + 1)).filter cf = (l.take k).filter cf ++ [] ∧ (l.take (k + 1)).filter (fun q => !cf q) = (l.take k).filter (fun q => !cf q) ++ [q]) := Lib.hid (by
                rw [HTK.out, List.filter_append, List.filter_append]
                constructor <;> congr 1 <;> simp [HCV.out])
              go_wp2_with (first | (go_at_call 27; (with_reducible refine Calls.mono (HC.out _ (by repeat (first | exact Ext.refl' _ | assumption | apply Ext.ex' | apply Ext.al | apply Ext.drN | apply Ext.dr))) ?_); rintro e w1 ⟨rfl, hb1⟩; obtain ⟨x1, rfl⟩ := hb1.get; clear hb1) | (at_builtin; refine wpList_app3 _ rfl (.tmp 44) (.tmp 46) rfl elRef w.heap.size (HBS.out _ (by repeat (first | exact Ext.refl' _ | assumption | apply Ext.ex' | apply Ext.al | apply Ext.drN | apply Ext.dr))) (.slice hA nh hc) nh _ rfl (HOH.out _ (by repeat (first | exact Ext.refl' _ | assumption | apply Ext.ex' | apply Ext.al | apply Ext.drN | apply Ext.dr))) (some ⟨_, 0, none⟩) 1 1 (mp2 q) rfl (Rd.lit _ _ _ _ _ rfl (by first | rfl | simp)) (by intro u hu; simp [mp2] at hu; rcases hu with rfl | rfl <;> rfl) (by unfold maxLen; omega) (by omega) ?_; intro v2 w2 ho2 hg2 hn2; have HP2 := Lib.hid ((HPR.out.ext (by repeat (first | exact Ext.refl' _ | assumption | apply Ext.ex' | apply Ext.al | apply Ext.drN | apply Ext.dr))).grow 1 rfl hg2 ho2 hn2); clear ho2 hg2 hn2))
              go_roundg (gk - 1)
              case rel => exact ⟨k + 1, nl, nh + 1, by go_num, by omega, by have := HG.out; omega, by omega, Lib.hid (by
                rw [HFA.out.1, HFA.out.2, List.length_append, List.length_append, ← HNL.out.1, ← HNL.out.2]
                exact ⟨rfl, rfl⟩), Lib.hid (by
                rw [HFA.out.1, HFA.out.2, mpl_append, mpl_append]
                have := HP2.out.ext (by repeat (first | exact Ext.refl' _ | assumption | apply Ext.ex' | apply Ext.al | apply Ext.drN | apply Ext.dr) : Ext w2 w2)
                simpa [mpl] using this)⟩
              case measure => have := HG.out; omega
          · have HCV : Hid (cf q = false) := Lib.hid (by rw [HCQ.out, decide_eq_false hz0, decide_eq_false hz]; rfl)
            have HFA : Hid ((l.take (k + 1)).filter cf = (l.take k).filter cf ++ [] ∧ (l.take (k + 1)).filter (fun q => !cf q) = (l.take k).filter (fun q => !cf q) ++ [q]) := Lib.hid (by
              rw [HTK.out, List.filter_append, List.filter_append]
              constructor <;> congr 1 <;> simp [HCV.out])
            go_wp2_with (first | (go_at_call 27; (with_reducible refine Calls.mono (HC.out _ (by repeat (first | exact Ext.refl' _ | assumption | apply Ext.ex' | apply Ext.al | apply Ext.drN | apply Ext.dr))) ?_); rintro e w1 ⟨rfl, hb1⟩; obtain ⟨x1, rfl⟩ := hb1.get; clear hb1) | (at_builtin; refine wpList_app3 _ rfl (.tmp 44) (.tmp 46) rfl elRef w.heap.size (HBS.out _ (by repeat (first | exact Ext.refl' _ | assumption | apply Ext.ex' | apply Ext.al | apply Ext.drN | apply Ext.dr))) (.slice hA nh hc) nh _ rfl (HOH.out _ (by repeat (first | exact Ext.refl' _ | assumption | apply Ext.ex' | apply Ext.al | apply Ext.drN | apply Ext.dr))) (some ⟨_, 0, none⟩) 1 1 (mp2 q) rfl (Rd.lit _ _ _ _ _ rfl (by first | rfl | simp)) (by intro u hu; simp [mp2] at hu; rcases hu with rfl | rfl <;> rfl) (by unfold maxLen; omega) (by omega) ?_; intro v2 w2 ho2 hg2 hn2; have HP2 := Lib.hid ((HPR.out.ext (by repeat (first | exact Ext.refl' _ | assumption | apply Ext.ex' | apply Ext.al | apply Ext.drN | apply Ext.dr))).grow 1 rfl hg2 ho2 hn2); clear ho2 hg2 hn2))
            go_roundg (gk - 1)
            case rel => exact ⟨k + 1, nl, nh + 1, by go_num, by omega, by have := HG.out; omega, by omega, Lib.hid (by
              rw [HFA.out.1, HFA.out.2, List.length_append, List.length_append, ← HNL.out.1, ← HNL.out.2]
              exact ⟨rfl, rfl⟩), Lib.hid (by
              rw [HFA.out.1, HFA.out.2, mpl_append, mpl_append]
              have := HP2.out.ext (by repeat (first | exact Ext.refl' _ | assumption | apply Ext.ex' | apply Ext.al | apply Ext.drN | apply Ext.dr) : Ext w2 w2)
              simpa [mpl] using this)⟩
            case measure => have := HG.out; omega
      · have hkz : ¬ ((k : Int) < (n : Int)) := by omega
        have hkn : k = n := by omega
        have HT : Hid (l.take k = l) := Lib.hid (List.take_of_length_le (by have := HN.out; omega))
        clear hkn
        go_wp2_with (first | (at_builtin; refine wpList_app3 _ rfl (.tmp 50) (.tmp 51) rfl elVal3 wr.heap.size ((show Ext wr _ from (by repeat (first | exact Ext.refl' _ | assumption | apply Ext.ex' | apply Ext.al | apply Ext.drN | apply Ext.dr))).size) (.slice (some ⟨wr.heap.size, 0, none⟩) 0 0) 0 [] rfl (own_lit0c wr _ (Nat.le_refl _) _ _) A K.length c (vcl K) rfl (HRK.out.ext (hE.tr (by repeat (first | exact Ext.refl' _ | assumption | apply Ext.ex' | apply Ext.al | apply Ext.drN | apply Ext.dr)))) (oneCell_vcl K) (by unfold maxLen; omega) (by omega) ?_; intro v3 w3 ho3 hg3 hn3; rw [Nat.zero_add, List.nil_append] at ho3; obtain ⟨A3, c3, rfl, _, _, _⟩ := own_form2 ho3; have HE3r : Hid (Ext wr w3) := Lib.hid (ext_grown2 (Ext.al1 wr _) hg3 (fun g hg => by simp [Value.ownBlock] at hg; omega)); have HP3 := Lib.hid (HPR.out.addRow HE3r.out ho3); clear ho3 hg3 hn3) | (at_builtin; refine wpList_app3 _ rfl (.tmp 49) (.tmp 55) rfl elRef w.heap.size (HBS.out _ (HE3r.out.tr (by repeat (first | exact Ext.refl' _ | assumption | apply Ext.ex' | apply Ext.al | apply Ext.drN | apply Ext.dr)))) (.slice lA nl lc) nl _ rfl (HOL.out _ (HE3r.out.tr (by repeat (first | exact Ext.refl' _ | assumption | apply Ext.ex' | apply Ext.al | apply Ext.drN | apply Ext.dr)))) (some ⟨_, 0, none⟩) 1 1 (mp2 (⟨A3, K.length, c3, K, id⟩ : MP)) rfl (Rd.lit _ _ _ _ _ rfl (by first | rfl | simp)) (by intro u hu; simp [mp2] at hu; rcases hu with rfl | rfl <;> rfl) (by unfold maxLen; omega) (by omega) ?_; intro v4 w4 ho4 hg4 hn4; obtain ⟨A4, c4, rfl, _, _, _⟩ := own_form2 ho4; have HP4 := Lib.hid ((HP3.out.ext (by repeat (first | exact Ext.refl' _ | assumption | apply Ext.ex' | apply Ext.al | apply Ext.drN | apply Ext.dr))).grow 0 rfl hg4 ho4 hn4); clear ho4 hg4 hn4) | (at_builtin; (refine wpList_app3 _ rfl (.tmp 57) (.tmp 58) rfl elRef w.heap.size (by have := HP4.out.mu.size; omega) (.slice A4 (nl + 1) c4) (nl + 1) _ rfl (HP4.out.own 0 rfl) hA nh hc (mpl ((l.take k).filter fun q => !cf q)) rfl (Rd.of_own (HP4.out.own 1 rfl)) (oneCell_mpl _) (by unfold maxLen; omega) (by omega) ?_; intro v5 w5 ho5 hg5 hn5; have HP5 := Lib.hid (HP4.out.grow 0 rfl hg5 ho5 hn5); clear ho5 hg5 hn5)))
        go_ret2
        have hE5 : Ext w w5 := ⟨HP5.out.mu.os, HP5.out.mu.tape, HP5.out.mu.output, HP5.out.mu.size, fun b hb => HP5.out.mu.same b hb (by simp)⟩
        have h1 := HP5.out.own 0 rfl
        have h2 : w5.ownsRow w.heap.size 57 3 (.slice A3 K.length c3) K.length (vcl K) := HP5.out.own 2 rfl
        obtain ⟨h3, h4⟩ := HNL.out
        rw [HT.out] at h1 h3 h4
        have h5 : (l.filter cf).length + (l.filter fun q => !cf q).length = l.length := by
          have h : ∀ L : List MP, (L.filter cf).length + (L.filter fun q => !cf q).length = L.length := by
            intro L
            induction L with
            | nil => rfl
            | cons a L ih => cases ha : cf a <;> simp [List.filter_cons, ha] <;> omega
          exact h l
        have h6 : (l.filter cf ++ (⟨A3, K.length, c3, K, id⟩ : MP) :: l.filter fun q => !cf q).length = nl + 1 + nh := by rw [List.length_append, List.length_cons]; omega
        refine TPost.mk true v5 (l.filter cf ++ (⟨A3, K.length, c3, K, id⟩ : MP) :: l.filter fun q => !cf q) rfl ⟨?_, ?_, ?_⟩ hE5 (.inr ⟨rfl, by simpa using HBI.out, (⟨A3, K.length, c3, K, id⟩ : MP), rfl, rfl⟩)
        · rw [h6]
          have h7 : mpl (l.filter cf ++ (⟨A3, K.length, c3, K, id⟩ : MP) :: l.filter fun q => !cf q) = mpl (l.filter cf) ++ mp2 (⟨A3, K.length, c3, K, id⟩ : MP) ++ mpl (l.filter fun q => !cf q) := by simp [mpl]
          rw [h7]
          exact own_mono h1 HB.out
        · intro q hq
          rcases List.mem_append.1 hq with h | h
          · exact KOk.ext (HKEY.out q (List.mem_filter.1 h).1) hE5
          · rcases List.mem_cons.1 h with rfl | h
            · exact KOk.of_own h2 rfl hK
            · exact KOk.ext (HKEY.out q (List.mem_filter.1 h).1) hE5
        · have := HN.out
          rw [List.length_append, List.length_cons]; omega

end Go.Proofs.Ytdmbgimehepfaaa
