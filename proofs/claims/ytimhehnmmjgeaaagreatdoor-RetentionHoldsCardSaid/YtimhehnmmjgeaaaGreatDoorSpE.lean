/- The contracts of span.edges and span.sweep. -/
import Derived.Test.YtimhehnmmjgeaaaGreatDoorSrt
import Derived.Test.YtimhehnmmjgeaaaGreatDoorSpC
set_option linter.unusedSimpArgs false
set_option linter.unusedVariables false
namespace Go.Proofs.YtimhehnmmjgeaaaGreatDoor
open Go.RowKit


theorem elEdge : El Tryz.prog 117 120 (.agg #[.int .i64 0, .int .i64 0, .int .i64 0]) 3 24 := ⟨Tryz.underlying117, info_parts (by kernel_rfl), rfl, by decide⟩
theorem tc_append (a b : List (Int × Int × Int)) : tc (a ++ b) = tc a ++ tc b := by simp [tc]
theorem Rd.tri {w : World} {A : Option Addr} {l : List (Int × Int × Int)} (h : Rd w 3 A l.length (tc l)) {k : Nat} (hk : k < l.length) :
    ∃ b o, A = some ⟨b, o, none⟩ ∧ b < w.heap.size ∧ w.cell? ⟨b, o + k * 3, none⟩ = some (.int .i64 l[k].1) ∧ w.cell? ⟨b, o + k * 3 + 1, none⟩ = some (.int .i64 l[k].2.1) ∧ w.cell? ⟨b, o + k * 3 + 2, none⟩ = some (.int .i64 l[k].2.2) := by
  obtain ⟨b, o, hA, hb, hc⟩ := h.2 (by omega)
  obtain ⟨h1, h2, h3⟩ := tc_get l k hk
  exact ⟨b, o, hA, hb, hc _ _ h1, hc _ _ h2, hc _ _ h3⟩
def EdP (la lb : List (Int × Int)) (w : World) (e : Ending) (w' : World) : Prop := ∃ A c L, e = .returned (.slice A L.length c) ∧ EdFor la lb L ∧ Ext w w' ∧ Rd w' 3 A L.length (tc L)


set_option maxHeartbeats 2000000 in
theorem edges_any (A B : Option Addr) (ca cb : Nat) (la lb : List (Int × Int)) (w : World) (hA : Rd w 2 A la.length (pc la)) (hB : Rd w 2 B lb.length (pc lb)) (ha : la.length ≤ 549755813888) (hb : lb.length ≤ 549755813888) :
    Calls Tryz.prog 91 #[.slice A la.length ca, .slice B lb.length cb] w (EdP la lb w) := by
  go_enter Tryz.func91, Tryz.ntmps91
  go_wp2
  go_loopw [5, 12] (fun out i wr => ∃ (k : Nat) (acc : List (Int × Int × Int)) (x : Add), k ≤ la.length ∧ acc.length ≤ 0 + 2 * k ∧ i = .int .i64 k ∧ Hid (edA la = acc ++ edA (la.drop k)) ∧ wr = ext w x ∧ Own w x 120 3 out acc.length (tc acc)) (fun _ i _ => la.length - (intOf i).toNat)
  case atStart =>
    obtain ⟨x, hx⟩ := (Ext.refl' w).get
    exact ⟨0, [], x, by omega, by simp, rfl, Lib.hid (by simp), hx, own_nil _ _ _ _⟩
  case round =>
    obtain ⟨k, acc, x, hk, hal, rfl, HC, rfl, hown⟩ := hrel
    by_cases hlt : k < la.length
    · obtain ⟨b, o, rfl, hb, hc1, hc2⟩ := hA.pair rfl hlt
      have hd := List.drop_eq_getElem_cons hlt
      rcases hv : pvB la[k] with _ | _
      · have HE : Hid (edA la = acc ++ edA (la.drop (k + 1))) := Lib.hid (by rw [HC.out, hd, edA_cons, hv]; simp)
        generalize la[k] = p at hc1 hc2 hv
        clear hd HC
        go_wp2_with (go_at_call 27; refine (pvalid_any p _).mono ?_; rintro e w1 ⟨rfl, hb1⟩; obtain ⟨x1, rfl⟩ := hb1.get; clear hb1)
        go_roundw
        case rel => exact rel_same hown (by repeat (first | exact Ext.refl' _ | assumption | apply Ext.ex' | apply Ext.al | apply Ext.drN | apply Ext.dr)) fun x' hx' ho' => ⟨k + 1, acc, x', by omega, by omega, by go_num, HE, hx', ho'⟩
        case measure => simp [intOf]; omega
      · have HE : Hid (edA la = acc ++ [((·.1 : Int × Int → Int), (1 : Int), (0 : Int)), ((·.2 : Int × Int → Int), (-1 : Int), (0 : Int))].map (fun c => (c.1 la[k], c.2)) ++ edA (la.drop (k + 1))) := Lib.hid (by rw [HC.out, hd, edA_cons, hv]; simp)
        simp only [List.map_cons, List.map_nil] at HE
        generalize la[k] = p at hc1 hc2 hv HE
        clear hd HC
        go_wp2_with (first | (go_at_call 27; refine (pvalid_any p _).mono ?_; rintro e w1 ⟨rfl, hb1⟩; obtain ⟨x1, rfl⟩ := hb1.get; clear hb1) | (at_builtin; refine wpList_app _ rfl (.tmp 18) (.tmp 25) rfl elEdge w (by repeat (first | exact Ext.refl' _ | assumption | apply Ext.ex' | apply Ext.al | apply Ext.drN | apply Ext.dr)) _ _ _ rfl (World.ownsRow.alloc (own_ext (World.ownsRow.alloc (by exact hown) _) x1) _) _ 2 2 [.int .i64 p.1, .int .i64 1, .int .i64 0, .int .i64 p.2, .int .i64 (-1), .int .i64 0] rfl (Rd.lit _ _ _ 2 3 rfl (by simp [size_ext])) (oneCell_tc [(p.1, 1, 0), (p.2, -1, 0)]) (by unfold maxLen; omega) (by omega) ?_; intro v' x' hown' _))
        go_roundw
        case rel => exact ⟨k + 1, acc ++ [(p.1, 1, 0), (p.2, -1, 0)], x', by omega, by simp; omega, by go_num, HE, rfl, by simpa [tc] using hown'⟩
        case measure => simp [intOf]; omega
    · have H0 : Hid (edA la = acc) := Lib.hid (by rw [HC.out, List.drop_eq_nil_of_le (Nat.le_of_not_lt hlt)]; simp [edA])
      have hla := edA_length la
      rw [H0.out] at hla
      clear HC hal
      go_wp2
      clear hlt
      go_loopw [5, 30] (fun out i wr => ∃ (k : Nat) (acc : List (Int × Int × Int)) (x : Add), k ≤ lb.length ∧ acc.length ≤ 2 * la.length + 2 * k ∧ i = .int .i64 k ∧ Hid (edA la ++ edB lb = acc ++ edB (lb.drop k)) ∧ wr = ext w x ∧ Own w x 120 3 out acc.length (tc acc)) (fun _ i _ => lb.length - (intOf i).toNat)
      case atStart => exact ⟨0, acc, x, by omega, by omega, rfl, Lib.hid (by rw [H0.out]; simp), rfl, hown⟩
      case round =>
        obtain ⟨k, acc, x, hk, hal, rfl, HC, rfl, hown⟩ := hrel
        by_cases hlt : k < lb.length
        · obtain ⟨b, o, rfl, hb, hc1, hc2⟩ := hB.pair rfl hlt
          have hd := List.drop_eq_getElem_cons hlt
          rcases hv : pvB lb[k] with _ | _
          · have HE : Hid (edA la ++ edB lb = acc ++ edB (lb.drop (k + 1))) := Lib.hid (by rw [HC.out, hd, edB_cons, hv]; simp)
            generalize lb[k] = p at hc1 hc2 hv
            clear hd HC
            go_wp2_with (go_at_call 27; refine (pvalid_any p _).mono ?_; rintro e w1 ⟨rfl, hb1⟩; obtain ⟨x1, rfl⟩ := hb1.get; clear hb1)
            go_roundw
            case rel => exact rel_same hown (by repeat (first | exact Ext.refl' _ | assumption | apply Ext.ex' | apply Ext.al | apply Ext.drN | apply Ext.dr)) fun x' hx' ho' => ⟨k + 1, acc, x', by omega, by omega, by go_num, HE, hx', ho'⟩
            case measure => simp [intOf]; omega
          · have HE : Hid (edA la ++ edB lb = acc ++ [((·.1 : Int × Int → Int), (0 : Int), (1 : Int)), ((·.2 : Int × Int → Int), (0 : Int), (-1 : Int))].map (fun c => (c.1 lb[k], c.2)) ++ edB (lb.drop (k + 1))) := Lib.hid (by rw [HC.out, hd, edB_cons, hv]; simp)
            simp only [List.map_cons, List.map_nil] at HE
            generalize lb[k] = p at hc1 hc2 hv HE
            clear hd HC
            go_wp2_with (first | (go_at_call 27; refine (pvalid_any p _).mono ?_; rintro e w1 ⟨rfl, hb1⟩; obtain ⟨x1, rfl⟩ := hb1.get; clear hb1) | (at_builtin; refine wpList_app _ rfl (.tmp 36) (.tmp 43) rfl elEdge w (by repeat (first | exact Ext.refl' _ | assumption | apply Ext.ex' | apply Ext.al | apply Ext.drN | apply Ext.dr)) _ _ _ rfl (World.ownsRow.alloc (own_ext (World.ownsRow.alloc (by exact hown) _) x1) _) _ 2 2 [.int .i64 p.1, .int .i64 0, .int .i64 1, .int .i64 p.2, .int .i64 0, .int .i64 (-1)] rfl (Rd.lit _ _ _ 2 3 rfl (by simp [size_ext])) (oneCell_tc [(p.1, 0, 1), (p.2, 0, -1)]) (by unfold maxLen; omega) (by omega) ?_; intro v' x' hown' _))
            go_roundw
            case rel => exact ⟨k + 1, acc ++ [(p.1, 0, 1), (p.2, 0, -1)], x', by omega, by simp; omega, by go_num, HE, rfl, by simpa [tc] using hown'⟩
            case measure => simp [intOf]; omega
        · have H1 : Hid (edA la ++ edB lb = acc) := Lib.hid (by rw [HC.out, List.drop_eq_nil_of_le (Nat.le_of_not_lt hlt)]; simp [edB])
          have hok : Hid (∀ e ∈ acc, EdOk e) := Lib.hid (by
            rw [← H1.out]; intro e he
            rcases List.mem_append.1 he with h | h
            · exact edA_ok la e h
            · exact edB_ok lb e h)
          obtain ⟨A1, c1, rfl, hl1, hm1⟩ := Own.form hown
          go_wp2_with (go_at_call 101; refine (sortE w x A1 c1 acc hok.out hown (by omega)).mono ?_; rintro e w1 ⟨rfl, x5, L, rfl, hp, hs, ho5⟩)
          go_ret
          have hlen := hp.length_eq
          exact ⟨A1, c1, L, by rw [hlen]; rfl, ⟨by rw [H1.out]; exact hp, hs⟩, Ext.ex _ _, by have := Rd.of_own ho5; rw [hlen]; exact this⟩


theorem sum_take {L : List (Int × Int × Int)} (h : ∀ e ∈ L, EdOk e) (i : Nat) : -(L.length : Int) ≤ sumA (L.take i) ∧ sumA (L.take i) ≤ L.length ∧ -(L.length : Int) ≤ sumB (L.take i) ∧ sumB (L.take i) ≤ L.length := by
  have hm : ∀ e ∈ L.take i, EdOk e := fun e he => h e (List.mem_of_mem_take he)
  have h1 := sumA_bound hm
  have h2 := sumB_bound hm
  have h3 : (L.take i).length ≤ L.length := List.length_take_le' i L
  omega
set_option maxRecDepth 100000 in
set_option maxHeartbeats 4000000 in
theorem sweepO_any (g : Nat) (k : Bool → Bool → Bool) (eg : ∀ args w, (callFunc g args).run Tryz.prog w = .ok (.enter g args) w) (hg : ∀ a b w, Calls Tryz.prog g #[.bool a, .bool b] w fun e w' => e = .returned (.bool (k a b)) ∧ w = w')
    (A B : Option Addr) (ca cb : Nat) (la lb : List (Int × Int)) (w : World) (hA : Rd w 2 A la.length (pc la)) (hB : Rd w 2 B lb.length (pc lb)) (ha : la.length ≤ 549755813888) (hb : lb.length ≤ 549755813888) :
    Calls Tryz.prog 76 #[.slice A la.length ca, .slice B lb.length cb, .func (.func g) #[] #[]] w (OwR 25 2 (combF k la lb).length (pc (combF k la lb)) w) := by
  have HF0 := Lib.hid (fun out h => (Inv.eq (f := fun t => k (inL la t) (inL lb t)) (a := out) h (combF_inv k la lb) fun _ _ _ => rfl))
  obtain ⟨f, hf⟩ : ∃ f : Int → Bool, f = fun t => k (inL la t) (inL lb t) := ⟨_, rfl⟩
  rw [← hf] at HF0
  have Hf := Lib.hid hf
  clear hf
  go_enter Tryz.func76, Tryz.ntmps76
  go_wp2_with (go_at_call 91; refine (edges_any A B ca cb la lb _ hA hB ha hb).mono ?_; rintro e W1 ⟨A1, c1, L, rfl, hL, hw, hR⟩)
  have HL := Lib.hid hL
  have hll := hL.length
  have HOK := Lib.hid hL.ok
  clear hL hA hB
  go_loopw [8, 9, 10, 11, 12] (fun out vna vnb vi vat wr => ∃ (i : Nat) (x0 na nb : Int) (acc : List (Int × Int)) (x : Add), vi = .int .i64 i ∧ vat = .int .i64 x0 ∧ vna = .int .i64 na ∧ vnb = .int .i64 nb ∧ 0 ≤ x0 ∧ x0 ≤ 1099511627776 ∧ i ≤ L.length ∧ -(L.length : Int) ≤ na ∧ na ≤ L.length ∧ -(L.length : Int) ≤ nb ∧ nb ≤ L.length ∧ Hid (At L i x0) ∧ Hid (Inv f acc x0) ∧ Hid (na = sumA (L.take i) ∧ nb = sumB (L.take i)) ∧ wr = ext W1 x ∧ Own W1 x 25 2 out acc.length (pc acc)) (fun _ _ _ _ a _ => (1099511627776 - intOf a).toNat)
  case atStart =>
    obtain ⟨x, hx⟩ := (Ext.refl' W1).get
    exact ⟨0, 0, 0, 0, [], x, rfl, rfl, rfl, rfl, by omega, by omega, by omega, by omega, by omega, by omega, by omega, Lib.hid (At.start HOK.out), Lib.hid (Inv.start f), Lib.hid ⟨rfl, rfl⟩, hx, own_nil _ _ _ _⟩
  case round =>
    obtain ⟨i0, x0, na0, nb0, acc, x, rfl, rfl, rfl, rfl, hx0, hx1, hi0, hna1, hna2, hnb1, hnb2, HA, HI, HN0, rfl, hown⟩ := hrel
    have hshort := HI.out.short
    by_cases hxF : x0 < 1099511627776
    · go_wp2
      obtain ⟨wo, hwo⟩ : ∃ wo : World, wo = ext W1 x := ⟨_, rfl⟩
      go_loop [9, 10, 11] (fun vna vnb vi => ∃ (i : Nat) (na nb : Int), vi = .int .i64 i ∧ vna = .int .i64 na ∧ vnb = .int .i64 nb ∧ i ≤ L.length ∧ -(L.length : Int) ≤ na ∧ na ≤ L.length ∧ -(L.length : Int) ≤ nb ∧ nb ≤ L.length ∧ Hid (At L i x0) ∧ Hid (na = sumA (L.take i) ∧ nb = sumB (L.take i))) (fun _ _ vi => L.length - (intOf vi).toNat)
      case atStart => exact ⟨i0, na0, nb0, rfl, rfl, rfl, hi0, hna1, hna2, hnb1, hnb2, HA, HN0⟩
      case round =>
        obtain ⟨i, na, nb, rfl, rfl, rfl, hi, hna1, hna2, hnb1, hnb2, HA, HN⟩ := hrel
        clear hwo
        by_cases hlt : i < L.length
        · obtain ⟨b, o, rfl, hb, hc1, hc2, hc3⟩ := hR.tri hlt
          by_cases he : L[i].1 = x0
          · have HA' : Hid (At L (i + 1) x0) := Lib.hid (HA.out.next hlt he)
            have HN' : Hid (na + L[i].2.1 = sumA (L.take (i + 1)) ∧ nb + L[i].2.2 = sumB (L.take (i + 1))) := Lib.hid ⟨by rw [sumA_take_succ hlt, HN.out.1], by rw [sumB_take_succ hlt, HN.out.2]⟩
            have hst := sum_take HOK.out (i + 1)
            rw [← HN'.out.1, ← HN'.out.2] at hst
            have hok := HOK.out L[i] (List.getElem_mem hlt)
            unfold EdOk at hok
            rw [he] at hc1
            generalize L[i].2.1 = da at hc2 HN' hst hok
            generalize L[i].2.2 = db at hc3 HN' hst hok
            clear he
            have hbx : (x0 == x0) = true := by simp
            go_wp2
            go_round
            case rel => exact ⟨i + 1, na + da, nb + db, by go_num, by go_num, by go_num, by omega, by omega, by omega, by omega, by omega, HA', HN'⟩
            case measure => simp [intOf]; omega
          · obtain ⟨hn1, hn2, hn3, hn4⟩ := HA.out.go HL.out hlt he
            have HA' := Lib.hid hn3
            have HF : Hid (∀ t, x0 ≤ t → t < L[i].1 → f t = k (decide (0 < na)) (decide (0 < nb))) := Lib.hid (fun t h1 h2 => by rw [Hf.out, HN.out.1, HN.out.2]; simp only [(hn4 t h1 h2).1, (hn4 t h1 h2).2])
            have hbx : (L[i].1 == x0) = false := by simp [he]
            clear he hn3 hn4 HA
            generalize L[i].1 = nx at hc1 hn1 hn2 HA' HF hbx
            go_wp2
            
            rcases hv : k (decide (0 < na)) (decide (0 < nb)) with _ | _
            · have HI' : Hid (Inv f acc nx) := Lib.hid (HI.out.skip (by omega) fun t h1 h2 => by rw [HF.out t h1 h2, hv])
              go_wp2_with (go_at_fn g; refine (hg _ _ _).mono ?_; rintro e w1 ⟨rfl, rfl⟩)
              go_roundw
              case rel => exact ⟨i, nx, na, nb, acc, x, rfl, rfl, rfl, rfl, by omega, by omega, by omega, by omega, by omega, by omega, by omega, HA', HI', HN, rfl, hown⟩
              case measure => simp [intOf]; omega
            · rcases List.eq_nil_or_concat acc with rfl | ⟨ini, q, rfl⟩
              · have HI' : Hid (Inv f ([] ++ [(x0, nx)]) nx) := Lib.hid (HI.out.new (by omega) (by omega) (by omega) (fun t h1 h2 => by rw [HF.out t h1 h2, hv]) (by simp))
                simp only [List.length_nil] at hown
                obtain ⟨Ao, co, rfl, hlo, hmo⟩ := Own.form hown
                go_wp2_with (first | (go_at_fn g; refine (hg _ _ _).mono ?_; rintro e w1 ⟨rfl, rfl⟩) | (at_builtin; refine wpList_app _ rfl (.tmp 84) (.tmp 88) rfl elPeriod W1 (by repeat (first | exact Ext.refl' _ | assumption | apply Ext.ex' | apply Ext.al | apply Ext.drN | apply Ext.dr)) _ _ _ rfl (World.ownsRow.alloc (by exact hown) _) _ 1 1 [.int .i64 x0, .int .i64 nx] rfl (Rd.lit _ _ _ 1 2 rfl (by simp [size_ext])) (oneCell_pc [(x0, nx)]) (by unfold maxLen; omega) (by omega) ?_; intro v' x' hown' _))
                go_roundw
                case rel => exact ⟨i, nx, na, nb, [] ++ [(x0, nx)], x', rfl, rfl, rfl, rfl, by omega, by omega, by omega, by omega, by omega, by omega, by omega, HA', HI', HN, rfl, by simpa [pc] using hown'⟩
                case measure => simp [intOf]; omega
              · rw [List.concat_eq_append] at HI hown
                have hsh := HI.out.short
                simp only [List.length_append, List.length_singleton] at hown hsh
                obtain ⟨Ao, co, rfl, hlo, hmo⟩ := Own.form hown
                obtain ⟨gb, rfl, hg1, hg2, hcell, hfz⟩ := Own.at hown (by omega)
                have hq := (pc_get (ini ++ [q]) ini.length (by simp)).2
                simp only [List.getElem_append_right (Nat.le_refl _), Nat.sub_self, List.getElem_singleton] at hq
                have hc2 := hcell _ _ hq
                clear hcell hq
                by_cases hqx : q.2 = x0
                · have HI' : Hid (Inv f (ini ++ [(q.1, nx)]) nx) := Lib.hid (Inv.grow (x := x0) (by rw [← hqx] at HI ⊢; exact HI.out) (by omega) (by omega) (fun t h1 h2 => by rw [HF.out t h1 h2, hv]))
                  have hqb : (q.2 == x0) = true := by simp [hqx]
                  clear hqx
                  obtain ⟨x', hset, hxn, hown', hgr, _, _⟩ := Own.set hown (ini.length * 2 + 1) (.int .i64 nx)
                  have hrow : (pc (ini ++ [q])).set (ini.length * 2 + 1) (.int .i64 nx) = pc (ini ++ [(q.1, nx)]) := by
                    rw [pc_append, pc_append, List.set_append_right _ _ (by rw [pc_length]; omega), pc_length]
                    congr 1
                    rw [show ini.length * 2 + 1 - ini.length * 2 = 1 from by omega]
                    rfl
                  rw [hrow] at hown'
                  clear hrow hgr
                  go_wp2_with (go_at_fn g; refine (hg _ _ _).mono ?_; rintro e w1 ⟨rfl, rfl⟩)
                  go_roundw
                  case rel => exact ⟨i, nx, na, nb, ini ++ [(q.1, nx)], x', rfl, rfl, rfl, rfl, by omega, by omega, by omega, by omega, by omega, by omega, by omega, HA', HI', HN, rfl, by simpa using hown'⟩
                  case measure => simp [intOf]; omega
                · have HI' : Hid (Inv f (ini ++ [q] ++ [(x0, nx)]) nx) := Lib.hid (HI.out.new (by omega) (by omega) (by omega) (fun t h1 h2 => by rw [HF.out t h1 h2, hv]) (HI.out.apart hqx))
                  have hqb : (q.2 == x0) = false := by simp [hqx]
                  clear hqx
                  go_wp2_with (first | (go_at_fn g; refine (hg _ _ _).mono ?_; rintro e w1 ⟨rfl, rfl⟩) | (at_builtin; refine wpList_app _ rfl (.tmp 84) (.tmp 88) rfl elPeriod W1 (by repeat (first | exact Ext.refl' _ | assumption | apply Ext.ex' | apply Ext.al | apply Ext.drN | apply Ext.dr)) _ _ _ rfl (World.ownsRow.alloc (by exact hown) _) _ 1 1 [.int .i64 x0, .int .i64 nx] rfl (Rd.lit _ _ _ 1 2 rfl (by simp [size_ext])) (oneCell_pc [(x0, nx)]) (by unfold maxLen; omega) (by omega) ?_; intro v' x' hown' _))
                  go_roundw
                  case rel => exact ⟨i, nx, na, nb, ini ++ [q] ++ [(x0, nx)], x', rfl, rfl, rfl, rfl, by omega, by omega, by omega, by omega, by omega, by omega, by omega, HA', HI', HN, rfl, by simpa [pc] using hown'⟩
                  case measure => simp [intOf]; omega
        · obtain ⟨hn3, hn4⟩ := HA.out.fin HL.out hlt hx1
          have HA' := Lib.hid hn3
          have HF : Hid (∀ t, x0 ≤ t → t < 1099511627776 → f t = k (decide (0 < na)) (decide (0 < nb))) := Lib.hid (fun t h1 h2 => by rw [Hf.out, HN.out.1, HN.out.2]; simp only [(hn4 t h1 h2).1, (hn4 t h1 h2).2])
          clear hn3 hn4 HA
          go_wp2
          
          rcases hv : k (decide (0 < na)) (decide (0 < nb)) with _ | _
          · have HI' : Hid (Inv f acc 1099511627776) := Lib.hid (HI.out.skip (by omega) fun t h1 h2 => by rw [HF.out t h1 h2, hv])
            go_wp2_with (go_at_fn g; refine (hg _ _ _).mono ?_; rintro e w1 ⟨rfl, rfl⟩)
            go_roundw
            case rel => exact ⟨i, 1099511627776, na, nb, acc, x, rfl, rfl, rfl, rfl, by omega, by omega, by omega, by omega, by omega, by omega, by omega, HA', HI', HN, rfl, hown⟩
            case measure => simp [intOf]; omega
          · rcases List.eq_nil_or_concat acc with rfl | ⟨ini, q, rfl⟩
            · have HI' : Hid (Inv f ([] ++ [(x0, 1099511627776)]) 1099511627776) := Lib.hid (HI.out.new (by omega) (by omega) (by omega) (fun t h1 h2 => by rw [HF.out t h1 h2, hv]) (by simp))
              simp only [List.length_nil] at hown
              obtain ⟨Ao, co, rfl, hlo, hmo⟩ := Own.form hown
              go_wp2_with (first | (go_at_fn g; refine (hg _ _ _).mono ?_; rintro e w1 ⟨rfl, rfl⟩) | (at_builtin; refine wpList_app _ rfl (.tmp 84) (.tmp 88) rfl elPeriod W1 (by repeat (first | exact Ext.refl' _ | assumption | apply Ext.ex' | apply Ext.al | apply Ext.drN | apply Ext.dr)) _ _ _ rfl (World.ownsRow.alloc (by exact hown) _) _ 1 1 [.int .i64 x0, .int .i64 1099511627776] rfl (Rd.lit _ _ _ 1 2 rfl (by simp [size_ext])) (oneCell_pc [(x0, 1099511627776)]) (by unfold maxLen; omega) (by omega) ?_; intro v' x' hown' _))
              go_roundw
              case rel => exact ⟨i, 1099511627776, na, nb, [] ++ [(x0, 1099511627776)], x', rfl, rfl, rfl, rfl, by omega, by omega, by omega, by omega, by omega, by omega, by omega, HA', HI', HN, rfl, by simpa [pc] using hown'⟩
              case measure => simp [intOf]; omega
            · rw [List.concat_eq_append] at HI hown
              have hsh := HI.out.short
              simp only [List.length_append, List.length_singleton] at hown hsh
              obtain ⟨Ao, co, rfl, hlo, hmo⟩ := Own.form hown
              obtain ⟨gb, rfl, hg1, hg2, hcell, hfz⟩ := Own.at hown (by omega)
              have hq := (pc_get (ini ++ [q]) ini.length (by simp)).2
              simp only [List.getElem_append_right (Nat.le_refl _), Nat.sub_self, List.getElem_singleton] at hq
              have hc2 := hcell _ _ hq
              clear hcell hq
              by_cases hqx : q.2 = x0
              · have HI' : Hid (Inv f (ini ++ [(q.1, 1099511627776)]) 1099511627776) := Lib.hid (Inv.grow (x := x0) (by rw [← hqx] at HI ⊢; exact HI.out) (by omega) (by omega) (fun t h1 h2 => by rw [HF.out t h1 h2, hv]))
                have hqb : (q.2 == x0) = true := by simp [hqx]
                clear hqx
                obtain ⟨x', hset, hxn, hown', hgr, _, _⟩ := Own.set hown (ini.length * 2 + 1) (.int .i64 1099511627776)
                have hrow : (pc (ini ++ [q])).set (ini.length * 2 + 1) (.int .i64 1099511627776) = pc (ini ++ [(q.1, 1099511627776)]) := by
                  rw [pc_append, pc_append, List.set_append_right _ _ (by rw [pc_length]; omega), pc_length]
                  congr 1
                  rw [show ini.length * 2 + 1 - ini.length * 2 = 1 from by omega]
                  rfl
                rw [hrow] at hown'
                clear hrow hgr
                go_wp2_with (go_at_fn g; refine (hg _ _ _).mono ?_; rintro e w1 ⟨rfl, rfl⟩)
                go_roundw
                case rel => exact ⟨i, 1099511627776, na, nb, ini ++ [(q.1, 1099511627776)], x', rfl, rfl, rfl, rfl, by omega, by omega, by omega, by omega, by omega, by omega, by omega, HA', HI', HN, rfl, by simpa using hown'⟩
                case measure => simp [intOf]; omega
              · have HI' : Hid (Inv f (ini ++ [q] ++ [(x0, 1099511627776)]) 1099511627776) := Lib.hid (HI.out.new (by omega) (by omega) (by omega) (fun t h1 h2 => by rw [HF.out t h1 h2, hv]) (HI.out.apart hqx))
                have hqb : (q.2 == x0) = false := by simp [hqx]
                clear hqx
                go_wp2_with (first | (go_at_fn g; refine (hg _ _ _).mono ?_; rintro e w1 ⟨rfl, rfl⟩) | (at_builtin; refine wpList_app _ rfl (.tmp 84) (.tmp 88) rfl elPeriod W1 (by repeat (first | exact Ext.refl' _ | assumption | apply Ext.ex' | apply Ext.al | apply Ext.drN | apply Ext.dr)) _ _ _ rfl (World.ownsRow.alloc (by exact hown) _) _ 1 1 [.int .i64 x0, .int .i64 1099511627776] rfl (Rd.lit _ _ _ 1 2 rfl (by simp [size_ext])) (oneCell_pc [(x0, 1099511627776)]) (by unfold maxLen; omega) (by omega) ?_; intro v' x' hown' _))
                go_roundw
                case rel => exact ⟨i, 1099511627776, na, nb, ini ++ [q] ++ [(x0, 1099511627776)], x', rfl, rfl, rfl, rfl, by omega, by omega, by omega, by omega, by omega, by omega, by omega, HA', HI', HN, rfl, by simpa [pc] using hown'⟩
                case measure => simp [intOf]; omega
    · have H0 : Hid (acc = combF k la lb) := Lib.hid (HF0.out acc (by rw [show (1099511627776 : Int) = x0 from by omega]; exact HI.out))
      go_wp2
      go_ret
      exact ⟨_, rfl, hw.tr (Ext.ex _ _), by rw [← H0.out]; exact own_mono hown hw.size⟩
theorem sweep_any (g : Nat) (k : Bool → Bool → Bool) (eg : ∀ args w, (callFunc g args).run Tryz.prog w = .ok (.enter g args) w) (hg : ∀ a b w, Calls Tryz.prog g #[.bool a, .bool b] w fun e w' => e = .returned (.bool (k a b)) ∧ w = w')
    (A B : Option Addr) (ca cb : Nat) (la lb : List (Int × Int)) (w : World) (hA : Rd w 2 A la.length (pc la)) (hB : Rd w 2 B lb.length (pc lb)) (ha : la.length ≤ 549755813888) (hb : lb.length ≤ 549755813888) :
    Calls Tryz.prog 76 #[.slice A la.length ca, .slice B lb.length cb, .func (.func g) #[] #[]] w (RdP 2 (combF k la lb).length (pc (combF k la lb)) w) :=
  (sweepO_any g k eg hg A B ca cb la lb w hA hB ha hb).mono fun _ _ h => h.rd

end Go.Proofs.YtimhehnmmjgeaaaGreatDoor
