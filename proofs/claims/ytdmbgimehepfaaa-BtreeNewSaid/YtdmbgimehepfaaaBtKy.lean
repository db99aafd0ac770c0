/- works: the chapter's example. -/
import Derived.Test.YtdmbgimehepfaaaBtKx
set_option linter.unusedSimpArgs false
set_option linter.unusedVariables false
namespace Go.Proofs.Ytdmbgimehepfaaa
open Go.RowKit


def k1a : List Va := [⟨1, 1, ⟨#[]⟩⟩, ⟨2, 0, ⟨#[97]⟩⟩]
def k1b : List Va := [⟨1, 1, ⟨#[]⟩⟩, ⟨2, 0, ⟨#[98]⟩⟩]
def k2a : List Va := [⟨1, 2, ⟨#[]⟩⟩, ⟨2, 0, ⟨#[97]⟩⟩]
def k1 : List Va := [⟨1, 1, ⟨#[]⟩⟩]
def k2 : List Va := [⟨1, 2, ⟨#[]⟩⟩]
def ks1 : List Kp := [(k1a, 7)]
def ks2 : List Kp := [(k1a, 7), (k1b, 8)]
def ks3 : List Kp := [(k1a, 7), (k1b, 8), (k2a, 9)]
def ks4 : List Kp := [(k1a, 3), (k1a, 7), (k1b, 8), (k2a, 9)]
theorem pw0 : (!hasK [] (k1a, 7)) = true ∧ putK [] (k1a, 7) = ks1 := ⟨by kernel_rfl, by kernel_rfl⟩
theorem pw1 : (!hasK ks1 (k1b, 8)) = true ∧ putK ks1 (k1b, 8) = ks2 := ⟨by kernel_rfl, by kernel_rfl⟩
theorem pw2 : (!hasK ks2 (k2a, 9)) = true ∧ putK ks2 (k2a, 9) = ks3 := ⟨by kernel_rfl, by kernel_rfl⟩
theorem pw3 : (!hasK ks3 (k1a, 3)) = true ∧ putK ks3 (k1a, 3) = ks4 := ⟨by kernel_rfl, by kernel_rfl⟩
theorem pw4 : (!hasK ks4 (k1a, 3)) = false ∧ putK ks4 (k1a, 3) = ks4 := ⟨by kernel_rfl, by kernel_rfl⟩
theorem gw : getK ks4 k1a = [3, 7] := by kernel_rfl
theorem prw : preK ks4 k1 = [3, 7, 8] := by kernel_rfl
theorem rw8 : ranK ks4 k1b k2 = [8] := by kernel_rfl
theorem put_w (base tb : Nat) (ks ks' : List Kp) (b : Bool) (B : Nat) (K : List Va) (id : Int) (w : World) (hbw : base ≤ w.heap.size) (hT : TK base w tb 2 ks) (n : Nat) (hn : n = K.length) (hR : Rd w 3 (some ⟨B, 0, none⟩) n (vcl K)) (hb : (!hasK ks (K, id)) = b) (hk : putK ks (K, id) = ks') (hK : K.length ≤ 1048576) (hll : ks.length < 1048576) (hid : -9223372036854775808 ≤ id) :
    Calls Try.prog 10 #[pt tb, .slice (some ⟨B, 0, none⟩) n n, .int .i64 id] w (TPk base w tb 2 b ks') := by
  subst hn hb hk
  exact put_k base 2 tb ks _ _ K id w (by decide) (by decide) hbw hT hR hK (fun h => by cases h) hll hid
/-- a list of n integers is returned -/
def IPw (w : World) (r : List Int) (n : Nat) (e : Ending) (w' : World) : Prop := ∃ A' c', e = .returned (.slice A' n c') ∧ Rd w' 1 A' n (ic r) ∧ Ext w w'
theorem IPost.w {w w' : World} {r : List Int} {e : Ending} {n : Nat} (h : IPost w r e w') (hn : r.length = n) : IPw w r n e w' := by
  subst hn
  exact h
theorem get_w (base tb : Nat) (ks : List Kp) (r : List Int) (m : Nat) (B : Nat) (K : List Va) (w : World) (hT : TK base w tb 2 ks) (n : Nat) (hn : n = K.length) (hR : Rd w 3 (some ⟨B, 0, none⟩) n (vcl K)) (hk : getK ks K = r) (hm : r.length = m) (hK : K.length ≤ 1048576) : Calls Try.prog 12 #[pt tb, .slice (some ⟨B, 0, none⟩) n n] w (IPw w r m) := by
  subst hn hk
  exact Calls.mono (get_k base 2 tb ks _ _ K w (by decide) (by decide) hT hR hK) fun e w1 h => h.w hm
theorem pre_w (base tb : Nat) (ks : List Kp) (r : List Int) (m : Nat) (B : Nat) (K : List Va) (w : World) (hT : TK base w tb 2 ks) (n : Nat) (hn : n = K.length) (hR : Rd w 3 (some ⟨B, 0, none⟩) n (vcl K)) (hk : preK ks K = r) (hm : r.length = m) (hK : K.length ≤ 1048576) : Calls Try.prog 13 #[pt tb, .slice (some ⟨B, 0, none⟩) n n] w (IPw w r m) := by
  subst hn hk
  exact Calls.mono (pre_k base 2 tb ks _ _ K w (by decide) (by decide) hT hR hK) fun e w1 h => h.w hm
theorem ran_w (base tb : Nat) (ks : List Kp) (r : List Int) (m : Nat) (B : Nat) (K : List Va) (B2 : Nat) (K2 : List Va) (w : World) (hT : TK base w tb 2 ks) (n : Nat) (hn : n = K.length) (hR : Rd w 3 (some ⟨B, 0, none⟩) n (vcl K)) (n2 : Nat) (hn2 : n2 = K2.length) (hR2 : Rd w 3 (some ⟨B2, 0, none⟩) n2 (vcl K2)) (hk : ranK ks K K2 = r) (hm : r.length = m) (hK : K.length ≤ 1048576) (hK2 : K2.length ≤ 1048576) : Calls Try.prog 14 #[pt tb, .slice (some ⟨B, 0, none⟩) n n, .slice (some ⟨B2, 0, none⟩) n2 n2] w (IPw w r m) := by
  subst hn hn2 hk
  exact Calls.mono (ran_k base 2 tb ks _ _ K _ _ K2 w (by decide) (by decide) hT hR hK hR2 hK2) fun e w1 h => h.w hm
theorem ints_w (l : List Int) (A : Option Addr) (c B n : Nat) (w : World) (hn : n = l.length) (hA : Rd w 1 A n (ic l)) (hB : Rd w 1 (some ⟨B, 0, none⟩) n (ic l)) (hl : l.length ≤ 1048576 := by decide) : Calls Try.prog 21 #[.slice A n c, .slice (some ⟨B, 0, none⟩) n n] w fun e w' => e = .returned (.bool true) ∧ Ext w w' := by
  subst hn
  have h := ints_any A (some ⟨B, 0, none⟩) c l.length l l w hA hB (by omega)
  rw [decide_eq_true rfl] at h
  exact h
theorem dep_w {w w' : World} {e : Ending} (h : DPost w 2 ks3.length e w') : e = .returned (.int .i64 2) ∧ Ext w w' := by
  obtain ⟨D, rfl, h, hE⟩ := h
  refine ⟨?_, hE⟩
  have h3 : ks3.length = 3 := rfl
  rw [h3] at h
  rcases h with ⟨h, _⟩ | ⟨d, rfl, h1, h2, _⟩
  · cases h
  · match d, h1, h2 with
    | 0, _, h2 => exact absurd h2 (by decide)
    | 1, _, _ => rfl
    | d + 2, h1, _ =>
      exfalso
      have : 1 ≤ 2 ^ d := Nat.pow_pos (by decide)
      have h1 : 2 * 2 ^ (d + 2) ≤ 4 := h1
      rw [Nat.pow_add] at h1
      omega
set_option maxRecDepth 100000 in
set_option maxHeartbeats 8000000 in
theorem works_any (w : World) : Calls Try.prog 18 #[] w fun e w' => e = .returned (.bool true) ∧ Ext w w' := by
  go_enter Try.func18, Try.ntmps18
  go_wp2_with fail
  refine Calls.mono (new_k w.heap.size 2 _ (by decide) (by decide) (Nat.le_refl _)) ?_
  rintro e w1 ⟨tb, rfl, ht0, hb1⟩
  have hE : Ext w w1 := hb1
  have HT0 := Lib.hid ht0
  clear ht0 hb1
  go_wp2_with fail
  refine Calls.mono (New_no 1 _ (.inl (by decide))) ?_
  rintro e w1 ⟨rfl, hb1⟩
  obtain ⟨x1, rfl⟩ := hb1.get
  clear hb1
  have HE0 := Lib.hid hE
  clear hE
  go_wp2_with (first | (go_at_call 42; (with_reducible refine Calls.mono (num_any _ _) ?_); rintro e w1 ⟨rfl, hb1⟩; obtain ⟨x1, rfl⟩ := hb1.get; clear hb1) | (go_at_call 43; (with_reducible refine Calls.mono (text_any _ _) ?_); rintro e w1 ⟨rfl, hb1⟩; obtain ⟨x1, rfl⟩ := hb1.get; clear hb1) | (go_at_call 10; (with_reducible refine Calls.mono (put_w w.heap.size tb _ _ _ _ k1a 7 _ (HE0.out.tr (by repeat (first | exact Ext.refl' _ | assumption | apply Ext.ex' | apply Ext.al | apply Ext.drN | apply Ext.dr))).size (HT0.out.ext (by repeat (first | exact Ext.refl' _ | assumption | apply Ext.ex' | apply Ext.al | apply Ext.drN | apply Ext.dr))) 2 rfl (Rd.lit _ _ _ _ _ rfl (by first | rfl | simp)) pw0.1 pw0.2 (by decide) (by decide) (by decide)) ?_); rintro e w2 ⟨rfl, ht2, hm2⟩; have HE1 := Lib.hid (hm2.lo (HE0.out.tr (by repeat (first | exact Ext.refl' _ | assumption | apply Ext.ex' | apply Ext.al | apply Ext.drN | apply Ext.dr))) (Nat.le_refl _)); have HT1 := Lib.hid ht2; clear HT0 HE0 ht2 hm2) | (go_at_call 10; (with_reducible refine Calls.mono (put_w w.heap.size tb _ _ _ _ k1b 8 _ (HE1.out.tr (by repeat (first | exact Ext.refl' _ | assumption | apply Ext.ex' | apply Ext.al | apply Ext.drN | apply Ext.dr))).size (HT1.out.ext (by repeat (first | exact Ext.refl' _ | assumption | apply Ext.ex' | apply Ext.al | apply Ext.drN | apply Ext.dr))) 2 rfl (Rd.lit _ _ _ _ _ rfl (by first | rfl | simp)) pw1.1 pw1.2 (by decide) (by decide) (by decide)) ?_); rintro e w2 ⟨rfl, ht2, hm2⟩; have HE2 := Lib.hid (hm2.lo (HE1.out.tr (by repeat (first | exact Ext.refl' _ | assumption | apply Ext.ex' | apply Ext.al | apply Ext.drN | apply Ext.dr))) (Nat.le_refl _)); have HT2 := Lib.hid ht2; clear HT1 HE1 ht2 hm2) | (go_at_call 10; (with_reducible refine Calls.mono (put_w w.heap.size tb _ _ _ _ k2a 9 _ (HE2.out.tr (by repeat (first | exact Ext.refl' _ | assumption | apply Ext.ex' | apply Ext.al | apply Ext.drN | apply Ext.dr))).size (HT2.out.ext (by repeat (first | exact Ext.refl' _ | assumption | apply Ext.ex' | apply Ext.al | apply Ext.drN | apply Ext.dr))) 2 rfl (Rd.lit _ _ _ _ _ rfl (by first | rfl | simp)) pw2.1 pw2.2 (by decide) (by decide) (by decide)) ?_); rintro e w2 ⟨rfl, ht2, hm2⟩; have HE3 := Lib.hid (hm2.lo (HE2.out.tr (by repeat (first | exact Ext.refl' _ | assumption | apply Ext.ex' | apply Ext.al | apply Ext.drN | apply Ext.dr))) (Nat.le_refl _)); have HT3 := Lib.hid ht2; clear HT2 HE2 ht2 hm2) | (go_at_call 16; (with_reducible refine Calls.mono (dep_k w.heap.size 2 tb _ _ (by decide) (by decide) (HT3.out.ext (by repeat (first | exact Ext.refl' _ | assumption | apply Ext.ex' | apply Ext.al | apply Ext.drN | apply Ext.dr)))) ?_); rintro e w1 hd; obtain ⟨rfl, hb1⟩ := dep_w hd; obtain ⟨x1, rfl⟩ := hb1.get; clear hb1 hd) | (go_at_call 10; (with_reducible refine Calls.mono (put_w w.heap.size tb _ _ _ _ k1a 3 _ (HE3.out.tr (by repeat (first | exact Ext.refl' _ | assumption | apply Ext.ex' | apply Ext.al | apply Ext.drN | apply Ext.dr))).size (HT3.out.ext (by repeat (first | exact Ext.refl' _ | assumption | apply Ext.ex' | apply Ext.al | apply Ext.drN | apply Ext.dr))) 2 rfl (Rd.lit _ _ _ _ _ rfl (by first | rfl | simp)) pw3.1 pw3.2 (by decide) (by decide) (by decide)) ?_); rintro e w2 ⟨rfl, ht2, hm2⟩; have HE4 := Lib.hid (hm2.lo (HE3.out.tr (by repeat (first | exact Ext.refl' _ | assumption | apply Ext.ex' | apply Ext.al | apply Ext.drN | apply Ext.dr))) (Nat.le_refl _)); have HT4 := Lib.hid ht2; clear HT3 HE3 ht2 hm2) | (go_at_call 10; (with_reducible refine Calls.mono (put_w w.heap.size tb _ _ _ _ k1a 3 _ (HE4.out.tr (by repeat (first | exact Ext.refl' _ | assumption | apply Ext.ex' | apply Ext.al | apply Ext.drN | apply Ext.dr))).size (HT4.out.ext (by repeat (first | exact Ext.refl' _ | assumption | apply Ext.ex' | apply Ext.al | apply Ext.drN | apply Ext.dr))) 2 rfl (Rd.lit _ _ _ _ _ rfl (by first | rfl | simp)) pw4.1 pw4.2 (by decide) (by decide) (by decide)) ?_); rintro e w2 ⟨rfl, ht2, hm2⟩; have HE5 := Lib.hid (hm2.lo (HE4.out.tr (by repeat (first | exact Ext.refl' _ | assumption | apply Ext.ex' | apply Ext.al | apply Ext.drN | apply Ext.dr))) (Nat.le_refl _)); have HT5 := Lib.hid ht2; clear HT4 HE4 ht2 hm2))
  refine Calls.mono (get_w w.heap.size tb ks4 [3, 7] 2 _ k1a _ ?hT 2 rfl ?hR gw rfl (by decide)) ?_
  case hT => exact HT5.out.ext (by repeat (first | exact Ext.refl' _ | assumption | apply Ext.ex' | apply Ext.al | apply Ext.drN | apply Ext.dr))
  case hR => exact Rd.lit _ #[.int .i64 1, .int .i64 1, .string ⟨#[]⟩, .int .i64 2, .int .i64 0, .string ⟨#[97]⟩] _ 2 3 rfl (by first | rfl | simp)
  rintro e w1 ⟨A1, c1, rfl, hr1, hb1⟩
  obtain ⟨x1, rfl⟩ := hb1.get
  clear hb1
  have HR1 := Lib.hid hr1
  clear hr1
  go_wp2_with fail
  refine Calls.mono (ints_w [3, 7] _ _ _ 2 _ rfl ?hA ?hB) ?_
  case hA => exact HR1.out.ext (by repeat (first | exact Ext.refl' _ | assumption | apply Ext.ex' | apply Ext.al | apply Ext.drN | apply Ext.dr))
  case hB => exact Rd.lit _ (#[.int .i64 3, .int .i64 7]) _ 2 1 rfl (by first | rfl | simp)
  rintro e w1 ⟨rfl, hb1⟩
  obtain ⟨x1, rfl⟩ := hb1.get
  clear hb1 HR1
  go_wp2_with (go_at_call 42; (with_reducible refine Calls.mono (num_any _ _) ?_); rintro e w1 ⟨rfl, hb1⟩; obtain ⟨x1, rfl⟩ := hb1.get; clear hb1)
  refine Calls.mono (pre_w w.heap.size tb ks4 [3, 7, 8] 3 _ k1 _ ?hT 1 rfl ?hR prw rfl (by decide)) ?_
  case hT => exact HT5.out.ext (by repeat (first | exact Ext.refl' _ | assumption | apply Ext.ex' | apply Ext.al | apply Ext.drN | apply Ext.dr))
  case hR => exact Rd.lit _ #[.int .i64 1, .int .i64 1, .string ⟨#[]⟩] _ 1 3 rfl (by first | rfl | simp)
  rintro e w1 ⟨A2, c2, rfl, hr2, hb1⟩
  obtain ⟨x1, rfl⟩ := hb1.get
  clear hb1
  have HR2 := Lib.hid hr2
  clear hr2
  go_wp2_with fail
  refine Calls.mono (ints_w [3, 7, 8] _ _ _ 3 _ rfl ?hA ?hB) ?_
  case hA => exact HR2.out.ext (by repeat (first | exact Ext.refl' _ | assumption | apply Ext.ex' | apply Ext.al | apply Ext.drN | apply Ext.dr))
  case hB => exact Rd.lit _ (#[.int .i64 3, .int .i64 7, .int .i64 8]) _ 3 1 rfl (by first | rfl | simp)
  rintro e w1 ⟨rfl, hb1⟩
  obtain ⟨x1, rfl⟩ := hb1.get
  clear hb1 HR2
  go_wp2_with (first | (go_at_call 42; (with_reducible refine Calls.mono (num_any _ _) ?_); rintro e w1 ⟨rfl, hb1⟩; obtain ⟨x1, rfl⟩ := hb1.get; clear hb1) | (go_at_call 43; (with_reducible refine Calls.mono (text_any _ _) ?_); rintro e w1 ⟨rfl, hb1⟩; obtain ⟨x1, rfl⟩ := hb1.get; clear hb1))
  refine Calls.mono (ran_w w.heap.size tb ks4 [8] 1 _ k1b _ k2 _ ?hT 2 rfl ?hq1 1 rfl ?hR rw8 rfl (by decide) (by decide)) ?_
  case hT => exact HT5.out.ext (by repeat (first | exact Ext.refl' _ | assumption | apply Ext.ex' | apply Ext.al | apply Ext.drN | apply Ext.dr))
  case hR => exact Rd.lit _ #[.int .i64 1, .int .i64 2, .string ⟨#[]⟩] _ 1 3 rfl (by first | rfl | simp)
  case hq1 =>
    refine Rd.ext ?hq0 (Ext.al (Ext.ex' (Ext.refl' _) _) _)
    exact Rd.lit _ #[.int .i64 1, .int .i64 1, .string ⟨#[]⟩, .int .i64 2, .int .i64 0, .string ⟨#[98]⟩] _ 2 3 rfl (by first | rfl | simp)
  rintro e w1 ⟨A3, c3, rfl, hr3, hb1⟩
  obtain ⟨x1, rfl⟩ := hb1.get
  clear hb1
  have HR3 := Lib.hid hr3
  clear hr3
  go_wp2_with fail
  refine Calls.mono (ints_w [8] _ _ _ 1 _ rfl ?hA ?hB) ?_
  case hA => exact HR3.out.ext (by repeat (first | exact Ext.refl' _ | assumption | apply Ext.ex' | apply Ext.al | apply Ext.drN | apply Ext.dr))
  case hB => exact Rd.lit _ (#[.int .i64 8]) _ 1 1 rfl (by first | rfl | simp)
  rintro e w1 ⟨rfl, hb1⟩
  obtain ⟨x1, rfl⟩ := hb1.get
  clear hb1 HR3
  go_wp2_with fail
  refine Calls.mono (len_k w.heap.size 2 tb ks4 _ ?hT) ?_
  case hT => exact HT5.out.ext (by repeat (first | exact Ext.refl' _ | assumption | apply Ext.ex' | apply Ext.al | apply Ext.drN | apply Ext.dr))
  rintro e w1 ⟨rfl, hb1⟩
  obtain ⟨x1, rfl⟩ := hb1.get
  clear hb1
  have hl4 : ks4.length = 4 := rfl
  rw [hl4]
  go_wp2_with fail
  refine Calls.mono (chk_k w.heap.size 2 tb ks4 _ (by decide) (by decide) ?hT) ?_
  case hT => exact HT5.out.ext (by repeat (first | exact Ext.refl' _ | assumption | apply Ext.ex' | apply Ext.al | apply Ext.drN | apply Ext.dr))
  rintro e w1 ⟨rfl, hb1⟩
  obtain ⟨x1, rfl⟩ := hb1.get
  clear hb1
  go_wp2
  go_ret
  exact ⟨rfl, HE5.out.tr (by repeat (first | exact Ext.refl' _ | assumption | apply Ext.ex' | apply Ext.al | apply Ext.drN | apply Ext.dr))⟩

end Go.Proofs.Ytdmbgimehepfaaa
