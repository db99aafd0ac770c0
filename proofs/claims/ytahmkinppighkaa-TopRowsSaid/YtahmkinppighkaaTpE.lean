/- Texts and values read from bytes. -/
import Derived.Test.YtahmkinppighkaaTpD
import Derived.Laws.IdiomStrings
set_option linter.unusedSimpArgs false
set_option linter.unusedVariables false
namespace Go.Proofs.Ytahmkinppighkaa
open Go.RowKit


def TextAt (bs : List UInt8) (at_ : Nat) (t : ByteArray) : Prop := ∃ rest, bs.drop at_ = encI (t.size : Int) ++ (t.data.toList ++ rest)
def txl (t : ByteArray) : Nat := (encI (t.size : Int)).length + t.size
theorem drop_app {bs a r : List UInt8} {k : Nat} (h : bs.drop k = a ++ r) : bs.drop (k + a.length) = r := by
  rw [← List.drop_drop, h]
  simp
set_option maxRecDepth 100000 in
set_option maxHeartbeats 8000000 in
theorem text_any (A : Option Addr) (n c : Nat) (bs : List UInt8) (at_ : Nat) (t : ByteArray) (w : World) (hn : bs.length = n) (hc : n ≤ c) (hcm : c ≤ maxLen) (hnb : n ≤ 1048576) (hR : Rd w 1 A n (bcl bs)) (hT : TextAt bs at_ t) (ht : t.size ≤ 200) :
    Calls Try.prog 56 #[.slice A n c, .int .i64 at_, .int .i64 200] w fun e w' => e = .returned (.tuple #[.string t, .int .i64 ((at_ + txl t : Nat) : Int), .int .i64 0]) ∧ Ext w w' := by
  obtain ⟨rest, hrest⟩ := hT
  have HI := Lib.hid fun W (e : Ext w W) => int_any A n c bs at_ (t.size : Int) W hn hc hcm hnb (hR.ext e) ⟨_, hrest⟩ (by omega) (by omega)
  have h2 := drop_app hrest
  unfold txl
  unfold InP at HI
  obtain ⟨k, hk⟩ : ∃ k, (encI (t.size : Int)).length = k := ⟨_, rfl⟩
  rw [hk] at h2 HI ⊢
  have hkp : 0 < k := by rw [← hk]; exact encU_len _
  obtain ⟨nx, hnx⟩ : ∃ nx, at_ + k = nx := ⟨_, rfl⟩
  have hts : (t.data.toList).length = t.size := by simp
  have hle : nx + t.size ≤ n := by
    have h3 := congrArg List.length h2
    rw [List.length_drop, List.length_append, hts, hn] at h3
    have h4 := congrArg List.length hrest
    rw [List.length_drop, List.length_append, hk, hn] at h4
    omega
  rw [← Nat.add_assoc, hnx]
  rw [hnx] at HI h2
  have hr := hR.2 (by omega)
  obtain ⟨g, oo, rfl, hg, hcell⟩ := hr
  have hm : c ≤ 9223372036854775807 := by unfold maxLen at hcm; omega
  have ha0 : (0 : Int) ≤ (t.size : Int) := by omega
  have ha1 : (t.size : Int) ≤ 200 := by omega
  have HCV : Hid (∀ (x : Option Addr) (cc : Nat), t.size = 0 ∨ x = some ⟨g, oo + nx, none⟩ → (convert 26 9 (.slice x t.size cc)).run Try.prog w = .ok (.string t) w) := Lib.hid fun x cc hx => by
    by_cases h0 : t.size = 0
    · have he : t = ⟨#[]⟩ := by
        obtain ⟨d⟩ := t
        have hd : d.size = 0 := h0
        rw [Array.eq_empty_of_size_eq_zero hd]
      rcases x with _ | x
      · rw [run_convert_bytes_string w _ _ 5 none t.size cc Try.underlying26 Try.underlying5 strU, he]
        rfl
      · have h := run_convert_bytes_back (P := Try.prog) w 26 9 5 x cc [] Try.underlying26 Try.underlying5 strU (fun j hj => by simp at hj)
        rw [h0, he]
        exact h
    · rcases hx with hx | rfl
      · exact absurd hx h0
      · have h := run_convert_bytes_back (P := Try.prog) w 26 9 5 ⟨g, oo + nx, none⟩ cc t.data.toList Try.underlying26 Try.underlying5 strU (fun j hj => by
          rw [add_none]
          have h5 : bs[nx + j]? = some (t.data.toList[j]) := by
            have h6 := congrArg (fun l => l[j]?) h2
            simp only [List.getElem?_drop] at h6
            rw [h6, List.getElem?_append_left hj, List.getElem?_eq_getElem hj]
          have h7 := hcell (nx + j) _ (by rw [bcl, List.getElem?_map, h5]; rfl)
          rw [← Nat.add_assoc] at h7
          exact h7)
        rw [hts] at h
        exact h
  clear hcell h2 hrest hR hn hts hk
  go_enter Try.func56, Try.ntmps56
  go_wp2_with fail
  refine (HI.out _ (by repeat (first | exact Ext.refl' _ | assumption | apply Ext.ex' | apply Ext.al | apply Ext.drN | apply Ext.dr))).mono ?_
  rintro e w1 ⟨rfl, rfl⟩
  by_cases h0 : t.size = 0
  · have HC0 := fun x cc => HCV.out x cc (.inl h0)
    have H0 := Lib.hid h0
    rw [h0] at HC0 ⊢
    clear h0
    go_wp2
    all_goals refine bodyPost_ret (v := .tuple #[.string t, .int .i64 ((nx + 0 : Nat) : Int), .int .i64 0]) ?_ rfl ⟨by rw [H0.out]; simp, by repeat (first | exact Ext.refl' _ | assumption | apply Ext.ex' | apply Ext.al | apply Ext.drN | apply Ext.dr)⟩
    all_goals simp [results, Try.results56, go_sem, ↓IntWalk.iteOmega]
  · have hlt : nx < c := by omega
    have HC1 := fun cc => HCV.out _ cc (.inr rfl)
    go_wp2
    all_goals refine bodyPost_ret (v := .tuple #[.string t, .int .i64 ((nx + t.size : Nat) : Int), .int .i64 0]) ?_ rfl ⟨rfl, by repeat (first | exact Ext.refl' _ | assumption | apply Ext.ex' | apply Ext.al | apply Ext.drN | apply Ext.dr)⟩
    all_goals simp [results, Try.results56, go_sem, ↓IntWalk.iteOmega]


theorem ret3 {x : Value} {a b : Int} (h : a = b) : Ending.returned (.tuple #[x, .int .i64 a, .int .i64 0]) = .returned (.tuple #[x, .int .i64 b, .int .i64 0]) := by rw [h]
set_option maxRecDepth 100000 in
set_option maxHeartbeats 8000000 in
theorem value_any (A : Option Addr) (n c : Nat) (bs : List UInt8) (at_ : Nat) (v : Va) (w : World) (hn : bs.length = n) (hc : n ≤ c) (hcm : c ≤ maxLen) (hnb : n ≤ 1048576) (hR : Rd w 1 A n (bcl bs)) (hV : ∃ rest, bs.drop at_ = vby v ++ rest) (hok : VaOk v) :
    Calls Try.prog 33 #[.slice A n c, .int .i64 at_] w fun e w' => e = .returned (.tuple #[vag v, .int .i64 ((at_ + (vby v).length : Nat) : Int), .int .i64 0]) ∧ Ext w w' := by
  obtain ⟨rest, hrest⟩ := hV
  have hpos : ∃ z l, vby v = z :: l := by
    unfold vby
    split
    · exact ⟨_, _, rfl⟩
    · split
      · exact ⟨_, _, rfl⟩
      · split
        · exact ⟨_, _, rfl⟩
        · exact ⟨_, _, rfl⟩
  obtain ⟨z, l, hzl⟩ := hpos
  have hlt : at_ < n := by
    have h := congrArg List.length hrest
    rw [hzl, List.length_drop, hn] at h
    simp at h
    omega
  obtain ⟨g, oo, rfl, hg, hcell⟩ := hR.2 (by omega)
  have hbz : bs[at_]? = some z := by
    have h := congrArg (fun l => l[0]?) hrest
    rw [hzl] at h
    simpa using h
  have c0 := hcell at_ _ (by rw [bcl, List.getElem?_map, hbz]; rfl)
  have hz1 : ¬ ((at_ : Int) < 0) := by omega
  have hz2 : ¬ ((n : Int) < (at_ : Int)) := by omega
  have hz3 : ((at_ : Int) == (n : Int)) = false := by rw [beq_eq_false_iff_ne]; omega
  have hz4 : (at_ : Int) < (n : Int) := by omega
  have hR1 := Lib.hid hR
  have HN := Lib.hid hn
  have HRS := Lib.hid hrest
  clear hcell hbz hR hn hrest
  obtain ⟨vk, vi, vt⟩ := v
  rcases hok with ⟨h1, h2, h3⟩ | ⟨h1, h2, h3, h4⟩ | ⟨h1, h2, h3, h4⟩ | ⟨h1, h2, h3⟩
  · have h1 : vk = 0 := h1
    have h2 : vi = 0 := h2
    have h3 : vt = ⟨#[]⟩ := h3
    subst h1 h2 h3
    have hz : z = 0 := by
      have h : [0] = z :: l := hzl
      injection h with h _
      exact h.symm
    subst hz
    have c0 : w.cell? ⟨g, oo + at_, none⟩ = some (.int .u8 0) := c0
    clear hzl
    rw [show vby ⟨0, 0, ⟨#[]⟩⟩ = [0] from rfl]
    go_enter Try.func33, Try.ntmps33
    go_wp2
    all_goals refine bodyPost_ret (v := .tuple #[.agg #[.int .i64 0, .int .i64 0, .string ⟨#[]⟩], .int .i64 ((at_ : Int) + 1), .int .i64 0]) ?_ rfl ⟨ret3 (by simp), by repeat (first | exact Ext.refl' _ | assumption | apply Ext.ex' | apply Ext.al | apply Ext.drN | apply Ext.dr)⟩
    all_goals simp [results, Try.results33, go_sem, ↓IntWalk.iteOmega]
    all_goals try omega
  · have h1 : vk = 1 := h1
    have h2 : vt = ⟨#[]⟩ := h2
    have h3 : -1125899906842624 ≤ vi := h3
    have h4 : vi ≤ 1125899906842624 := h4
    subst h1 h2
    have hq : vby ⟨1, vi, ⟨#[]⟩⟩ = 1 :: encI vi := rfl
    have hz : z = 1 := by
      rw [hq] at hzl
      injection hzl with h _
      exact h.symm
    subst hz
    have c0 : w.cell? ⟨g, oo + at_, none⟩ = some (.int .u8 1) := c0
    have HI : Hid (∀ W, Ext w W → Calls Try.prog 32 #[.slice (some ⟨g, oo, none⟩) n c, .int .i64 ((at_ : Int) + 1)] W (InP vi (at_ + 1) W)) := Lib.hid fun W e => by
      have h := int_any (some ⟨g, oo, none⟩) n c bs (at_ + 1) vi W HN.out hc hcm hnb (hR1.out.ext e) ⟨rest, by have h := HRS.out; rw [hq] at h; exact drop_tail h⟩ (by omega) (by omega)
      rw [Int.natCast_add] at h
      exact h
    unfold InP at HI
    rw [hq]
    obtain ⟨k, hk⟩ : ∃ k, (encI vi).length = k := ⟨_, rfl⟩
    rw [List.length_cons, hk]
    rw [hk] at HI
    have hr1 : ¬ (vi < -1125899906842624) := by omega
    have hr2 : ¬ (1125899906842624 < vi) := by omega
    clear hzl hq hk
    go_enter Try.func33, Try.ntmps33
    go_wp2_with fail
    refine (HI.out _ (by repeat (first | exact Ext.refl' _ | assumption | apply Ext.ex' | apply Ext.al | apply Ext.drN | apply Ext.dr))).mono ?_
    rintro e w1 ⟨rfl, rfl⟩
    go_wp2
    all_goals refine bodyPost_ret (v := .tuple #[.agg #[.int .i64 1, .int .i64 vi, .string ⟨#[]⟩], .int .i64 ((at_ : Int) + ((k : Int) + 1)), .int .i64 0]) ?_ rfl ⟨ret3 (by simp), by repeat (first | exact Ext.refl' _ | assumption | apply Ext.ex' | apply Ext.al | apply Ext.drN | apply Ext.dr)⟩
    all_goals simp [results, Try.results33, go_sem, ↓IntWalk.iteOmega]
    all_goals try omega
  · have h1 : vk = 2 := h1
    have h2 : vi = 0 := h2
    have h3 : vt.size ≤ 200 := h3
    have h4 : prB vt = true := h4
    subst h1 h2
    have hq : vby ⟨2, 0, vt⟩ = 2 :: (encI (vt.size : Int) ++ vt.data.toList) := rfl
    have hz : z = 2 := by
      rw [hq] at hzl
      injection hzl with h _
      exact h.symm
    subst hz
    have c0 : w.cell? ⟨g, oo + at_, none⟩ = some (.int .u8 2) := c0
    have HI : Hid (∀ W, Ext w W → Calls Try.prog 56 #[.slice (some ⟨g, oo, none⟩) n c, .int .i64 ((at_ : Int) + 1), .int .i64 200] W fun e w' => e = .returned (.tuple #[.string vt, .int .i64 ((at_ + 1 + txl vt : Nat) : Int), .int .i64 0]) ∧ Ext W w') := Lib.hid fun W e => by
      have h := text_any (some ⟨g, oo, none⟩) n c bs (at_ + 1) vt W HN.out hc hcm hnb (hR1.out.ext e) ⟨rest, by have h := HRS.out; rw [hq] at h; have h := drop_tail h; rw [List.append_assoc] at h; exact h⟩ h3
      rw [Int.natCast_add at_ 1] at h
      exact h
    have HVV : Hid (∀ W, Calls Try.prog 57 #[.agg #[.int .i64 2, .int .i64 0, .string vt]] W fun e w' => e = .returned (.bool true) ∧ Ext W w') := Lib.hid fun W => by
      have h := vvalid_any ⟨2, 0, vt⟩ W (by show vt.size ≤ _; omega)
      have hb : vvB ⟨2, 0, vt⟩ = true := by simp [vvB, h3, h4]
      rw [hb] at h
      exact h
    have hlen : (vby ⟨2, 0, vt⟩).length = txl vt + 1 := by
      rw [hq, List.length_cons, List.length_append]
      unfold txl
      simp
    rw [hlen]
    generalize txl vt = k at HI ⊢
    clear hzl hq hlen
    go_enter Try.func33, Try.ntmps33
    go_wp2_with fail
    refine (HI.out _ (by repeat (first | exact Ext.refl' _ | assumption | apply Ext.ex' | apply Ext.al | apply Ext.drN | apply Ext.dr))).mono ?_
    rintro e w1 ⟨rfl, hb1⟩
    obtain ⟨x1, rfl⟩ := hb1.get
    clear hb1
    go_wp2_with fail
    refine (HVV.out _).mono ?_
    rintro e w1 ⟨rfl, hb1⟩
    obtain ⟨x2, rfl⟩ := hb1.get
    clear hb1
    go_wp2
    all_goals refine bodyPost_ret (v := .tuple #[.agg #[.int .i64 2, .int .i64 0, .string vt], .int .i64 ((at_ : Int) + ((k : Int) + 1)), .int .i64 0]) ?_ rfl ⟨ret3 (by simp), by repeat (first | exact Ext.refl' _ | assumption | apply Ext.ex' | apply Ext.al | apply Ext.drN | apply Ext.dr)⟩
    all_goals simp [results, Try.results33, go_sem, ↓IntWalk.iteOmega]
    all_goals try omega
  · have h1 : vk = 3 := h1
    have h2 : vt = ⟨#[]⟩ := h2
    have h3 : vi = 0 ∨ vi = 1 := h3
    subst h1 h2
    rcases h3 with rfl | rfl
    · have hz : z = 3 := by
        have h : [3] = z :: l := hzl
        injection h with h _
        exact h.symm
      subst hz
      have c0 : w.cell? ⟨g, oo + at_, none⟩ = some (.int .u8 3) := c0
      clear hzl
      rw [show vby ⟨3, 0, ⟨#[]⟩⟩ = [3] from rfl]
      go_enter Try.func33, Try.ntmps33
      go_wp2
      all_goals refine bodyPost_ret (v := .tuple #[.agg #[.int .i64 3, .int .i64 0, .string ⟨#[]⟩], .int .i64 ((at_ : Int) + 1), .int .i64 0]) ?_ rfl ⟨ret3 (by simp), by repeat (first | exact Ext.refl' _ | assumption | apply Ext.ex' | apply Ext.al | apply Ext.drN | apply Ext.dr)⟩
      all_goals simp [results, Try.results33, go_sem, ↓IntWalk.iteOmega]
      all_goals try omega
    · have hz : z = 4 := by
        have h : [4] = z :: l := hzl
        injection h with h _
        exact h.symm
      subst hz
      have c0 : w.cell? ⟨g, oo + at_, none⟩ = some (.int .u8 4) := c0
      clear hzl
      rw [show vby ⟨3, 1, ⟨#[]⟩⟩ = [4] from rfl]
      go_enter Try.func33, Try.ntmps33
      go_wp2
      all_goals refine bodyPost_ret (v := .tuple #[.agg #[.int .i64 3, .int .i64 1, .string ⟨#[]⟩], .int .i64 ((at_ : Int) + 1), .int .i64 0]) ?_ rfl ⟨ret3 (by simp), by repeat (first | exact Ext.refl' _ | assumption | apply Ext.ex' | apply Ext.al | apply Ext.drN | apply Ext.dr)⟩
      all_goals simp [results, Try.results33, go_sem, ↓IntWalk.iteOmega]
      all_goals try omega

end Go.Proofs.Ytahmkinppighkaa
