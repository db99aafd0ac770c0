/- BtreeNew: for which orders trees are created; a nil tree is empty and stays so. -/
import Derived.Test.YtdmbgimehepfaaaBtLa
set_option linter.unusedSimpArgs false
set_option linter.unusedVariables false
namespace Go.Proofs.Ytdmbgimehepfaaa
open Go.RowKit

set_option maxRecDepth 100000 in
set_option maxHeartbeats 2000000 in
theorem cloneV_big (A : Option Addr) (n c : Nat) (xs : List Value) (w : World) (hR : Rd w 3 A n xs) (h1 : ∀ u ∈ xs, u.oneCell' = true) (hn : n ≤ maxLen) (hn2 : n * 32 ≤ 140737488355328) (hnil : A = none → n = 0 ∧ c = 0) :
    Calls Try.prog 28 #[.slice A n c] w fun e w' => ∃ v', e = .returned v' ∧ w'.ownsRow w.heap.size 57 3 v' n xs ∧ Ext w w' := by
  rcases A with _ | ad
  · obtain ⟨rfl, rfl⟩ := hnil rfl
    have hx : xs = [] := List.eq_nil_of_length_eq_zero (by simpa using hR.1)
    subst hx
    have heq := Lib.run_eql_slice_nil (P := Try.prog) w 22 57 none 0 0 0 0 Try.underlying22
    go_enter Try.func28, Try.ntmps28
    go_wp2
    go_ret
    exact ⟨_, rfl, World.ownsRow_nil _ _ _ _, by repeat (first | exact Ext.refl' _ | assumption | apply Ext.ex' | apply Ext.al | apply Ext.drN | apply Ext.dr)⟩
  · have heq := Lib.run_eql_slice_nil (P := Try.prog) w 22 57 (some ad) n c 0 0 Try.underlying22
    go_enter Try.func28, Try.ntmps28
    go_wp2_with (at_builtin; refine wpList_app _ rfl (.tmp 5) (.tmp 6) rfl elVal3 w (by repeat (first | exact Ext.refl' _ | assumption | apply Ext.ex' | apply Ext.al | apply Ext.drN | apply Ext.dr)) _ 0 [] rfl (own_lit0c w _ (Nat.le_refl _) _ _) (some ad) n c xs rfl (hR.ext (by repeat (first | exact Ext.refl' _ | assumption | apply Ext.ex' | apply Ext.al | apply Ext.drN | apply Ext.dr))) h1 (by omega) (by omega) ?_; intro v1 x1 ho1 _)
    go_ret
    exact ⟨_, rfl, by simpa using ho1, by repeat (first | exact Ext.refl' _ | assumption | apply Ext.ex' | apply Ext.al | apply Ext.drN | apply Ext.dr)⟩


theorem KeyOk.one {w : World} {s : Sl Va} (h : KeyOk w s) : ∀ u ∈ vcl s.l, u.oneCell' = true := by
  intro u hu
  obtain ⟨v, hv, hu⟩ := List.mem_flatMap.1 hu
  simp [vc] at hu
  rcases hu with rfl | rfl | rfl <;> rfl
theorem Put_nil (s : Sl Va) (id : Int) (w : World) (h : KeyOk w s) (hb : s.l.length * 32 ≤ 140737488355328) : Calls Try.prog 10 #[.pointer none, .slice s.A s.l.length s.c, .int .i64 id] w fun e w' => e = .returned (.bool false) ∧ Ext w w' := by
  have HC := Lib.hid fun W (e : Ext w W) => cloneV_big s.A s.l.length s.c (vcl s.l) W (h.rd.ext e) h.one h.len hb h.nil
  go_enter Try.func10, Try.ntmps10
  go_wp2_with fail
  refine Calls.mono (HC.out _ (by repeat (first | exact Ext.refl' _ | assumption | apply Ext.ex' | apply Ext.al | apply Ext.drN | apply Ext.dr))) ?_
  rintro e w1 ⟨v1, rfl, ho1, hb1⟩
  obtain ⟨vA, vc, rfl, _, _, _⟩ := own_form2 ho1
  clear ho1
  obtain ⟨x1, rfl⟩ := hb1.get
  clear hb1
  go_wp2
  go_ret
  exact ⟨rfl, (by repeat (first | exact Ext.refl' _ | assumption | apply Ext.ex' | apply Ext.al | apply Ext.drN | apply Ext.dr))⟩
theorem Delete_nil (s : Sl Va) (id : Int) (w : World) : Calls Try.prog 11 #[.pointer none, .slice s.A s.l.length s.c, .int .i64 id] w fun e w' => e = .returned (.bool false) ∧ Ext w w' := by
  go_enter Try.func11, Try.ntmps11
  go_wp2_with fail
  go_ret
  exact ⟨rfl, (by repeat (first | exact Ext.refl' _ | assumption | apply Ext.ex' | apply Ext.al | apply Ext.drN | apply Ext.dr))⟩

theorem from_nil (A : Option Addr) (n c : Nat) (f : FuncId) (us vs : Array Value) (w : World) : Calls Try.prog 33 #[.pointer none, .slice A n c, .func (.func f) us vs] w fun e w' => e = .returned (.slice none 0 0) ∧ Ext w w' := by
  go_enter Try.func33, Try.ntmps33
  go_wp2
  go_ret
  exact ⟨rfl, (by repeat (first | exact Ext.refl' _ | assumption | apply Ext.ex' | apply Ext.al | apply Ext.drN | apply Ext.dr))⟩
theorem Get_nil (A : Option Addr) (n c : Nat) (w : World) : Calls Try.prog 12 #[.pointer none, .slice A n c] w fun e w' => e = .returned (.slice none 0 0) ∧ Ext w w' := by
  go_enter Try.func12, Try.ntmps12
  go_wp2_with (go_at_call 33; refine Calls.mono (from_nil _ _ _ _ _ _ _) ?_; rintro e w1 ⟨rfl, hb1⟩; obtain ⟨x1, rfl⟩ := hb1.get; clear hb1)
  go_ret
  exact ⟨rfl, (by repeat (first | exact Ext.refl' _ | assumption | apply Ext.ex' | apply Ext.al | apply Ext.drN | apply Ext.dr))⟩
theorem Prefix_nil (A : Option Addr) (n c : Nat) (w : World) : Calls Try.prog 13 #[.pointer none, .slice A n c] w fun e w' => e = .returned (.slice none 0 0) ∧ Ext w w' := by
  go_enter Try.func13, Try.ntmps13
  go_wp2_with (go_at_call 33; refine Calls.mono (from_nil _ _ _ _ _ _ _) ?_; rintro e w1 ⟨rfl, hb1⟩; obtain ⟨x1, rfl⟩ := hb1.get; clear hb1)
  go_ret
  exact ⟨rfl, (by repeat (first | exact Ext.refl' _ | assumption | apply Ext.ex' | apply Ext.al | apply Ext.drN | apply Ext.dr))⟩
theorem Range_nil (A B : Option Addr) (n c m d : Nat) (w : World) : Calls Try.prog 14 #[.pointer none, .slice A n c, .slice B m d] w fun e w' => e = .returned (.slice none 0 0) ∧ Ext w w' := by
  go_enter Try.func14, Try.ntmps14
  go_wp2_with (go_at_call 33; refine Calls.mono (from_nil _ _ _ _ _ _ _) ?_; rintro e w1 ⟨rfl, hb1⟩; obtain ⟨x1, rfl⟩ := hb1.get; clear hb1)
  go_ret
  exact ⟨rfl, (by repeat (first | exact Ext.refl' _ | assumption | apply Ext.ex' | apply Ext.al | apply Ext.drN | apply Ext.dr))⟩
theorem Len_nil  (w : World) : Calls Try.prog 15 #[.pointer none] w fun e w' => e = .returned (.int .i64 0) ∧ Ext w w' := by
  go_enter Try.func15, Try.ntmps15
  go_wp2_with fail
  go_ret
  exact ⟨rfl, (by repeat (first | exact Ext.refl' _ | assumption | apply Ext.ex' | apply Ext.al | apply Ext.drN | apply Ext.dr))⟩
theorem Depth_nil  (w : World) : Calls Try.prog 16 #[.pointer none] w fun e w' => e = .returned (.int .i64 0) ∧ Ext w w' := by
  go_enter Try.func16, Try.ntmps16
  go_wp2_with fail
  go_ret
  exact ⟨rfl, (by repeat (first | exact Ext.refl' _ | assumption | apply Ext.ex' | apply Ext.al | apply Ext.drN | apply Ext.dr))⟩



set_option maxRecDepth 100000 in
set_option maxHeartbeats 8000000 in
theorem lawNew_any (q : Int) (o : OpV) (W : World) (ho : OpOk W o) (hb : o.k.l.length * 32 ≤ 140737488355328) : Calls Try.prog 3 #[.int .i64 q, opv o] W fun e w' => e = .returned (.bool true) ∧ Ext W w' := by
  have HK : Hid (∀ w, Ext W w → KeyOk w o.k) := Lib.hid fun w e => ho.k.ext e
  by_cases hq : 2 ≤ q ∧ q ≤ 64
  · obtain ⟨hq1, hq2⟩ := hq
    obtain ⟨m, rfl⟩ := Int.eq_ofNat_of_zero_le (show 0 ≤ q by omega)
    have hm : 2 ≤ m := by omega
    have hm2 : m ≤ 64 := by omega
    go_enter Try.func3, Try.ntmps3
    go_wp2_with fail
    refine Calls.mono (new_k W.heap.size m _ hm hm2 (by simp)) ?_
    rintro e w1 ⟨tb, rfl, ht0, hb1⟩
    obtain ⟨x1, rfl⟩ := hb1.get
    clear hb1 ht0
    go_wp2_with fail
    refine wp_region_ext (by kernel_rfl) (by kernel_rfl) ?_
    repeat (first | go_big_quiet_step ((first | (go_at_call 10; exact Calls.ext_of (Put_nil o.k o.id _ (HK.out _ (by repeat (first | exact Ext.refl' _ | assumption | apply Ext.ex' | apply Ext.al | apply Ext.drN | apply Ext.dr))) hb)) | (go_at_call 11; exact Calls.ext_of (Delete_nil o.k o.id _)) | (go_at_call 12; exact Calls.ext_of (Get_nil _ _ _ _)) | (go_at_call 13; exact Calls.ext_of (Prefix_nil none 0 0 _)) | (go_at_call 14; exact Calls.ext_of (Range_nil _ _ _ _ _ _ _)) | (go_at_call 15; exact Calls.ext_of (Len_nil _)) | (go_at_call 16; exact Calls.ext_of (Depth_nil _)) | (go_at_call 17; exact Calls.ext_of (Check_nil _)) | (go_at_call 18; exact Calls.ext_of (works_any _)))) | quiet_step ((first | (go_at_call 10; exact Calls.ext_of (Put_nil o.k o.id _ (HK.out _ (by repeat (first | exact Ext.refl' _ | assumption | apply Ext.ex' | apply Ext.al | apply Ext.drN | apply Ext.dr))) hb)) | (go_at_call 11; exact Calls.ext_of (Delete_nil o.k o.id _)) | (go_at_call 12; exact Calls.ext_of (Get_nil _ _ _ _)) | (go_at_call 13; exact Calls.ext_of (Prefix_nil none 0 0 _)) | (go_at_call 14; exact Calls.ext_of (Range_nil _ _ _ _ _ _ _)) | (go_at_call 15; exact Calls.ext_of (Len_nil _)) | (go_at_call 16; exact Calls.ext_of (Depth_nil _)) | (go_at_call 17; exact Calls.ext_of (Check_nil _)) | (go_at_call 18; exact Calls.ext_of (works_any _)))))
    refine wpQuiet_nil ?_
    intro _ hw'
    obtain ⟨xq, hw''⟩ := hw'
    subst hw''
    go_wp2
    go_ret
    exact ⟨rfl, (by repeat (first | exact Ext.refl' _ | assumption | apply Ext.ex' | apply Ext.al | apply Ext.drN | apply Ext.dr))⟩
  · have hq1 : q < 2 ∨ 64 < q := by omega
    have HNO := Lib.hid fun w => New_no q w hq1
    have HQ : Hid (decide (2 ≤ q) = true → decide (q ≤ 64) = false) := Lib.hid fun h => decide_eq_false fun h2 => hq ⟨of_decide_eq_true h, h2⟩
    by_cases hq2 : 2 ≤ q
    · have hq3 : ¬ q ≤ 64 := fun h => hq ⟨hq2, h⟩
      clear hq hq1
      go_enter Try.func3, Try.ntmps3
      go_wp2_with fail
      refine Calls.mono (HNO.out _) ?_
      rintro e w1 ⟨rfl, hb1⟩
      obtain ⟨x1, rfl⟩ := hb1.get
      clear hb1
      go_wp2_with fail
      refine wp_region_ext (by kernel_rfl) (by kernel_rfl) ?_
      repeat (first | go_big_quiet_step ((first | (go_at_call 10; exact Calls.ext_of (Put_nil o.k o.id _ (HK.out _ (by repeat (first | exact Ext.refl' _ | assumption | apply Ext.ex' | apply Ext.al | apply Ext.drN | apply Ext.dr))) hb)) | (go_at_call 11; exact Calls.ext_of (Delete_nil o.k o.id _)) | (go_at_call 12; exact Calls.ext_of (Get_nil _ _ _ _)) | (go_at_call 13; exact Calls.ext_of (Prefix_nil none 0 0 _)) | (go_at_call 14; exact Calls.ext_of (Range_nil _ _ _ _ _ _ _)) | (go_at_call 15; exact Calls.ext_of (Len_nil _)) | (go_at_call 16; exact Calls.ext_of (Depth_nil _)) | (go_at_call 17; exact Calls.ext_of (Check_nil _)) | (go_at_call 18; exact Calls.ext_of (works_any _)))) | quiet_step ((first | (go_at_call 10; exact Calls.ext_of (Put_nil o.k o.id _ (HK.out _ (by repeat (first | exact Ext.refl' _ | assumption | apply Ext.ex' | apply Ext.al | apply Ext.drN | apply Ext.dr))) hb)) | (go_at_call 11; exact Calls.ext_of (Delete_nil o.k o.id _)) | (go_at_call 12; exact Calls.ext_of (Get_nil _ _ _ _)) | (go_at_call 13; exact Calls.ext_of (Prefix_nil none 0 0 _)) | (go_at_call 14; exact Calls.ext_of (Range_nil _ _ _ _ _ _ _)) | (go_at_call 15; exact Calls.ext_of (Len_nil _)) | (go_at_call 16; exact Calls.ext_of (Depth_nil _)) | (go_at_call 17; exact Calls.ext_of (Check_nil _)) | (go_at_call 18; exact Calls.ext_of (works_any _)))))
      refine wpQuiet_nil ?_
      intro _ hw'
      obtain ⟨xq, hw''⟩ := hw'
      subst hw''
      go_wp2
      go_ret
      exact ⟨rfl, (by repeat (first | exact Ext.refl' _ | assumption | apply Ext.ex' | apply Ext.al | apply Ext.drN | apply Ext.dr))⟩
    · clear hq hq1
      go_enter Try.func3, Try.ntmps3
      go_wp2_with fail
      refine Calls.mono (HNO.out _) ?_
      rintro e w1 ⟨rfl, hb1⟩
      obtain ⟨x1, rfl⟩ := hb1.get
      clear hb1
      go_wp2_with fail
      refine wp_region_ext (by kernel_rfl) (by kernel_rfl) ?_
      repeat (first | go_big_quiet_step ((first | (go_at_call 10; exact Calls.ext_of (Put_nil o.k o.id _ (HK.out _ (by repeat (first | exact Ext.refl' _ | assumption | apply Ext.ex' | apply Ext.al | apply Ext.drN | apply Ext.dr))) hb)) | (go_at_call 11; exact Calls.ext_of (Delete_nil o.k o.id _)) | (go_at_call 12; exact Calls.ext_of (Get_nil _ _ _ _)) | (go_at_call 13; exact Calls.ext_of (Prefix_nil none 0 0 _)) | (go_at_call 14; exact Calls.ext_of (Range_nil _ _ _ _ _ _ _)) | (go_at_call 15; exact Calls.ext_of (Len_nil _)) | (go_at_call 16; exact Calls.ext_of (Depth_nil _)) | (go_at_call 17; exact Calls.ext_of (Check_nil _)) | (go_at_call 18; exact Calls.ext_of (works_any _)))) | quiet_step ((first | (go_at_call 10; exact Calls.ext_of (Put_nil o.k o.id _ (HK.out _ (by repeat (first | exact Ext.refl' _ | assumption | apply Ext.ex' | apply Ext.al | apply Ext.drN | apply Ext.dr))) hb)) | (go_at_call 11; exact Calls.ext_of (Delete_nil o.k o.id _)) | (go_at_call 12; exact Calls.ext_of (Get_nil _ _ _ _)) | (go_at_call 13; exact Calls.ext_of (Prefix_nil none 0 0 _)) | (go_at_call 14; exact Calls.ext_of (Range_nil _ _ _ _ _ _ _)) | (go_at_call 15; exact Calls.ext_of (Len_nil _)) | (go_at_call 16; exact Calls.ext_of (Depth_nil _)) | (go_at_call 17; exact Calls.ext_of (Check_nil _)) | (go_at_call 18; exact Calls.ext_of (works_any _)))))
      refine wpQuiet_nil ?_
      intro _ hw'
      obtain ⟨xq, hw''⟩ := hw'
      subst hw''
      go_wp2
      go_ret
      exact ⟨rfl, (by repeat (first | exact Ext.refl' _ | assumption | apply Ext.ex' | apply Ext.al | apply Ext.drN | apply Ext.dr))⟩

end Go.Proofs.Ytdmbgimehepfaaa
