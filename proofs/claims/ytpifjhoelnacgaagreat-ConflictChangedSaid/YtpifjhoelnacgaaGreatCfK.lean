/- The keys of a map from tables to periods, sorted: the library's contracts at this dump (as the kit's program lay-iter prints them). -/
import Derived.Test.YtpifjhoelnacgaaGreatCfS
import Derived.Test.YtpifjhoelnacgaaGreatShf
import Derived.Shelf.SlIter.Nil
import Derived.Shelf.SortM.Plain
import Derived.Shelf.SortM.SortNone
set_option linter.unusedSimpArgs false
set_option linter.unusedVariables false
namespace Go.Proofs.YtpifjhoelnacgaaGreat
open Go.RowKit Go.Maps Go.Sort Go.Shelf


theorem sortsS (m : Nat) : AnyZ.SortsIn Tryz.prog Tryz.laysSorted_ren Fence.wide m :=
  ⟨fun blk off cap ss W hH hblk hsz => callsIn_wide.2 (AnyM.slices_Sort_string Tryz.laysSortS blk off cap ss W hH hblk hsz),
   fun p cap W => callsIn_wide.2 (AnyM.slices_Sort_string_none Tryz.laysSortS p cap W)⟩
theorem mapsKeys_any (mb : Option Nat) (W : World) : CallsIn Fence.wide 5 Tryz.prog 48 #[.map mb] W fun e w' => e = .returned (.func (.func 60) #[] #[.pointer (some ⟨W.heap.size, 0, none⟩)]) ∧ w' = W.alloc (.cells #[.map mb] 53) :=
  AnyZ.keys_in Tryz.laysKeysM Fence.wide 5 trivial rfl mb W
set_option maxRecDepth 100000 in
set_option maxHeartbeats 1000000 in
theorem sortedKeys_any (b nn : Nat) (D0 : DataW Value) (R : Value → Option (DataW Value × List MemPlace)) (w : World) (hown : w.ownsMap Tryz.prog 9 R b nn D0) (hmax : Maps.size D0 ≤ maxLen) (hbytes : Maps.size D0 * 16 ≤ 140737488355328) :
    CallsIn Fence.wide 5 Tryz.prog 47 #[.func (.func 60) #[] #[.pointer (some ⟨w.heap.size, 0, none⟩)]] (w.alloc (.cells #[.map (some b)] 53)) fun e w' => ∃ (v : Value) (ss : List (List UInt8)), e = .returned v ∧ ss.Perm (strKeys D0) ∧
      w'.ownsRow (w.alloc (.cells #[.map (some b)] 53)).heap.size 9 1 v ss.length ((ss.mergeSort (fun x y => decide (x ≤ y))).map encStr) ∧ (v = .slice none 0 0 ↔ ss = []) ∧ Below (w.alloc (.cells #[.map (some b)] 53)).heap.size (w.alloc (.cells #[.map (some b)] 53)) w' := by
  have hbl := hown.lt
  have hseq : SeqGives Fence.wide 2 Tryz.prog 60 #[.pointer (some ⟨w.heap.size, 0, none⟩)] encStr (fun ss => ss.Perm (strKeys D0)) (Maps.size D0) (w.alloc (.cells #[.map (some b)] 53)) :=
    AnyZ.keys_gives (ρ := Tryz.laysKeysM_ren) { Tryz.laysKeysM with } Fence.wide _ trivial rfl (by omega) w.heap.size b nn D0 _ (by simp) (by simp) (by
      obtain ⟨es, clock, hb, Ft, hs, hD⟩ := hown
      exact ⟨es, clock, (Below.heap_alloc _ _ b hbl).trans hb, Ft, hs, hD⟩)
  exact AnyZ.sorted_in Tryz.laysSorted Fence.wide 5 trivial trivial trivial trivial rfl (by omega) (sortsS _) (enters_of Tryz.func59 (by kernel_rfl) rfl) 60 #[.pointer (some ⟨w.heap.size, 0, none⟩)] trivial (enters_of Tryz.func60 (by kernel_rfl) rfl) _ _ hmax hbytes _ hseq
theorem strKeys_spec {w : World} {b n : Nat} {D : DataW Value} (h : w.ownsMap Tryz.prog 9 heldR b n D) : (strKeys D).Nodup ∧ (∀ x, x ∈ strKeys D ↔ Maps.has D (.string x) = true) ∧ (strKeys D).length ≤ n := by
  have hsz := h.size_le
  obtain ⟨es, rfl, hp, _⟩ := h.entries keyT
  have hk : ∀ p ∈ es, ∃ x, p.1 = .string x := by
    obtain ⟨es', he, hk'⟩ := World.ownsMap.keysOf h
    injection he with he
    subst he
    intro p hp
    obtain ⟨v, hv⟩ := hk' p hp
    obtain ⟨x, _, hx, _⟩ := Maps.keyOf_str Tryz.underlying9 hv
    exact ⟨x, hx⟩
  refine ⟨?_, fun x => ?_, by simpa [strKeys, Maps.size] using hsz⟩
  · show (es.map fun p => strOf p.1).Nodup
    refine List.pairwise_map.2 (hp.imp_of_mem fun {p q} hp' hq' hne e => hne ?_)
    obtain ⟨a, ha⟩ := hk p hp'
    obtain ⟨b, hb⟩ := hk q hq'
    rw [ha, hb] at e ⊢
    exact congrArg _ e
  · rw [Maps.has_eq, List.any_eq_true]
    show x ∈ es.map (fun p => strOf p.1) ↔ _
    rw [List.mem_map]
    constructor
    · rintro ⟨p, hp, rfl⟩
      obtain ⟨a, ha⟩ := hk p hp
      exact ⟨p, hp, by rw [ha]; exact WideAt.sameKey_self (by trivial)⟩
    · rintro ⟨p, hp, he⟩
      exact ⟨p, hp, by rw [WideAt.sameKey_eq he]; rfl⟩
theorem lt_of_le_ne {a b : List UInt8} (h : a ≤ b) (hn : a ≠ b) : a < b := by
  rcases (Classical.em (a < b)) with h1 | h1
  · exact h1
  · exact absurd (List.le_antisymm h (List.not_lt.1 h1)) hn
theorem tr_leB : ∀ a b c : List UInt8, leB a b = true → leB b c = true → leB a c = true := fun a b c h1 h2 => by simp only [leB, decide_eq_true_eq] at *; exact List.le_trans h1 h2
theorem to_leB : ∀ a b : List UInt8, (leB a b || leB b a) = true := fun a b => by simp only [leB, Bool.or_eq_true, decide_eq_true_eq]; exact List.le_total a b
/-- the tables in order -/
theorem MapR.keys {w : World} {b N : Nat} {F : List UInt8 → List (Int × Int)} (h : MapR w b N F) : ∃ ks : List (List UInt8), ks.Pairwise (· < ·) ∧ (∀ t, t ∈ ks ↔ F t ≠ []) ∧ ks.length ≤ N := by
  obtain ⟨D, h1, h2, h3⟩ := h
  obtain ⟨s1, s2, s3⟩ := strKeys_spec h1
  have hp := List.mergeSort_perm (strKeys D) leB
  refine ⟨(strKeys D).mergeSort leB, ?_, fun t => ?_, by rw [hp.length_eq]; exact s3⟩
  · have ha := List.pairwise_mergeSort tr_leB to_leB (strKeys D)
    have hb : ((strKeys D).mergeSort leB).Nodup := hp.nodup_iff.2 s1
    exact (ha.and hb).imp fun {x y} hxy => lt_of_le_ne (by simpa [leB] using hxy.1) hxy.2
  · rw [hp.mem_iff, s2, h3]; simp
theorem sorted_keys {w : World} {b n : Nat} {D : DataW Value} {F : List UInt8 → List (Int × Int)} {ks ss : List (List UInt8)} (h : w.ownsMap Tryz.prog 9 heldR b n D) (h3 : ∀ t, Maps.has D (.string t) = decide (F t ≠ [])) (hk : ks.Pairwise (· < ·)) (hm : ∀ t, t ∈ ks ↔ F t ≠ []) (hs : ss.Perm (strKeys D)) :
    ss.length = ks.length ∧ ss.mergeSort (fun x y => decide (x ≤ y)) = ks := by
  obtain ⟨s1, s2, s3⟩ := strKeys_spec h
  have hn : ks.Nodup := hk.imp fun {a b} hab e => by subst e; exact lt_irr _ hab
  have hp : ks.Perm (strKeys D) := (List.perm_ext_iff_of_nodup hn s1).2 fun x => by rw [hm, s2, h3]; simp
  have hp2 := hs.trans hp.symm
  refine ⟨hp2.length_eq, ?_⟩
  have h4 : ss.mergeSort leB = ks.mergeSort leB := mergeSort_of_perm hp2
  have h5 : ks.mergeSort leB = ks := List.mergeSort_of_pairwise (hk.imp fun {a b} hab => by simp only [leB, decide_eq_true_eq]; exact List.le_of_lt hab)
  exact h4.trans h5

end Go.Proofs.YtpifjhoelnacgaaGreat
