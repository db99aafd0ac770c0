/- Plain laws of regions: lengths, slices and sections of combinations. -/
import Derived.Test.YtimhehnmmjgeaaaGreatDoorRgC
set_option linter.unusedSimpArgs false
set_option linter.unusedVariables false
namespace Go.Proofs.YtimhehnmmjgeaaaGreatDoor
open Go.RowKit


theorem oneG_length (s : List (Int × Int)) (x y : Int) : (oneG s x y).length ≤ 1 := by unfold oneG; split <;> simp
theorem grpG_length (S : Int → List (Int × Int)) : ∀ (r : List Int) (x : Int) (s : List (Int × Int)), (grpG S x s r).length ≤ r.length
  | [], _, _ => by simp [grpG]
  | [y], x, s => by rw [grpG]; have := oneG_length s x y; simpa using this
  | y :: z :: r, x, s => by
    rw [grpG]
    split
    · have := grpG_length S (z :: r) x s; simp only [List.length_cons] at *; omega
    · have := grpG_length S (z :: r) y (S y); have h1 := oneG_length s x y
      simp only [List.length_append, List.length_cons] at *; omega
theorem regG_length (S : Int → List (Int × Int)) : ∀ (ps : List Int), (regG S ps).length ≤ ps.length - 1
  | [] => by simp [regG]
  | [x] => by simp [regG]
  | x :: y :: r => by rw [regG]; have := grpG_length S (y :: r) x (S x); simpa using this
theorem oneG_fst {S : Int → List (Int × Int)} {x y z : Int} : ∀ g ∈ oneG (S z) x y, ∃ t, g.1 = S t := fun g hg => by
  obtain ⟨_, rfl⟩ := oneG_mem hg; exact ⟨z, rfl⟩
theorem grpG_fst (S : Int → List (Int × Int)) : ∀ (r : List Int) (x z : Int), ∀ g ∈ grpG S x (S z) r, ∃ t, g.1 = S t
  | [], _, _, g, hg => by simp [grpG] at hg
  | [y], x, z, g, hg => by rw [grpG] at hg; exact oneG_fst g hg
  | y :: u :: r, x, z, g, hg => by
    rw [grpG] at hg
    split at hg
    · exact grpG_fst S (u :: r) x z g hg
    · rcases List.mem_append.1 hg with h | h
      · exact oneG_fst g h
      · exact grpG_fst S (u :: r) y y g h
theorem regG_fst (S : Int → List (Int × Int)) : ∀ (ps : List Int), ∀ g ∈ regG S ps, ∃ t, g.1 = S t
  | [], g, hg => by simp [regG] at hg
  | [x], g, hg => by simp [regG] at hg
  | x :: y :: r, g, hg => by rw [regG] at hg; exact grpG_fst S (y :: r) x x g hg
theorem flatMap_emit_length {M : Nat} : ∀ (G : List Grp), (∀ g ∈ G, g.1.length ≤ M) → (G.flatMap emitF).length ≤ G.length * M
  | [], _ => by simp
  | g :: G, h => by
    have h1 := flatMap_emit_length G fun g hg => h g (by simp [hg])
    have h2 := h g (by simp)
    rw [List.flatMap_cons, List.length_append, List.length_cons, Nat.add_mul]
    simp only [emitF, List.length_map] at *
    omega
theorem combF_len2 (k : Bool → Bool → Bool) (a b : List (Int × Int)) : (combF k a b).length ≤ 2 * (a.length + b.length + 1) - 1 := by
  have h := cmbF_length (fun t => k (inL a t) (inL b t)) (pairsF (ptsF ((0, 1099511627776) :: (a ++ b)))) []
  rw [pairsF_length] at h
  have h2 := ptsF_length ((0, 1099511627776) :: (a ++ b))
  unfold combF
  simp only [List.length_cons, List.length_append, List.length_nil] at *
  omega
theorem regF_len (k : Bool → Bool → Bool) (a b : List Rct) : (regF k a b).length ≤ (2 * (a.length + b.length) - 1) * (2 * (a.length + b.length + 1) - 1) := by
  have h1 := flatMap_emit_length (M := 2 * (a.length + b.length + 1) - 1) (regG (sK k a b) (ptsF (sysR (a ++ b)))) fun g hg => by
    obtain ⟨t, ht⟩ := regG_fst _ _ g hg
    rw [ht]
    have := combF_len2 k (sliR a t) (sliR b t)
    have ha := sliR_length a t
    have hb := sliR_length b t
    unfold sK
    omega
  have h2 := regG_length (sK k a b) (ptsF (sysR (a ++ b)))
  have h3 := ptsF_length (sysR (a ++ b))
  have h4 := sysR_length (a ++ b)
  rw [List.length_append] at h4
  unfold regF
  exact Nat.le_trans h1 (Nat.mul_le_mul_right _ (by omega))
theorem regF_le {k : Bool → Bool → Bool} {a b : List Rct} {n : Nat} (h : a.length + b.length ≤ n) : (regF k a b).length ≤ (2 * n - 1) * (2 * (n + 1) - 1) :=
  Nat.le_trans (regF_len k a b) (Nat.mul_le_mul (by omega) (by omega))
theorem regF_576 {l : List Rct} (h : l.length ≤ 12) : (regF ofK l []).length ≤ 575 := Nat.le_trans (regF_le (n := 12) (by simpa using h)) (by decide)
theorem regF_big {k : Bool → Bool → Bool} {a b : List Rct} (ha : a.length ≤ 2500) (hb : b.length ≤ 2500) : (regF k a b).length ≤ 9223372036854775807 := Nat.le_trans (regF_le (n := 5000) (by omega)) (by decide)
theorem regF_24 {k : Bool → Bool → Bool} {a b : List Rct} (ha : a.length ≤ 12) (hb : b.length ≤ 12) : (regF k a b).length ≤ 2500 := Nat.le_trans (regF_le (n := 24) (by omega)) (by decide)
theorem of_sli (l : List Rct) (t : Int) : ∀ v, inL (ofF (sliR l t)) v = (decide (0 ≤ v ∧ v < 1099511627776) && inR l v t) := fun v => by
  unfold ofF; rw [combF_in, sli_in, inL_nil]; simp [ofK]
theorem of_sec (l : List Rct) (v : Int) : ∀ t, inL (ofF (secR l v)) t = (decide (0 ≤ t ∧ t < 1099511627776) && inR l v t) := fun t => by
  unfold ofF; rw [combF_in, sec_in, inL_nil]; simp [ofK]
theorem sli_comb {k : Bool → Bool → Bool} (hk : k false false = false) (a b : List Rct) (t : Int) : ofF (sliR (regF k a b) t) = combF k (ofF (sliR a t)) (ofF (sliR b t)) :=
  combF_eq fun v h1 h2 => by
    rw [sli_in, inR_reg hk, inL_nil, of_sli, of_sli]
    simp [ofK, h1, h2]
theorem sec_comb {k : Bool → Bool → Bool} (hk : k false false = false) (a b : List Rct) (v : Int) : ofF (secR (regF k a b) v) = combF k (ofF (secR a v)) (ofF (secR b v)) :=
  combF_eq fun t h1 h2 => by
    rw [sec_in, inR_reg hk, inL_nil, of_sec, of_sec]
    simp [ofK, h1, h2]
/-- Of is idempotent -/
theorem of_of (k : Bool → Bool → Bool) (hk : k false false = false) (a b : List Rct) : regF ofK (regF k a b) [] = regF k a b :=
  regF_eq rfl hk fun v t => by rw [inR_reg hk]; simp [ofK, inR]
theorem reg_comm {k : Bool → Bool → Bool} (hk : k false false = false) (hc : ∀ x y, k x y = k y x) (a b : List Rct) : regF k a b = regF k b a := regF_eq hk hk fun v t => hc _ _
theorem reg_sub (a b : List Rct) : regF ofK (regF subK a b) (regF interK a b) = regF ofK a [] :=
  regF_eq rfl rfl fun v t => by rw [inR_reg rfl, inR_reg rfl]; cases inR a v t <;> cases inR b v t <;> simp [ofK, subK, interK, inR]
theorem reg_assoc (a b c : List Rct) : regF ofK (regF ofK a b) c = regF ofK a (regF ofK b c) :=
  regF_eq rfl rfl fun v t => by rw [inR_reg rfl, inR_reg rfl]; simp [ofK, Bool.or_assoc]
theorem reg_dist (a b c : List Rct) : regF interK (regF ofK a b) c = regF ofK (regF interK a c) (regF interK b c) :=
  regF_eq rfl rfl fun v t => by rw [inR_reg rfl, inR_reg rfl, inR_reg rfl]; simp [ofK, interK, Bool.and_or_distrib_right]
theorem rovB_iff {a b : Rct} : rovB a b = true ↔ rvB a = true ∧ rvB b = true ∧ a.1.1 < b.1.2 ∧ b.1.1 < a.1.2 ∧ a.2.1 < b.2.2 ∧ b.2.1 < a.2.2 := by
  unfold rovB povB
  simp only [Bool.and_eq_true, decide_eq_true_eq, rvB_iff]
  constructor
  · rintro ⟨⟨⟨h1, h2⟩, ⟨⟨_, _⟩, h3⟩, h4⟩, ⟨⟨_, _⟩, h5⟩, h6⟩
    exact ⟨h1, h2, h3, h4, h5, h6⟩
  · rintro ⟨h1, h2, h3, h4, h5, h6⟩
    exact ⟨⟨⟨h1, h2⟩, ⟨⟨h1.1, h2.1⟩, h3⟩, h4⟩, ⟨⟨h1.2, h2.2⟩, h5⟩, h6⟩
theorem reg_sound {k : Bool → Bool → Bool} (hk : k false false = false) (a b : List Rct) : ∀ r ∈ regF k a b, rvB r = true := fun r hr => by
  unfold regF at hr
  obtain ⟨g, hg, hr⟩ := List.mem_flatMap.1 hr
  obtain ⟨h1, _⟩ := regG_ok (caps_sK hk a b)
  have hv := reg_valid hk a b g hg
  have ho := h1.1 g hg
  simp only [emitF, List.mem_map] at hr
  obtain ⟨v, hv2, rfl⟩ := hr
  exact rvB_iff.2 ⟨hv.1 v hv2, pvB_iff.2 ⟨ho.2.1, ho.2.2.1, ho.2.2.2⟩⟩
theorem reg_apart {k : Bool → Bool → Bool} (hk : k false false = false) (a b : List Rct) : (regF k a b).Pairwise fun r s => rovB r s = false := by
  unfold regF
  obtain ⟨h1, _⟩ := regG_ok (caps_sK hk a b)
  refine List.pairwise_flatMap.2 ⟨fun g hg => ?_, h1.2.imp_of_mem fun {g h} hg hh hl r hr s hs => ?_⟩
  · have hv := (reg_valid hk a b g hg).2
    unfold emitF
    refine List.pairwise_map.2 (hv.imp fun {p q} hpq => ?_)
    rw [Bool.eq_false_iff]
    intro hh
    obtain ⟨_, _, _, h4, _⟩ := rovB_iff.1 hh
    simp only at h4
    omega
  · simp only [emitF, List.mem_map] at hr hs
    obtain ⟨v, _, rfl⟩ := hr
    obtain ⟨u, _, rfl⟩ := hs
    rw [Bool.eq_false_iff]
    intro hh2
    obtain ⟨_, _, _, _, _, h6⟩ := rovB_iff.1 hh2
    simp only at h6
    rcases hl with hl | hl <;> omega
theorem inR_one {a : Rct} {v t : Int} : inR [a] v t = true ↔ rvB a = true ∧ a.1.1 ≤ v ∧ v < a.1.2 ∧ a.2.1 ≤ t ∧ t < a.2.2 := by
  rw [inR_iff]; simp
theorem over_iff (a b : Rct) : rovB a b = true ↔ regF interK [a] [b] ≠ [] := by
  rw [rovB_iff]
  constructor
  · rintro ⟨h1, h2, h3, h4, h5, h6⟩ he
    have ha := rvB_iff.1 h1
    have hb := rvB_iff.1 h2
    simp only [pvB_iff] at ha hb
    have hin := inR_reg (k := interK) rfl [a] [b] (max a.1.1 b.1.1) (max a.2.1 b.2.1)
    rw [he, show inR [a] (max a.1.1 b.1.1) (max a.2.1 b.2.1) = true from inR_one.2 ⟨h1, by omega, by omega, by omega, by omega⟩, show inR [b] (max a.1.1 b.1.1) (max a.2.1 b.2.1) = true from inR_one.2 ⟨h2, by omega, by omega, by omega, by omega⟩] at hin
    simp [inR, interK] at hin
  · intro hne
    obtain ⟨r, hr⟩ := List.exists_mem_of_ne_nil _ hne
    have hv := reg_sound (k := interK) rfl [a] [b] r hr
    have hp := rvB_iff.1 hv
    simp only [pvB_iff] at hp
    have hin := inR_reg (k := interK) rfl [a] [b] r.1.1 r.2.1
    rw [show inR (regF interK [a] [b]) r.1.1 r.2.1 = true from inR_iff.2 ⟨r, hr, hv, by omega, by omega, by omega, by omega⟩] at hin
    unfold interK at hin
    have h2 := Bool.and_eq_true_iff.1 hin.symm
    obtain ⟨k1, k2, k3, k4, k5⟩ := inR_one.1 h2.1
    obtain ⟨m1, m2, m3, m4, m5⟩ := inR_one.1 h2.2
    exact ⟨k1, m1, by omega, by omega, by omega, by omega⟩
theorem over_len (a b : Rct) : rovB a b = decide (0 < (regF interK [a] [b]).length) := by
  rw [Bool.eq_iff_iff, over_iff, decide_eq_true_eq, List.length_pos_iff]

end Go.Proofs.YtimhehnmmjgeaaaGreatDoor
