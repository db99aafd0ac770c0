/- The contracts at lists of keys: of the tree, of the reference. -/
import Derived.Test.YtdmbgimehepfaaaBtLp
import Derived.Test.YtdmbgimehepfaaaBtCm
import Derived.Test.YtdmbgimehepfaaaBtD
import Derived.Test.YtdmbgimehepfaaaBtRe
set_option linter.unusedSimpArgs false
set_option linter.unusedVariables false
set_option linter.unusedSimpArgs false
set_option linter.unusedVariables false
namespace Go.Proofs.Ytdmbgimehepfaaa
open Go.RowKit

def OkI (ks : List Kp) : Prop := ∀ x ∈ ks, -9223372036854775808 ≤ x.2
/-- a tree in memory that holds the keys ks -/
def TK (base : Nat) (w : World) (tb m : Nat) (ks : List Kp) : Prop := ∃ l F, TreeIs base w tb m l F ∧ l.map MP.kp = ks ∧ OkI ks
/-- the reference's tree in memory -/
def RK (base : Nat) (w : World) (v : Value) (ks : List Kp) : Prop := ∃ l, RefIs base w v l ∧ l.map MP.kp = ks
/-- trees' blocks turned -/
def Mu (base : Nat) (w w' : World) : Prop := ∃ S, Mut base S w w'
theorem Mu.ofExt {base : Nat} {w w' : World} (e : Ext w w') : Mu base w w' := ⟨[], Mut.ofExt e⟩
theorem Mu.lo {base : Nat} {w0 w w' : World} (h : Mu base w w') (e : Ext w0 w) (hb : w0.heap.size ≤ base) : Ext w0 w' := by
  obtain ⟨S, h⟩ := h
  exact ⟨h.os.trans e.os, h.tape.trans e.tape, h.output.trans e.output, Nat.le_trans e.size h.size, fun b hbl => (h.same b (Nat.lt_of_lt_of_le hbl e.size) fun hs => by
    have := h.old b hs (Nat.lt_of_lt_of_le hbl e.size); omega).trans (e.block b hbl)⟩
theorem Mu.block {base : Nat} {w w' : World} (h : Mu base w w') {b : Nat} {c : Array Value} {ty : TypeId} {f : Nat × Nat} (hb : w.heap[b]? = some (.cells c ty f)) (hn : ¬ TreeT ty) : w'.heap[b]? = some (.cells c ty f) := by
  obtain ⟨S, h⟩ := h
  exact h.block hb fun hs => hn (h.typ b hs c ty f hb)
theorem Mu.size {base : Nat} {w w' : World} (h : Mu base w w') : w.heap.size ≤ w'.heap.size := by obtain ⟨S, h⟩ := h; exact h.size
theorem TK.ext {base tb m : Nat} {w w' : World} {ks : List Kp} (h : TK base w tb m ks) (e : Ext w w') : TK base w' tb m ks := by
  obtain ⟨l, F, h1, h2⟩ := h
  exact ⟨l, F, h1.ext e, h2⟩
theorem RK.ext {base : Nat} {w w' : World} {v : Value} {ks : List Kp} (h : RK base w v ks) (e : Ext w w') : RK base w' v ks := by
  obtain ⟨l, h1, h2⟩ := h
  exact ⟨l, h1.ext e, h2⟩
theorem RK.mu {base : Nat} {w w' : World} {v : Value} {ks : List Kp} (h : RK base w v ks) (e : Mu base w w') : RK base w' v ks := by
  obtain ⟨l, h1, h2⟩ := h
  obtain ⟨S, e⟩ := e
  exact ⟨l, h1.mut e, h2⟩
theorem okI_put {ks : List Kp} {x : Kp} (h : OkI ks) (hx : -9223372036854775808 ≤ x.2) : OkI (putK ks x) := by
  unfold putK
  split
  · exact h
  · intro y hy
    rcases List.mem_append.1 hy with hy | hy
    · exact h y (List.mem_filter.1 hy).1
    · rcases List.mem_cons.1 hy with rfl | hy
      · exact hx
      · exact h y (List.mem_filter.1 hy).1
theorem okI_del {ks : List Kp} {x : Kp} (h : OkI ks) : OkI (delK ks x) := fun y hy => h y (List.mem_filter.1 hy).1
theorem putK_len (ks : List Kp) (x : Kp) : (putK ks x).length ≤ ks.length + 1 := by
  unfold putK
  split
  · omega
  · have h : ∀ l : List Kp, (l.filter fun y => kLt y x).length + (l.filter fun y => !kLt y x).length = l.length := by
      intro l
      induction l with
      | nil => rfl
      | cons a l ih => cases ha : kLt a x <;> simp [List.filter_cons, ha] <;> omega
    have := h ks
    rw [List.length_append, List.length_cons]
    omega
theorem delK_len (ks : List Kp) (x : Kp) : (delK ks x).length ≤ ks.length := List.length_filter_le _ _
theorem kp_put {l : List MP} {ks : List Kp} {p : MP} {x : Kp} (h : l.map MP.kp = ks) (hp : p.kp = x) (hn : x ∉ ks) : ((l.filter fun q => (decide (cmpR q.key x.1 < 0) || (decide (cmpR q.key x.1 = 0) && decide (q.id < x.2)))) ++ p :: (l.filter fun q => !(decide (cmpR q.key x.1 < 0) || (decide (cmpR q.key x.1 = 0) && decide (q.id < x.2))))).map MP.kp = putK ks x := by
  unfold putK
  rw [hasK_no hn, if_neg (by simp), List.map_append, List.map_cons, hp]
  have e1 := filter_kp (fun y => kLt y x) l
  have e2 := filter_kp (fun y => !kLt y x) l
  rw [h] at e1 e2
  rw [← e1, ← e2]
  rfl
theorem kp_del {l : List MP} {ks : List Kp} {K : List Va} {id : Int} (h : l.map MP.kp = ks) : (l.filter fun q => !(decide (q.id = id) && decide (cmpR q.key K = 0))).map MP.kp = delK ks (K, id) := by
  have e1 := filter_kp (fun y => !(decide (y.2 = id) && decide (cmpR y.1 K = 0))) l
  rw [h] at e1
  exact e1
/-- a bool is returned, the tree holds other keys -/
def TPk (base : Nat) (w : World) (tb m : Nat) (b : Bool) (ks : List Kp) (e : Ending) (w' : World) : Prop := e = .returned (.bool b) ∧ TK base w' tb m ks ∧ Mu base w w'
theorem put_k (base m tb : Nat) (ks : List Kp) (A : Option Addr) (c : Nat) (K : List Va) (id : Int) (w : World) (hm : 2 ≤ m) (hm2 : m ≤ 64) (hbw : base ≤ w.heap.size) (hT : TK base w tb m ks) (hR : Rd w 3 A K.length (vcl K)) (hK : K.length ≤ 1048576) (hnil : A = none → K.length = 0 ∧ c = 0) (hll : ks.length < 1048576) (hid : -9223372036854775808 ≤ id) :
    Calls Try.prog 10 #[pt tb, .slice A K.length c, .int .i64 id] w (TPk base w tb m (!hasK ks (K, id)) (putK ks (K, id))) := by
  obtain ⟨l, F, h1, rfl, h3⟩ := hT
  refine Calls.mono (Put_any base m tb l F A K.length c K id w hm hm2 hbw h1 hR rfl hK hnil (by simpa using hll)) ?_
  rintro e w' ⟨b, l', F', rfl, h4, h5, _, h6⟩
  rcases h6 with ⟨rfl, h6, rfl⟩ | ⟨rfl, h6, p, hp, h7⟩
  · rw [has_kp] at h6
    rw [TPk, hasK_iff.2 h6, show putK (l'.map MP.kp) (K, id) = l'.map MP.kp by unfold putK; rw [if_pos (hasK_iff.2 h6)]]
    exact ⟨rfl, ⟨l', F', h4, rfl, h3⟩, ⟨_, h5⟩⟩
  · rw [has_kp] at h6
    rw [TPk, hasK_no h6]
    refine ⟨rfl, ⟨l', F', h4, ?_, okI_put h3 hid⟩, ⟨_, h5⟩⟩
    rw [put_same h7 rfl hp hp]
    exact kp_put (x := (K, id)) rfl hp h6
theorem del_k (base m tb : Nat) (ks : List Kp) (A : Option Addr) (c : Nat) (K : List Va) (id : Int) (w : World) (hm : 2 ≤ m) (hm2 : m ≤ 64) (hbw : base ≤ w.heap.size) (hT : TK base w tb m ks) (hR : Rd w 3 A K.length (vcl K)) (hK : K.length ≤ 1048576) :
    Calls Try.prog 11 #[pt tb, .slice A K.length c, .int .i64 id] w (TPk base w tb m (hasK ks (K, id)) (delK ks (K, id))) := by
  obtain ⟨l, F, h1, rfl, h3⟩ := hT
  refine Calls.mono (Delete_any base m tb l F A K.length c K id w hm hm2 hbw h1 hR rfl hK) ?_
  rintro e w' ⟨b, l', F', rfl, h4, h5, _, h6⟩
  rcases h6 with ⟨rfl, h6, rfl⟩ | ⟨rfl, h6⟩
  · have h7 := del_no h6
    rw [has_kp] at h6
    rw [TPk, hasK_no h6, ← kp_del (K := K) (id := id) rfl, h7]
    exact ⟨rfl, ⟨l', F', h4, rfl, h3⟩, ⟨_, h5⟩⟩
  · have h7 : ∃ q ∈ l, q.kp = (K, id) := by
      obtain ⟨A, q, B, rfl, hq, _⟩ := h6
      exact ⟨q, by simp, hq⟩
    rw [has_kp] at h7
    rw [TPk, hasK_iff.2 h7]
    refine ⟨rfl, ⟨l', F', h4, ?_, okI_del h3⟩, ⟨_, h5⟩⟩
    rw [rem_same h6 h1.srt rfl]
    exact kp_del rfl
theorem okI_l {l : List MP} (h : OkI (l.map MP.kp)) : ∀ q ∈ l, -9223372036854775808 ≤ q.id := fun q hq => h q.kp (List.mem_map.2 ⟨q, hq, rfl⟩)
theorem get_k (base m tb : Nat) (ks : List Kp) (A : Option Addr) (c : Nat) (K : List Va) (w : World) (hm : 2 ≤ m) (hm2 : m ≤ 64) (hT : TK base w tb m ks) (hR : Rd w 3 A K.length (vcl K)) (hK : K.length ≤ 1048576) :
    Calls Try.prog 12 #[pt tb, .slice A K.length c] w (IPost w (getK ks K)) := by
  obtain ⟨l, F, h1, rfl, h3⟩ := hT
  have h := Get_any base m tb l F A K.length c K w hm hm2 h1 hR rfl hK
  rw [get_same h1.srt (okI_l h3), filter_id (fun k => decide (cmpR k K = 0))] at h
  exact h
theorem pre_k (base m tb : Nat) (ks : List Kp) (A : Option Addr) (c : Nat) (K : List Va) (w : World) (hm : 2 ≤ m) (hm2 : m ≤ 64) (hT : TK base w tb m ks) (hR : Rd w 3 A K.length (vcl K)) (hK : K.length ≤ 1048576) :
    Calls Try.prog 13 #[pt tb, .slice A K.length c] w (IPost w (preK ks K)) := by
  obtain ⟨l, F, h1, rfl, h3⟩ := hT
  have h := Prefix_any base m tb l F A K.length c K w hm hm2 h1 hR rfl hK
  rw [prefix_same h1.srt (okI_l h3), filter_id (fun k => (decide (K.length ≤ k.length) && decide (cmpR (k.take K.length) K = 0)))] at h
  exact h
theorem ran_k (base m tb : Nat) (ks : List Kp) (A0 : Option Addr) (c0 : Nat) (K0 : List Va) (A : Option Addr) (c : Nat) (K : List Va) (w : World) (hm : 2 ≤ m) (hm2 : m ≤ 64) (hT : TK base w tb m ks) (hR0 : Rd w 3 A0 K0.length (vcl K0)) (hK0 : K0.length ≤ 1048576) (hR : Rd w 3 A K.length (vcl K)) (hK : K.length ≤ 1048576) :
    Calls Try.prog 14 #[pt tb, .slice A0 K0.length c0, .slice A K.length c] w (IPost w (ranK ks K0 K)) := by
  obtain ⟨l, F, h1, rfl, h3⟩ := hT
  have h := Range_any base m tb l F A0 K0.length c0 K0 A K.length c K w hm hm2 h1 hR0 rfl hK0 hR rfl hK
  rw [range_same h1.srt (okI_l h3), filter_id (fun k => (decide (0 ≤ cmpR k K0) && decide (cmpR k K < 0)))] at h
  exact h
theorem len_k (base m tb : Nat) (ks : List Kp) (w : World) (hT : TK base w tb m ks) : Calls Try.prog 15 #[pt tb] w fun e w' => e = .returned (.int .i64 ks.length) ∧ Ext w w' := by
  obtain ⟨l, F, h1, rfl, h3⟩ := hT
  rw [List.length_map]
  exact Len_any base m tb l F w h1
/-- the depth, with its bounds -/
def DPost (w : World) (m n : Nat) (e : Ending) (w' : World) : Prop := ∃ D : Nat, e = .returned (.int .i64 D) ∧ ((n = 0 ∧ D = 0) ∨ ∃ d, D = d + 1 ∧ 2 * (m / 2 + 1) ^ d ≤ n + 1 ∧ n + 1 ≤ (m + 1) ^ (d + 1) ∧ 0 < n) ∧ Ext w w'
theorem dep_k (base m tb : Nat) (ks : List Kp) (w : World) (hm : 2 ≤ m) (hm2 : m ≤ 64) (hT : TK base w tb m ks) : Calls Try.prog 16 #[pt tb] w (DPost w m ks.length) := by
  obtain ⟨l, F, h1, rfl, h3⟩ := hT
  rw [List.length_map]
  refine Calls.mono (Depth_any base m tb l F w hm hm2 h1) ?_
  rintro e w' ⟨D, rfl, h, hE⟩
  refine ⟨D, rfl, ?_, hE⟩
  rcases h with ⟨rfl, rfl⟩ | ⟨d, t, _, rfl, _, hW, rfl⟩
  · exact .inl ⟨rfl, rfl⟩
  · have ha := wf_low hW
    have hb := wf_high hW
    refine .inr ⟨d, rfl, ha, by rw [Nat.pow_succ, Nat.mul_comm]; exact hb, ?_⟩
    have : 0 < (m / 2 + 1) ^ d := Nat.pow_pos (by omega)
    have : 2 * (m / 2 + 1) ^ d ≤ (flat d t).length + 1 := ha
    omega
theorem chk_k (base m tb : Nat) (ks : List Kp) (w : World) (hm : 2 ≤ m) (hm2 : m ≤ 64) (hT : TK base w tb m ks) : Calls Try.prog 17 #[pt tb] w fun e w' => e = .returned (.bool true) ∧ Ext w w' := by
  obtain ⟨l, F, h1, rfl, h3⟩ := hT
  exact Check_any base m tb l F w hm hm2 h1 (okI_l h3)
theorem new_k (base m : Nat) (w : World) (hm : 2 ≤ m) (hm2 : m ≤ 64) (hb : base ≤ w.heap.size) : Calls Try.prog 9 #[.int .i64 m] w fun e w' => ∃ tb, e = .returned (.tuple #[pt tb, .int .i64 0]) ∧ TK base w' tb m [] ∧ Ext w w' := by
  refine Calls.mono (New_any base m w hm hm2 hb) ?_
  rintro e w' ⟨tb, rfl, h1, h2, hE⟩
  exact ⟨tb, rfl, ⟨[], [], h2, rfl, fun x hx => by cases hx⟩, hE⟩
/-- the reference -/
def RPk (base : Nat) (w : World) (b : Bool) (ks : List Kp) (e : Ending) (w' : World) : Prop := ∃ v', e = .returned (.tuple #[v', .bool b]) ∧ RK base w' v' ks ∧ Ext w w'
theorem rput_k (base : Nat) (v : Value) (ks : List Kp) (A : Option Addr) (c : Nat) (K : List Va) (id : Int) (w : World) (hbw : base ≤ w.heap.size) (hx : RK base w v ks) (hl1 : ks.length < 1048576) (hR : Rd w 3 A K.length (vcl K)) (hK : K.length ≤ 1048576) :
    Calls Try.prog 44 #[v, .slice A K.length c, .int .i64 id] w (RPk base w (!hasK ks (K, id)) (putK ks (K, id))) := by
  obtain ⟨l, h1, rfl⟩ := hx
  refine Calls.mono (rPut_any base v l A c K id w hbw h1 (by simpa using hl1) hR hK) ?_
  rintro e w' ⟨b, v', l', rfl, h2, h3, h6⟩
  rcases h6 with ⟨rfl, h6, rfl⟩ | ⟨rfl, h6, p, hp, rfl⟩
  · rw [has_kp] at h6
    rw [RPk, hasK_iff.2 h6, show putK (l'.map MP.kp) (K, id) = l'.map MP.kp by unfold putK; rw [if_pos (hasK_iff.2 h6)]]
    exact ⟨v', rfl, ⟨l', h2, rfl⟩, h3⟩
  · rw [has_kp] at h6
    rw [RPk, hasK_no h6]
    exact ⟨v', rfl, ⟨_, h2, kp_put (x := (K, id)) rfl hp h6⟩, h3⟩
theorem rdel_k (base : Nat) (v : Value) (ks : List Kp) (A : Option Addr) (c : Nat) (K : List Va) (id : Int) (w : World) (hbw : base ≤ w.heap.size) (hx : RK base w v ks) (hR : Rd w 3 A K.length (vcl K)) (hK : K.length ≤ 1048576) :
    Calls Try.prog 45 #[v, .slice A K.length c, .int .i64 id] w (RPk base w (hasK ks (K, id)) (delK ks (K, id))) := by
  obtain ⟨l, h1, rfl⟩ := hx
  refine Calls.mono (rDelete_any base v l A c K id w hbw h1 hR hK) ?_
  rintro e w' ⟨b, v', l', rfl, h2, h3, h6⟩
  rcases h6 with ⟨rfl, h6, rfl⟩ | ⟨rfl, h6, rfl⟩
  · have h7 := del_no h6
    rw [has_kp] at h6
    rw [RPk, hasK_no h6, ← kp_del (K := K) (id := id) rfl, h7]
    exact ⟨v', rfl, ⟨l', h2, rfl⟩, h3⟩
  · rw [has_kp] at h6
    rw [RPk, hasK_iff.2 h6]
    exact ⟨v', rfl, ⟨_, h2, kp_del rfl⟩, h3⟩
theorem rget_k (base : Nat) (v : Value) (ks : List Kp) (A : Option Addr) (c : Nat) (K : List Va) (w : World) (hx : RK base w v ks) (hR : Rd w 3 A K.length (vcl K)) (hK : K.length ≤ 1048576) :
    Calls Try.prog 24 #[v, .slice A K.length c] w (IPost w (getK ks K)) := by
  obtain ⟨l, h1, rfl⟩ := hx
  have h := rGet_any base v l A c K w h1 hR hK
  rw [filter_id (fun k => decide (cmpR k K = 0))] at h
  exact h
theorem rpre_k (base : Nat) (v : Value) (ks : List Kp) (A : Option Addr) (c : Nat) (K : List Va) (w : World) (hx : RK base w v ks) (hR : Rd w 3 A K.length (vcl K)) (hK : K.length ≤ 1048576) :
    Calls Try.prog 22 #[v, .slice A K.length c] w (IPost w (preK ks K)) := by
  obtain ⟨l, h1, rfl⟩ := hx
  have h := rPrefix_any base v l A c K w h1 hR hK
  rw [filter_id (fun k => (decide (K.length ≤ k.length) && decide (cmpR (k.take K.length) K = 0)))] at h
  exact h
theorem rran_k (base : Nat) (v : Value) (ks : List Kp) (A : Option Addr) (c : Nat) (K : List Va) (A2 : Option Addr) (c2 : Nat) (K2 : List Va) (w : World) (hx : RK base w v ks) (hR : Rd w 3 A K.length (vcl K)) (hK : K.length ≤ 1048576) (hR2 : Rd w 3 A2 K2.length (vcl K2)) (hK2 : K2.length ≤ 1048576) :
    Calls Try.prog 25 #[v, .slice A K.length c, .slice A2 K2.length c2] w (IPost w (ranK ks K K2)) := by
  obtain ⟨l, h1, rfl⟩ := hx
  have h := rRange_any base v l A c K A2 c2 K2 w h1 hR hK hR2 hK2
  rw [filter_id (fun k => (decide (0 ≤ cmpR k K) && decide (cmpR k K2 < 0)))] at h
  exact h
end Go.Proofs.Ytdmbgimehepfaaa
