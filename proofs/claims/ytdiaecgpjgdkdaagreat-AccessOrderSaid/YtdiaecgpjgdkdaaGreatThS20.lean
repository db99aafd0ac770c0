/- Lemmas for the rows: BtN BtK. -/
import Derived.Test.YtdiaecgpjgdkdaaGreatThS19
import Derived.Deep.RegionHeld3
import Derived.Test.YtdiaecgpjgdkdaaGreatThS05
set_option linter.unusedSimpArgs false
set_option linter.unusedVariables false
namespace Go.Proofs.YtdiaecgpjgdkdaaGreat
open Go.RowKit

abbrev pv (p : MP) : Value := .agg #[.slice p.A p.n p.c, .int .i64 p.id]
structure KR (w : World) (p : MP) : Prop where
 n : p.n = p.key.length
 rd : Rd w 3 p.A p.key.length (vcl p.key)
 le : p.key.length ≤ 9223372036854775807
theorem KR.ext {w w' : World} {p : MP} (h : KR w p) (e : Ext w w') : KR w' p := ⟨h.n, h.rd.ext e, h.le⟩
theorem KOk.kr {base : Nat} {w : World} {p : MP} (h : KOk base w p) : KR w p := ⟨h.1, h.rd, by have := h.2.1.1; omega⟩
theorem Rd.pr {w : World} {A : Option Addr} {l : List MP} {n : Nat} (h : Rd w 2 A n (mpl l)) (hn : n = l.length) {k : Nat} (hk : k < l.length) :
  ∃ b o, A = some ⟨b, o, none⟩ ∧ b < w.heap.size ∧ w.cell? ⟨b, o + k * 2, none⟩ = some (.slice l[k].A l[k].n l[k].c) ∧ w.cell? ⟨b, o + k * 2 + 1, none⟩ = some (.int .i64 l[k].id) := by
 obtain ⟨b, o, hA, hb, hc⟩ := h.2 (by omega)
 have f := fun j hj => fmv_get mp2 2 (fun _ => rfl) l k hk j hj
 exact ⟨b, o, hA, hb, hc _ _ (f 0 (by omega)), hc _ _ (f 1 (by omega))⟩
set_option maxHeartbeats 2000000 in
theorem cmpp_any (a b : MP) (w : World) (ha : KR w a) (hb : KR w b) : Calls Tryz.prog 118 #[pv a, pv b] w fun e w' => e = .returned (.int .i64 (cmpP a.kp b.kp)) ∧ Ext w w' := by
 have HT : Hid (∀ W, Ext w W → Calls Tryz.prog 146 #[.slice a.A a.n a.c, .slice b.A b.n b.c] W fun e w' => e = .returned (.int .i64 (cmpR a.key b.key)) ∧ Ext W w') := Lib.hid (fun W hE => by
  rw [ha.n, hb.n]
  exact tcmp_any a.A b.A a.c b.c a.key b.key W (ha.rd.ext hE) (hb.rd.ext hE) (by have := ha.le; omega) (by have := hb.le; omega))
 have HZ : Hid (cmpP a.kp b.kp = if cmpR a.key b.key = 0 then (if a.id < b.id then -1 else if b.id < a.id then 1 else 0) else cmpR a.key b.key) := Lib.hid rfl
 generalize cmpP a.kp b.kp = z at HZ ⊢
 generalize cmpR a.key b.key = c at HT HZ
 clear ha hb
 by_cases h : c = 0
 ·
  subst h
  by_cases h1 : a.id < b.id
  ·
   have HV : Hid (z = -1) := Lib.hid (by rw [HZ.out]; simp [h1])
   go_enter Tryz.func118, Tryz.ntmps118
   go_wp2_with (go_at_call 146; (with_reducible refine Calls.mono (HT.out _ (ex_)) ?_); rintro e w1 ⟨rfl, hb1⟩; obtain ⟨y1, rfl⟩ := hb1.get; clear hb1)
   go_ret
   exact ⟨by rw [HV.out]; rfl, ex_⟩
  ·
   by_cases h2 : b.id < a.id
   ·
    have HV : Hid (z = 1) := Lib.hid (by rw [HZ.out]; simp [h1, h2])
    go_enter Tryz.func118, Tryz.ntmps118
    go_wp2_with (go_at_call 146; (with_reducible refine Calls.mono (HT.out _ (ex_)) ?_); rintro e w1 ⟨rfl, hb1⟩; obtain ⟨y1, rfl⟩ := hb1.get; clear hb1)
    go_ret
    exact ⟨by rw [HV.out]; rfl, ex_⟩
   ·
    have HV : Hid (z = 0) := Lib.hid (by rw [HZ.out]; simp [h1, h2])
    go_enter Tryz.func118, Tryz.ntmps118
    go_wp2_with (go_at_call 146; (with_reducible refine Calls.mono (HT.out _ (ex_)) ?_); rintro e w1 ⟨rfl, hb1⟩; obtain ⟨y1, rfl⟩ := hb1.get; clear hb1)
    go_ret
    exact ⟨by rw [HV.out]; rfl, ex_⟩
 ·
  have HV : Hid (z = c) := Lib.hid (by rw [HZ.out]; simp [h])
  go_enter Tryz.func118, Tryz.ntmps118
  go_wp2_with (go_at_call 146; (with_reducible refine Calls.mono (HT.out _ (ex_)) ?_); rintro e w1 ⟨rfl, hb1⟩; obtain ⟨y1, rfl⟩ := hb1.get; clear hb1)
  go_ret
  exact ⟨by rw [HV.out]; rfl, ex_⟩
def foundB (l : List MP) (i : Nat) (p : Kp) : Bool := match l[i]? with | some q => decide (q.kp = p) | none => false
set_option maxRecDepth 100000 in
set_option maxHeartbeats 8000000 in
theorem bs_any (A : Option Addr) (c : Nat) (l : List MP) (p : MP) (w : World) (hR : Rd w 2 A l.length (mpl l)) (hl : l.length ≤ 1048576) (hs : SrtB l) (hk : ∀ q ∈ l, KR w q) (hp : KR w p) :
  Calls Tryz.prog 117 #[.slice A l.length c, pv p, .func (.func 118) #[] #[]] w fun e w' => ∃ i : Nat, i ≤ l.length ∧ (∀ q ∈ l.take i, ltP q.kp p.kp) ∧ (∀ q ∈ l.drop i, ¬ ltP q.kp p.kp) ∧ e = .returned (.tuple #[.int .i64 i, .bool (foundB l i p.kp)]) ∧ Ext w w' := by
 have HS := Lib.hid hs
 have HK := Lib.hid hk
 clear hs hk
 go_enter Tryz.func117, Tryz.ntmps117
 go_wp2
 have hE0 : Ext w (w.alloc (.cells #[.slice p.A p.n p.c, .int .i64 p.id] TP)) := (ex_)
 have hbs : w.heap.size < (w.alloc (.cells #[.slice p.A p.n p.c, .int .i64 p.id] TP)).heap.size := by simp
 have z0 : (w.alloc (.cells #[.slice p.A p.n p.c, .int .i64 p.id] TP)).cell? ⟨w.heap.size, 0, none⟩ = some (.slice p.A p.n p.c) := by simp [go_sem, ↓IntWalk.iteOmega]
 have z1 : (w.alloc (.cells #[.slice p.A p.n p.c, .int .i64 p.id] TP)).cell? ⟨w.heap.size, 1, none⟩ = some (.int .i64 p.id) := by simp [go_sem, ↓IntWalk.iteOmega]
 generalize w.alloc (.cells #[.slice p.A p.n p.c, .int .i64 p.id] TP) = Wb at hE0 hbs z0 z1 ⊢
 generalize w.heap.size = bx at hbs z0 z1 ⊢
 have hR := hR.ext hE0
 have hp := hp.ext hE0
 go_loopw [9, 10] (fun lo hi wr => ∃ i j : Nat, lo = .int .i64 i ∧ hi = .int .i64 j ∧ i ≤ j ∧ j ≤ l.length ∧ Hid (∀ q ∈ l.take i, ltP q.kp p.kp) ∧ Hid (∀ q ∈ l.drop j, ¬ ltP q.kp p.kp) ∧ Ext Wb wr) (fun lo hi _ => (intOf hi).toNat - (intOf lo).toNat)
 case atStart => exact ⟨0, l.length, rfl, rfl, Nat.zero_le _, Nat.le_refl _, Lib.hid (by simp), Lib.hid (by simp), Ext.refl' _⟩
 case round =>
  obtain ⟨i, j, rfl, rfl, hij, hj, HLT, HGE, hE⟩ := hrel
  have z0 := hE.cell' z0
  have z1 := hE.cell' z1
  have hbs := Nat.lt_of_lt_of_le hbs hE.size
  by_cases hlt : i < j
  ·
   have hm : (i + j) / 2 < l.length := by omega
   obtain ⟨b, o, rfl, hbw, e0, e1⟩ := (hR.ext hE).pr rfl hm
   have HC : Hid (∀ W, Ext wr W → Calls Tryz.prog 118 #[pv l[(i + j) / 2], pv p] W fun e w' => e = .returned (.int .i64 (cmpP l[(i + j) / 2].kp p.kp)) ∧ Ext W w') := Lib.hid (fun W hEx => cmpp_any _ _ W (((HK.out _ (List.getElem_mem hm)).ext (hE0.tr hE)).ext hEx) ((hp.ext hE).ext hEx))
   have HZ := Lib.hid (cmpP_lt (a := l[(i + j) / 2].kp) (b := p.kp))
   have HUP : Hid (ltP l[(i + j) / 2].kp p.kp → ∀ q ∈ l.take ((i + j) / 2 + 1), ltP q.kp p.kp) := Lib.hid (fun h q hq => by
    obtain ⟨t, ht, rfl⟩ := List.getElem_of_mem hq
    simp only [List.length_take] at ht
    rw [List.getElem_take]
    rcases (by omega : t = (i + j) / 2 ∨ t < (i + j) / 2) with rfl | h2
    ·
     exact h
    ·
     exact ltP_trans (List.pairwise_iff_getElem.1 HS.out t ((i + j) / 2) (by omega) hm h2) h)
   have HDN : Hid (¬ ltP l[(i + j) / 2].kp p.kp → ∀ q ∈ l.drop ((i + j) / 2), ¬ ltP q.kp p.kp) := Lib.hid (fun h q hq => by
    obtain ⟨t, ht, rfl⟩ := List.getElem_of_mem hq
    simp only [List.length_drop] at ht
    rw [List.getElem_drop]
    rcases Nat.eq_zero_or_pos t with rfl | h2
    ·
     simpa using h
    ·
     exact fun e => h (ltP_trans (List.pairwise_iff_getElem.1 HS.out ((i + j) / 2) ((i + j) / 2 + t) hm (by omega) (by omega)) e))
   have hmi : ((i : Int) + (j : Int)) / 2 = (((i + j) / 2 : Nat) : Int) := by omega
   obtain ⟨h, hh⟩ : ∃ h, (i + j) / 2 = h := ⟨_, rfl⟩
   simp only [hh] at e0 e1 HC HZ HUP HDN hm
   rw [hh] at hmi
   have hh1 : i ≤ h := by omega
   have hh2 : h < j := by omega
   generalize l[h] = q at e0 e1 HC HZ HUP HDN
   generalize cmpP q.kp p.kp = z at HC HZ
   clear hh
   by_cases hz : z < 0
   ·
    have HLT2 := Lib.hid (HUP.out (HZ.out.1 hz))
    clear HZ HUP HDN HLT
    go_wp2
    refine wp_region_ext (by kernel_rfl) (by kernel_rfl) ?_
    repeat (first | go_big_quiet_step ((go_at_call 118; exact Calls.ext_of (HC.out _ (ex_)))) | quiet_step ((go_at_call 118; exact Calls.ext_of (HC.out _ (ex_)))))
    refine wpQuiet_nil ?_
    intro _ hw'
    obtain ⟨xq, hw''⟩ := hw'
    subst hw''
    go_wp2
    go_roundw
    case rel => exact ⟨h + 1, j, by go_num, rfl, by omega, hj, HLT2, HGE, hE.tr (ex_)⟩
    case measure => simp [intOf]; omega
   ·
    have HGE2 := Lib.hid (HDN.out (fun e => hz (HZ.out.2 e)))
    clear HZ HUP HDN HGE
    go_wp2
    refine wp_region_ext (by kernel_rfl) (by kernel_rfl) ?_
    repeat (first | go_big_quiet_step ((go_at_call 118; exact Calls.ext_of (HC.out _ (ex_)))) | quiet_step ((go_at_call 118; exact Calls.ext_of (HC.out _ (ex_)))))
    refine wpQuiet_nil ?_
    intro _ hw'
    obtain ⟨xq, hw''⟩ := hw'
    subst hw''
    go_wp2
    go_roundw
    case rel => exact ⟨i, h, rfl, rfl, by omega, by omega, HLT, HGE2, hE.tr (ex_)⟩
    case measure => simp [intOf]; omega
  ·
   have hji : j = i := by omega
   subst hji
   by_cases hil : j < l.length
   ·
    obtain ⟨b, o, rfl, hbw, e0, e1⟩ := (hR.ext hE).pr rfl hil
    have HC : Hid (∀ W, Ext wr W → Calls Tryz.prog 118 #[pv l[j], pv p] W fun e w' => e = .returned (.int .i64 (cmpP l[j].kp p.kp)) ∧ Ext W w') := Lib.hid (fun W hEx => cmpp_any _ _ W (((HK.out _ (List.getElem_mem hil)).ext (hE0.tr hE)).ext hEx) ((hp.ext hE).ext hEx))
    have HZ := Lib.hid (cmpP_zero (a := l[j].kp) (b := p.kp))
    have HFN0 : Hid (foundB l j p.kp = decide (l[j].kp = p.kp)) := Lib.hid (by unfold foundB; rw [List.getElem?_eq_getElem hil])
    have hne : ¬ (j = l.length) := by omega
    generalize l[j] = q at e0 e1 HC HZ HFN0
    generalize cmpP q.kp p.kp = z at HC HZ
    obtain ⟨i, hii⟩ : ∃ i, i = j := ⟨_, rfl⟩
    subst hii
    by_cases hz : z = 0
    ·
     have HFN : Hid (foundB l i p.kp = true) := Lib.hid (by rw [HFN0.out]; exact decide_eq_true (HZ.out.1 hz))
     subst hz
     clear HZ HFN0
     go_wp2_with fail
     refine wp_region_held_drew (S := (fun w' => w'.cell? ⟨b, o + i * 2, none⟩ = some (.slice q.A q.n q.c) ∧ w'.cell? ⟨b, o + i * 2 + 1, none⟩ = some (.int .i64 q.id) ∧ w'.cell? ⟨bx, 0, none⟩ = some (.slice p.A p.n p.c) ∧ w'.cell? ⟨bx, 1, none⟩ = some (.int .i64 p.id))) (by kernel_rfl) (by simp [go_sem, ↓IntWalk.iteOmega, *]) (fun hHeld => ?_)
     refine tkH 0 ?oi1 (?v1) ?hi1 ?hy1 ?_
     case hi1 => (simp only [gA, gS, gZ]; try rfl)
     case hy1 => (refine Or.inl ⟨by rfl, ?_⟩; intro wq hSw; (try dsimp only at hSw); go_simp; (try with_reducible rfl))
     (try simp only [Act.put, pA, pZ, pS])
     refine tkH 1 ?oi2 (?v2) ?hi2 ?hy2 ?_
     case hi2 => (simp only [gA, gS, gZ]; try rfl)
     case hy2 => (refine Or.inl ⟨by rfl, ?_⟩; intro wq hSw; (try dsimp only at hSw); go_simp; (try with_reducible rfl))
     (try simp only [Act.put, pA, pZ, pS])
     refine tkH 2 ?oi3 (?v3) ?hi3 ?hy3 ?_
     case hi3 => (simp only [gA, gS, gZ]; try rfl)
     case hy3 => (refine Or.inl ⟨by rfl, ?_⟩; intro wq hSw; (try dsimp only at hSw); go_simp; (try with_reducible rfl))
     (try simp only [Act.put, pA, pZ, pS])
     refine tkH 3 ?oi4 (?v4) ?hi4 ?hy4 ?_
     case hi4 => (simp only [gA, gS, gZ]; try rfl)
     case hy4 => (refine Or.inl ⟨by rfl, ?_⟩; intro wq hSw; (try dsimp only at hSw); go_simp; (try with_reducible rfl))
     (try simp only [Act.put, pA, pZ, pS])
     refine tkH 4 ?oi5 (?v5) ?hi5 ?hy5 ?_
     case hi5 => (simp only [gA, gS, gZ]; try rfl)
     case hy5 => (refine Or.inl ⟨by rfl, ?_⟩; intro wq hSw; (try dsimp only at hSw); go_simp; (try with_reducible rfl))
     (try simp only [Act.put, pA, pZ, pS])
     refine tkH 5 ?oi6 (?v6) ?hi6 ?hy6 ?_
     case hi6 => (simp only [gA, gS, gZ]; try rfl)
     case hy6 => (refine Or.inl ⟨by rfl, ?_⟩; intro wq hSw; (try dsimp only at hSw); go_simp; (try with_reducible rfl))
     (try simp only [Act.put, pA, pZ, pS])
     refine tkH 6 ?oi7 (?v7) ?hi7 ?hy7 ?_
     case hi7 => (simp only [gA, gS, gZ]; try rfl)
     case hy7 => (refine Or.inl ⟨by rfl, ?_⟩; intro wq hSw; (try dsimp only at hSw); go_simp; (try with_reducible rfl))
     (try simp only [Act.put, pA, pZ, pS])
     refine tkH 7 ?oi8 (?v8) ?hi8 ?hy8 ?_
     case hi8 => (simp only [gA, gS, gZ]; try rfl)
     case hy8 => (refine Or.inl ⟨by rfl, ?_⟩; intro wq hSw; (try dsimp only at hSw); go_simp; (try with_reducible rfl))
     (try simp only [Act.put, pA, pZ, pS])
     refine tkH 8 ?oi9 (?v9) ?hi9 ?hy9 ?_
     case hi9 => (simp only [gA, gS, gZ]; try rfl)
     case hy9 => (refine Or.inl ⟨by rfl, ?_⟩; intro wq hSw; (try dsimp only at hSw); go_simp; (try with_reducible rfl))
     (try simp only [Act.put, pA, pZ, pS])
     refine tkH 9 ?oi10 (?v10) ?hi10 ?hy10 ?_
     case hi10 => (simp only [gA, gS, gZ]; try rfl)
     case hy10 => (refine Or.inl ⟨by rfl, ?_⟩; intro wq hSw; (try dsimp only at hSw); go_simp; (try with_reducible rfl))
     (try simp only [Act.put, pA, pZ, pS])
     refine tkH 10 ?oi11 (?v11) ?hi11 ?hy11 ?_
     case hi11 => (simp only [gA, gS, gZ]; try rfl)
     case hy11 => (refine Or.inl ⟨by rfl, ?_⟩; intro wq hSw; (try dsimp only at hSw); go_simp; (try with_reducible rfl))
     (try simp only [Act.put, pA, pZ, pS])
     refine wpAnyH_ready (rs := [11]) (by kernel_rfl) (by simp) ?_
     refine AllReadyH.cons (o := ?oi12) ?hi12 ?ti12 AllReadyH.nil
     case hi12 => (simp only [gA, gS, gZ]; try rfl)
     case ti12 =>
      intro KQ hKQ
      go_simp
      go_at_call 118
      refine Calls.mono (HC.out _ (ex_)) ?_
      rintro e w1 ⟨rfl, hb1⟩
      obtain ⟨x1, rfl⟩ := hb1.get
      clear hb1
      refine hKQ.out _ _ (by simp [go_sem, ↓IntWalk.iteOmega, *]) (fun hHeld2 => ?_)
      clear hHeld hKQ KQ; have hHeld := hHeld2; clear hHeld2
      (try simp only [Act.put, pA, pZ, pS])
      refine tkH 12 ?oi13 (?v13) ?hi13 ?hy13 ?_
      case hi13 => (simp only [gA, gS, gZ]; try rfl)
      case hy13 => (refine Or.inl ⟨by rfl, ?_⟩; intro wq hSw; (try dsimp only at hSw); go_simp; (try with_reducible rfl))
      (try simp only [Act.put, pA, pZ, pS])
      refine tkH 13 ?oi14 (?v14) ?hi14 ?hy14 ?_
      case hi14 => (simp only [gA, gS, gZ]; try rfl)
      case hy14 => (refine Or.inl ⟨by rfl, ?_⟩; intro wq hSw; (try dsimp only at hSw); go_simp; (try with_reducible rfl))
      (try simp only [Act.put, pA, pZ, pS])
      refine tkH 14 ?oi15 (?v15) ?hi15 ?hy15 ?_
      case hi15 => (simp only [gA, gS, gZ]; try rfl)
      case hy15 => (refine Or.inl ⟨by rfl, ?_⟩; intro wq hSw; (try dsimp only at hSw); go_simp; (try with_reducible rfl))
      (try simp only [Act.put, pA, pZ, pS])
      refine tkH 15 ?oi16 (?v16) ?hi16 ?hy16 ?_
      case hi16 => (simp only [gA, gS, gZ]; try rfl)
      case hy16 => (refine Or.inl ⟨by rfl, ?_⟩; intro wq hSw; (try dsimp only at hSw); go_simp; (try with_reducible rfl))
      (try simp only [Act.put, pA, pZ, pS])
      refine wpAnyH_done (by kernel_rfl) ?_ _
      go_wp2
      go_ret2
      exact ⟨i, by omega, HLT.out, HGE.out, by rw [HFN.out]; first | rfl | (show Ending.returned (Value.tuple #[.int .i64 i, .bool (z == 0)]) = _; simp [hz]), hE0.tr (hE.tr (ex_))⟩
    ·
     have HFN : Hid (foundB l i p.kp = false) := Lib.hid (by rw [HFN0.out]; exact decide_eq_false fun e => hz (HZ.out.2 e))
     clear HZ HFN0
     go_wp2_with fail
     refine wp_region_held_drew (S := (fun w' => w'.cell? ⟨b, o + i * 2, none⟩ = some (.slice q.A q.n q.c) ∧ w'.cell? ⟨b, o + i * 2 + 1, none⟩ = some (.int .i64 q.id) ∧ w'.cell? ⟨bx, 0, none⟩ = some (.slice p.A p.n p.c) ∧ w'.cell? ⟨bx, 1, none⟩ = some (.int .i64 p.id))) (by kernel_rfl) (by simp [go_sem, ↓IntWalk.iteOmega, *]) (fun hHeld => ?_)
     refine tkH 0 ?oi301 (?v301) ?hi301 ?hy301 ?_
     case hi301 => (simp only [gA, gS, gZ]; try rfl)
     case hy301 => (refine Or.inl ⟨by rfl, ?_⟩; intro wq hSw; (try dsimp only at hSw); go_simp; (try with_reducible rfl))
     (try simp only [Act.put, pA, pZ, pS])
     refine tkH 1 ?oi302 (?v302) ?hi302 ?hy302 ?_
     case hi302 => (simp only [gA, gS, gZ]; try rfl)
     case hy302 => (refine Or.inl ⟨by rfl, ?_⟩; intro wq hSw; (try dsimp only at hSw); go_simp; (try with_reducible rfl))
     (try simp only [Act.put, pA, pZ, pS])
     refine tkH 2 ?oi303 (?v303) ?hi303 ?hy303 ?_
     case hi303 => (simp only [gA, gS, gZ]; try rfl)
     case hy303 => (refine Or.inl ⟨by rfl, ?_⟩; intro wq hSw; (try dsimp only at hSw); go_simp; (try with_reducible rfl))
     (try simp only [Act.put, pA, pZ, pS])
     refine tkH 3 ?oi304 (?v304) ?hi304 ?hy304 ?_
     case hi304 => (simp only [gA, gS, gZ]; try rfl)
     case hy304 => (refine Or.inl ⟨by rfl, ?_⟩; intro wq hSw; (try dsimp only at hSw); go_simp; (try with_reducible rfl))
     (try simp only [Act.put, pA, pZ, pS])
     refine tkH 4 ?oi305 (?v305) ?hi305 ?hy305 ?_
     case hi305 => (simp only [gA, gS, gZ]; try rfl)
     case hy305 => (refine Or.inl ⟨by rfl, ?_⟩; intro wq hSw; (try dsimp only at hSw); go_simp; (try with_reducible rfl))
     (try simp only [Act.put, pA, pZ, pS])
     refine tkH 5 ?oi306 (?v306) ?hi306 ?hy306 ?_
     case hi306 => (simp only [gA, gS, gZ]; try rfl)
     case hy306 => (refine Or.inl ⟨by rfl, ?_⟩; intro wq hSw; (try dsimp only at hSw); go_simp; (try with_reducible rfl))
     (try simp only [Act.put, pA, pZ, pS])
     refine tkH 6 ?oi307 (?v307) ?hi307 ?hy307 ?_
     case hi307 => (simp only [gA, gS, gZ]; try rfl)
     case hy307 => (refine Or.inl ⟨by rfl, ?_⟩; intro wq hSw; (try dsimp only at hSw); go_simp; (try with_reducible rfl))
     (try simp only [Act.put, pA, pZ, pS])
     refine tkH 7 ?oi308 (?v308) ?hi308 ?hy308 ?_
     case hi308 => (simp only [gA, gS, gZ]; try rfl)
     case hy308 => (refine Or.inl ⟨by rfl, ?_⟩; intro wq hSw; (try dsimp only at hSw); go_simp; (try with_reducible rfl))
     (try simp only [Act.put, pA, pZ, pS])
     refine tkH 8 ?oi309 (?v309) ?hi309 ?hy309 ?_
     case hi309 => (simp only [gA, gS, gZ]; try rfl)
     case hy309 => (refine Or.inl ⟨by rfl, ?_⟩; intro wq hSw; (try dsimp only at hSw); go_simp; (try with_reducible rfl))
     (try simp only [Act.put, pA, pZ, pS])
     refine tkH 9 ?oi310 (?v310) ?hi310 ?hy310 ?_
     case hi310 => (simp only [gA, gS, gZ]; try rfl)
     case hy310 => (refine Or.inl ⟨by rfl, ?_⟩; intro wq hSw; (try dsimp only at hSw); go_simp; (try with_reducible rfl))
     (try simp only [Act.put, pA, pZ, pS])
     refine tkH 10 ?oi311 (?v311) ?hi311 ?hy311 ?_
     case hi311 => (simp only [gA, gS, gZ]; try rfl)
     case hy311 => (refine Or.inl ⟨by rfl, ?_⟩; intro wq hSw; (try dsimp only at hSw); go_simp; (try with_reducible rfl))
     (try simp only [Act.put, pA, pZ, pS])
     refine wpAnyH_ready (rs := [11]) (by kernel_rfl) (by simp) ?_
     refine AllReadyH.cons (o := ?oi312) ?hi312 ?ti312 AllReadyH.nil
     case hi312 => (simp only [gA, gS, gZ]; try rfl)
     case ti312 =>
      intro KQ hKQ
      go_simp
      go_at_call 118
      refine Calls.mono (HC.out _ (ex_)) ?_
      rintro e w1 ⟨rfl, hb1⟩
      obtain ⟨x1, rfl⟩ := hb1.get
      clear hb1
      refine hKQ.out _ _ (by simp [go_sem, ↓IntWalk.iteOmega, *]) (fun hHeld2 => ?_)
      clear hHeld hKQ KQ; have hHeld := hHeld2; clear hHeld2
      (try simp only [Act.put, pA, pZ, pS])
      refine tkH 12 ?oi313 (?v313) ?hi313 ?hy313 ?_
      case hi313 => (simp only [gA, gS, gZ]; try rfl)
      case hy313 => (refine Or.inl ⟨by rfl, ?_⟩; intro wq hSw; (try dsimp only at hSw); go_simp; (try with_reducible rfl))
      (try simp only [Act.put, pA, pZ, pS])
      refine tkH 13 ?oi314 (?v314) ?hi314 ?hy314 ?_
      case hi314 => (simp only [gA, gS, gZ]; try rfl)
      case hy314 => (refine Or.inl ⟨by rfl, ?_⟩; intro wq hSw; (try dsimp only at hSw); go_simp; (try with_reducible rfl))
      (try simp only [Act.put, pA, pZ, pS])
      refine tkH 14 ?oi315 (?v315) ?hi315 ?hy315 ?_
      case hi315 => (simp only [gA, gS, gZ]; try rfl)
      case hy315 => (refine Or.inl ⟨by rfl, ?_⟩; intro wq hSw; (try dsimp only at hSw); go_simp; (try with_reducible rfl))
      (try simp only [Act.put, pA, pZ, pS])
      refine tkH 15 ?oi316 (?v316) ?hi316 ?hy316 ?_
      case hi316 => (simp only [gA, gS, gZ]; try rfl)
      case hy316 => (refine Or.inl ⟨by rfl, ?_⟩; intro wq hSw; (try dsimp only at hSw); go_simp; (try with_reducible rfl))
      (try simp only [Act.put, pA, pZ, pS])
      refine wpAnyH_done (by kernel_rfl) ?_ _
      go_wp2
      go_ret2
      exact ⟨i, by omega, HLT.out, HGE.out, by rw [HFN.out]; first | rfl | (show Ending.returned (Value.tuple #[.int .i64 i, .bool (z == 0)]) = _; simp [hz]), hE0.tr (hE.tr (ex_))⟩
   ·
    have HFN : Hid (foundB l j p.kp = false) := Lib.hid (by unfold foundB; rw [List.getElem?_eq_none (by omega)])
    go_wp2_with fail
    refine wp_region_held_drew (S := (fun _ => True)) (by kernel_rfl) (by trivial) (fun hHeld => ?_)
    refine tkH 0 ?oi601 (?v601) ?hi601 ?hy601 ?_
    case hi601 => (simp only [gA, gS, gZ]; try rfl)
    case hy601 => (refine Or.inl ⟨by rfl, ?_⟩; intro wq hSw; (try dsimp only at hSw); go_simp; (try with_reducible rfl))
    (try simp only [Act.put, pA, pZ, pS])
    refine tkH 1 ?oi602 (?v602) ?hi602 ?hy602 ?_
    case hi602 => (simp only [gA, gS, gZ]; try rfl)
    case hy602 => (refine Or.inl ⟨by rfl, ?_⟩; intro wq hSw; (try dsimp only at hSw); go_simp; (try with_reducible rfl))
    (try simp only [Act.put, pA, pZ, pS])
    refine tkH 2 ?oi603 (?v603) ?hi603 ?hy603 ?_
    case hi603 => (simp only [gA, gS, gZ]; try rfl)
    case hy603 => (refine Or.inl ⟨by rfl, ?_⟩; intro wq hSw; (try dsimp only at hSw); go_simp; (try with_reducible rfl))
    (try simp only [Act.put, pA, pZ, pS])
    refine tkH 3 ?oi604 (?v604) ?hi604 ?hy604 ?_
    case hi604 => (simp only [gA, gS, gZ]; try rfl)
    case hy604 => (refine Or.inl ⟨by rfl, ?_⟩; intro wq hSw; (try dsimp only at hSw); go_simp; (try with_reducible rfl))
    (try simp only [Act.put, pA, pZ, pS])
    refine tkH 4 ?oi605 (?v605) ?hi605 ?hy605 ?_
    case hi605 => (simp only [gA, gS, gZ]; try rfl)
    case hy605 => (refine Or.inl ⟨by rfl, ?_⟩; intro wq hSw; (try dsimp only at hSw); go_simp; (try with_reducible rfl))
    (try simp only [Act.put, pA, pZ, pS])
    refine tkH 5 ?oi606 (undef) ?hi606 ?hy606 ?_
    case hi606 => (simp only [gA, gS, gZ]; try rfl)
    case hy606 => exact Or.inr ⟨by rfl, rfl⟩
    (try simp only [Act.put, pA, pZ, pS])
    refine tkH 6 ?oi607 (undef) ?hi607 ?hy607 ?_
    case hi607 => (simp only [gA, gS, gZ]; try rfl)
    case hy607 => exact Or.inr ⟨by rfl, rfl⟩
    (try simp only [Act.put, pA, pZ, pS])
    refine tkH 7 ?oi608 (undef) ?hi608 ?hy608 ?_
    case hi608 => (simp only [gA, gS, gZ]; try rfl)
    case hy608 => exact Or.inr ⟨by rfl, rfl⟩
    (try simp only [Act.put, pA, pZ, pS])
    refine tkH 8 ?oi609 (undef) ?hi609 ?hy609 ?_
    case hi609 => (simp only [gA, gS, gZ]; try rfl)
    case hy609 => exact Or.inr ⟨by rfl, rfl⟩
    (try simp only [Act.put, pA, pZ, pS])
    refine tkH 9 ?oi610 (undef) ?hi610 ?hy610 ?_
    case hi610 => (simp only [gA, gS, gZ]; try rfl)
    case hy610 => exact Or.inr ⟨by rfl, rfl⟩
    (try simp only [Act.put, pA, pZ, pS])
    refine tkH 10 ?oi611 (undef) ?hi611 ?hy611 ?_
    case hi611 => (simp only [gA, gS, gZ]; try rfl)
    case hy611 => exact Or.inr ⟨by rfl, rfl⟩
    (try simp only [Act.put, pA, pZ, pS])
    refine tkH 11 ?oi612 (undef) ?hi612 ?hy612 ?_
    case hi612 => (simp only [gA, gS, gZ]; try rfl)
    case hy612 => exact Or.inr ⟨by rfl, rfl⟩
    (try simp only [Act.put, pA, pZ, pS])
    refine tkH 12 ?oi613 (undef) ?hi613 ?hy613 ?_
    case hi613 => (simp only [gA, gS, gZ]; try rfl)
    case hy613 => exact Or.inr ⟨by rfl, rfl⟩
    (try simp only [Act.put, pA, pZ, pS])
    refine tkH 13 ?oi614 (?v614) ?hi614 ?hy614 ?_
    case hi614 => (simp only [gA, gS, gZ]; try rfl)
    case hy614 => (refine Or.inl ⟨by rfl, ?_⟩; intro wq hSw; (try dsimp only at hSw); go_simp; (try with_reducible rfl))
    (try simp only [Act.put, pA, pZ, pS])
    refine tkH 14 ?oi615 (?v615) ?hi615 ?hy615 ?_
    case hi615 => (simp only [gA, gS, gZ]; try rfl)
    case hy615 => (refine Or.inl ⟨by rfl, ?_⟩; intro wq hSw; (try dsimp only at hSw); go_simp; (try with_reducible rfl))
    (try simp only [Act.put, pA, pZ, pS])
    refine tkH 15 ?oi616 (?v616) ?hi616 ?hy616 ?_
    case hi616 => (simp only [gA, gS, gZ]; try rfl)
    case hy616 => (refine Or.inl ⟨by rfl, ?_⟩; intro wq hSw; (try dsimp only at hSw); go_simp; (try with_reducible rfl))
    (try simp only [Act.put, pA, pZ, pS])
    refine wpAnyH_done (by kernel_rfl) ?_ _
    go_wp2
    go_ret2
    exact ⟨j, hj, HLT.out, HGE.out, by rw [HFN.out]; rfl, hE0.tr (hE.tr (ex_))⟩

theorem NodeOk.cells {base : Nat} {w : World} {t : MT} (h : NodeOk base w t) : t.r < w.heap.size ∧ w.cell? ⟨t.r, 0, none⟩ = some t.vp ∧ w.cell? ⟨t.r, 1, none⟩ = some t.vk ∧ ∀ o, w.frozen? ⟨t.r, o, none⟩ = false := by
 refine ⟨(Array.getElem?_eq_some_iff.1 h.hp).1, ?_, ?_, fun o => ?_⟩
 ·
  simp [World.cell?, h.hp]
 ·
  simp [World.cell?, h.hp]
 ·
  simp [World.frozen?, h.hp]
theorem own_form2 {w : World} {base : Nat} {e : TypeId} {size n : Nat} {v : Value} {xs : List Value} (h : w.ownsRow base e size v n xs) : ∃ A c, v = .slice A n c ∧ n ≤ c ∧ c ≤ maxLen ∧ (A = none → n = 0 ∧ c = 0) := by
 rcases own_forms h with ⟨rfl, rfl, rfl⟩ | ⟨g, cap, cur, rfl, hB, hnc, _⟩
 ·
  exact ⟨none, 0, rfl, Nat.le_refl _, Nat.zero_le _, fun _ => ⟨rfl, rfl⟩⟩
 ·
  exact ⟨_, _, rfl, hnc, hB.hm, fun h => by cases h⟩
set_option maxRecDepth 100000 in
set_option maxHeartbeats 8000000 in
theorem find_anyB (base : Nat) (t : MT) (p : MP) (w : World) (hN : NodeOk base w t) (hl : t.ps.length ≤ 1048576) (hs : SrtB t.ps) (hk : ∀ q ∈ t.ps, KR w q) (hp : KR w p) :
  Calls Tryz.prog 86 #[pt t.r, pv p] w fun e w' => ∃ i : Nat, i ≤ t.ps.length ∧ (∀ q ∈ t.ps.take i, ltP q.kp p.kp) ∧ (∀ q ∈ t.ps.drop i, ¬ ltP q.kp p.kp) ∧ e = .returned (.tuple #[.int .i64 i, .bool (foundB t.ps i p.kp)]) ∧ Ext w w' := by
 obtain ⟨hr, n0, _, _⟩ := hN.cells
 obtain ⟨A, c, hv, _, _, _⟩ := own_form2 hN.op
 rw [hv] at n0
 have hop := hN.op
 rw [hv] at hop
 have hR := Rd.of_own hop
 have HB : Hid (∀ W, Ext w W → Calls Tryz.prog 117 #[.slice A t.ps.length c, pv p, .func (.func 118) #[] #[]] W fun e w' => ∃ i : Nat, i ≤ t.ps.length ∧ (∀ q ∈ t.ps.take i, ltP q.kp p.kp) ∧ (∀ q ∈ t.ps.drop i, ¬ ltP q.kp p.kp) ∧ e = .returned (.tuple #[.int .i64 i, .bool (foundB t.ps i p.kp)]) ∧ Ext W w') := Lib.hid (fun W hE => bs_any A c t.ps p W (hR.ext hE) hl hs (fun q hq => (hk q hq).ext hE) (hp.ext hE))
 clear hN hs hk hp hop hR hv
 go_enter Tryz.func86, Tryz.ntmps86
 go_wp2_with fail
 have hE0 : Ext w (w.alloc (.cells #[.slice p.A p.n p.c, .int .i64 p.id] TP)) := (ex_)
 have hbs : w.heap.size < (w.alloc (.cells #[.slice p.A p.n p.c, .int .i64 p.id] TP)).heap.size := by simp
 have z0 : (w.alloc (.cells #[.slice p.A p.n p.c, .int .i64 p.id] TP)).cell? ⟨w.heap.size, 0, none⟩ = some (.slice p.A p.n p.c) := by simp [go_sem, ↓IntWalk.iteOmega]
 have z1 : (w.alloc (.cells #[.slice p.A p.n p.c, .int .i64 p.id] TP)).cell? ⟨w.heap.size, 1, none⟩ = some (.int .i64 p.id) := by simp [go_sem, ↓IntWalk.iteOmega]
 have n0 := hE0.cell' n0
 have hr := Nat.lt_of_lt_of_le hr hE0.size
 generalize w.alloc (.cells #[.slice p.A p.n p.c, .int .i64 p.id] TP) = Wb at hE0 hbs z0 z1 n0 hr ⊢
 generalize w.heap.size = bx at hbs z0 z1 ⊢
 refine wp_region_held_drew (S := (fun w' => w'.cell? ⟨t.r, 0, none⟩ = some (.slice A t.ps.length c) ∧ w'.cell? ⟨bx, 0, none⟩ = some (.slice p.A p.n p.c) ∧ w'.cell? ⟨bx, 1, none⟩ = some (.int .i64 p.id))) (by kernel_rfl) (by simp [go_sem, ↓IntWalk.iteOmega, *]) (fun hHeld => ?_)
 refine tkH 0 ?oi1 (?v1) ?hi1 ?hy1 ?_
 case hi1 => (simp only [gA, gS, gZ]; try rfl)
 case hy1 => (refine Or.inl ⟨by rfl, ?_⟩; intro wq hSw; (try dsimp only at hSw); go_simp; (try with_reducible rfl))
 (try simp only [Act.put, pA, pZ, pS])
 refine tkH 1 ?oi2 (?v2) ?hi2 ?hy2 ?_
 case hi2 => (simp only [gA, gS, gZ]; try rfl)
 case hy2 => (refine Or.inl ⟨by rfl, ?_⟩; intro wq hSw; (try dsimp only at hSw); go_simp; (try with_reducible rfl))
 (try simp only [Act.put, pA, pZ, pS])
 refine tkH 2 ?oi3 (?v3) ?hi3 ?hy3 ?_
 case hi3 => (simp only [gA, gS, gZ]; try rfl)
 case hy3 => (refine Or.inl ⟨by rfl, ?_⟩; intro wq hSw; (try dsimp only at hSw); go_simp; (try with_reducible rfl))
 (try simp only [Act.put, pA, pZ, pS])
 refine tkH 3 ?oi4 (?v4) ?hi4 ?hy4 ?_
 case hi4 => (simp only [gA, gS, gZ]; try rfl)
 case hy4 => (refine Or.inl ⟨by rfl, ?_⟩; intro wq hSw; (try dsimp only at hSw); go_simp; (try with_reducible rfl))
 (try simp only [Act.put, pA, pZ, pS])
 refine tkH 4 ?oi5 (?v5) ?hi5 ?hy5 ?_
 case hi5 => (simp only [gA, gS, gZ]; try rfl)
 case hy5 => (refine Or.inl ⟨by rfl, ?_⟩; intro wq hSw; (try dsimp only at hSw); go_simp; (try with_reducible rfl))
 (try simp only [Act.put, pA, pZ, pS])
 refine wpAnyH_ready (rs := [5]) (by kernel_rfl) (by simp) ?_
 refine AllReadyH.cons (o := ?oi6) ?hi6 ?ti6 AllReadyH.nil
 case hi6 => (simp only [gA, gS, gZ]; try rfl)
 case ti6 =>
  intro KQ hKQ
  go_simp
  go_at_call 117
  refine Calls.mono (HB.out _ (ex_)) ?_
  rintro e w1 ⟨i, hi, hlt, hge, rfl, hb1⟩
  obtain ⟨x1, rfl⟩ := hb1.get
  clear hb1
  refine hKQ.out _ _ (by simp [go_sem, ↓IntWalk.iteOmega, *]) (fun hHeld2 => ?_)
  clear hHeld hKQ KQ; have hHeld := hHeld2; clear hHeld2
  (try simp only [Act.put, pA, pZ, pS])
  refine tkH 6 ?oi7 (?v7) ?hi7 ?hy7 ?_
  case hi7 => (simp only [gA, gS, gZ]; try rfl)
  case hy7 => (refine Or.inl ⟨by rfl, ?_⟩; intro wq hSw; (try dsimp only at hSw); go_simp; (try with_reducible rfl))
  (try simp only [Act.put, pA, pZ, pS])
  refine tkH 7 ?oi8 (?v8) ?hi8 ?hy8 ?_
  case hi8 => (simp only [gA, gS, gZ]; try rfl)
  case hy8 => (refine Or.inl ⟨by rfl, ?_⟩; intro wq hSw; (try dsimp only at hSw); go_simp; (try with_reducible rfl))
  (try simp only [Act.put, pA, pZ, pS])
  refine tkH 8 ?oi9 (?v9) ?hi9 ?hy9 ?_
  case hi9 => (simp only [gA, gS, gZ]; try rfl)
  case hy9 => (refine Or.inl ⟨by rfl, ?_⟩; intro wq hSw; (try dsimp only at hSw); go_simp; (try with_reducible rfl))
  (try simp only [Act.put, pA, pZ, pS])
  refine tkH 9 ?oi10 (?v10) ?hi10 ?hy10 ?_
  case hi10 => (simp only [gA, gS, gZ]; try rfl)
  case hy10 => (refine Or.inl ⟨by rfl, ?_⟩; intro wq hSw; (try dsimp only at hSw); go_simp; (try with_reducible rfl))
  (try simp only [Act.put, pA, pZ, pS])
  refine wpAnyH_done (by kernel_rfl) ?_ _
  go_wp2
  go_ret2
  exact ⟨i, hi, hlt, hge, rfl, hE0.tr (ex_)⟩

end Go.Proofs.YtdiaecgpjgdkdaaGreat

namespace Go.Proofs.YtdiaecgpjgdkdaaGreat
open Go.RowKit

theorem Ext.at {W W' : World} (e : Ext W W') {b : Nat} {o : Obj} (h : W.heap[b]? = some o) : W'.heap[b]? = some o := (e.block b (Array.getElem?_eq_some_iff.1 h).1).trans h
theorem set_other {W : World} {b o k : Nat} {u : Value} (h : k ≠ b) : (W.setCell ⟨b, o, none⟩ u).heap[k]? = W.heap[k]? := Below.heap_setCell _ _ _ k (by simpa using h)
theorem set_size (W : World) (b o : Nat) (u : Value) : (W.setCell ⟨b, o, none⟩ u).heap.size = W.heap.size := by show (W.heap.modify b _).size = _; rw [Array.size_modify]
theorem two_cells {W : World} {b : Nat} {x y : Value} {t : TypeId} (h : W.heap[b]? = some (.cells #[x, y] t (0, 0))) : b < W.heap.size ∧ W.cell? ⟨b, 0, none⟩ = some x ∧ W.cell? ⟨b, 1, none⟩ = some y ∧ W.frozen? ⟨b, 0, none⟩ = false ∧ W.frozen? ⟨b, 1, none⟩ = false := by
 refine ⟨(Array.getElem?_eq_some_iff.1 h).1, ?_, ?_, ?_, ?_⟩ <;> simp [World.cell?, World.frozen?, h]
theorem ownsRow_extB {w w' : World} {base : Nat} {e : TypeId} {size n : Nat} {v : Value} {xs : List Value} (h : w.ownsRow base e size v n xs) (x : Ext w w') : w'.ownsRow base e size v n xs := ownsRow_same h fun g hg => x.block g (h.lt g hg).2
structure Rw where
 v : Value
 e : TypeId
 k : Nat
 n : Nat
 xs : List Value
structure Bk where
 b : Nat
 c : Array Value
 t : TypeId
def blks (N : List Bk) (L : List Rw) : List Nat := N.map Bk.b ++ L.flatMap fun r => ob r.v
structure Hp (base : Nat) (S : List Nat) (w W : World) (N : List Bk) (L : List Rw) : Prop where
 hb : base ≤ w.heap.size
 mu : Mut base S w W
 nod : ∀ x ∈ N, base ≤ x.b ∧ W.heap[x.b]? = some (.cells x.c x.t (0, 0))
 row : ∀ r ∈ L, W.ownsRow base r.e r.k r.v r.n r.xs
 dis : (blks N L).Nodup
 new : ∀ b ∈ blks N L, b ∈ S ∨ w.heap.size ≤ b
theorem Mut.step {base : Nat} {S T : List Nat} {w W W' : World} (h : Mut base S w W) (h1 : W'.os = W.os) (h2 : W'.tape = W.tape) (h3 : W'.output = W.output) (h4 : W.heap.size ≤ W'.heap.size) (hs : ∀ b, b < W.heap.size → b ∉ T → W'.heap[b]? = W.heap[b]?) (ht : ∀ b ∈ T, b ∈ S ∨ w.heap.size ≤ b) : Mut base S w W' :=
 ⟨h1.trans h.os, h2.trans h.tape, h3.trans h.output, Nat.le_trans h.size h4, fun b hb hn => (hs b (Nat.lt_of_lt_of_le hb h.size) (fun e => (ht b e).elim hn fun e => by omega)).trans (h.same b hb hn), h.old, h.typ⟩
theorem Mut.start {base : Nat} {S : List Nat} {w : World} (h1 : ∀ b ∈ S, b < w.heap.size → base ≤ b) (h2 : ∀ b ∈ S, ∀ c ty f, w.heap[b]? = some (.cells c ty f) → TreeT ty) : Mut base S w w :=
 ⟨rfl, rfl, rfl, Nat.le_refl _, fun _ _ _ => rfl, h1, h2⟩
theorem nodup_mid {α : Type} {a : α} {x y : List α} : (x ++ a :: y).Nodup ↔ (a :: (x ++ y)).Nodup := (List.perm_middle (a := a) (l₁ := x) (l₂ := y)).nodup_iff
theorem mem_blks {N : List Bk} {L : List Rw} {b : Nat} : b ∈ blks N L ↔ (∃ x ∈ N, x.b = b) ∨ ∃ r ∈ L, r.v.ownBlock = some b := by
 simp only [blks, List.mem_append, List.mem_map, List.mem_flatMap, ob_mem]
section
variable {base : Nat} {S : List Nat} {w W W' : World} {N : List Bk} {L : List Rw}
theorem Hp.lt (h : Hp base S w W N L) : ∀ b ∈ blks N L, base ≤ b ∧ b < W.heap.size := by
 intro b hb
 rcases mem_blks.1 hb with ⟨x, hx, rfl⟩ | ⟨r, hr, hg⟩
 ·
  exact ⟨(h.nod x hx).1, (Array.getElem?_eq_some_iff.1 (h.nod x hx).2).1⟩
 ·
  exact (h.row r hr).lt b hg
theorem Hp.ext (h : Hp base S w W N L) (e : Ext W W') : Hp base S w W' N L :=
 ⟨h.hb, h.mu.step (T := []) e.os e.tape e.output e.size (fun b hb _ => e.block b hb) (by simp), fun x hx => ⟨(h.nod x hx).1, e.at (h.nod x hx).2⟩, fun r hr => ownsRow_extB (h.row r hr) e, h.dis, h.new⟩
theorem split_at {α : Type} {l : List α} {i : Nat} {x : α} (h : l[i]? = some x) : ∃ A B, l = A ++ x :: B ∧ ∀ y, l.set i y = A ++ y :: B := by
 obtain ⟨hi, rfl⟩ := List.getElem?_eq_some_iff.1 h
 exact ⟨l.take i, l.drop (i + 1), by rw [List.getElem_cons_drop, List.take_append_drop], fun y => by rw [List.set_eq_take_append_cons_drop, if_pos hi]⟩
theorem Hp.set (h : Hp base S w W N L) (i : Nat) {b : Nat} {c : Array Value} {t : TypeId} (hi : N[i]? = some ⟨b, c, t⟩) (o : Nat) (u : Value) : Hp base S w (W.setCell ⟨b, o, none⟩ u) (N.set i ⟨b, c.setIfInBounds o u, t⟩) L := by
 obtain ⟨A, B, hN, hs⟩ := split_at hi
 rw [hs]
 subst hN
 have hd := h.dis
 have hne : ∀ k ∈ blks (A ++ B) L, k ≠ b := by
  intro k hk e
  subst e
  unfold blks at hd hk
  simp only [List.map_append, List.map_cons, List.append_assoc, List.cons_append] at hd hk
  have := (nodup_mid (a := k)).1 hd
  exact (List.nodup_cons.1 this).1 (by simpa using hk)
 refine ⟨h.hb, h.mu.step (T := [b]) rfl rfl rfl (by rw [set_size]; exact Nat.le_refl _) (fun k _ hk => set_other (by simpa using hk)) (fun k hk => by
  simp only [List.mem_singleton] at hk
  subst hk
  exact h.new _ (mem_blks.2 (.inl ⟨⟨_, c, t⟩, by simp, rfl⟩))), fun x hx => ?_, fun r hr => ownsRow_same (h.row r hr) fun g hg => set_other (hne g (mem_blks.2 (.inr ⟨r, hr, hg⟩))), ?_, ?_⟩
 ·
  have hb := h.nod ⟨b, c, t⟩ (by simp)
  rcases List.mem_append.1 hx with hx | hx
  ·
   refine ⟨(h.nod x (by simp [hx])).1, (set_other (hne x.b (mem_blks.2 (.inl ⟨x, by simp [hx], rfl⟩)))).trans (h.nod x (by simp [hx])).2⟩
  ·
   rcases List.mem_cons.1 hx with rfl | hx
   ·
    exact ⟨hb.1, set_heap hb.2 o u⟩
   ·
    refine ⟨(h.nod x (by simp [hx])).1, (set_other (hne x.b (mem_blks.2 (.inl ⟨x, by simp [hx], rfl⟩)))).trans (h.nod x (by simp [hx])).2⟩
 ·
  simpa [blks] using hd
 ·
  simpa [blks] using h.new
theorem Hp.grow (h : Hp base S w W N L) (j : Nat) {r : Rw} (hj : L[j]? = some r) {v' : Value} {n' : Nat} {xs' : List Value} (hg : W.grownBy W' r.v.ownBlock) (ho : W'.ownsRow base r.e r.k v' n' xs') (hn : ∀ q, v'.ownBlock = some q → r.v.ownBlock = some q ∨ W.heap.size ≤ q) : Hp base S w W' N (L.set j ⟨v', r.e, r.k, n', xs'⟩) := by
 obtain ⟨A, B, hL, hs⟩ := split_at hj
 rw [hs]
 subst hL
 have hd := h.dis
 have hlt := h.lt
 have hne : ∀ k ∈ blks N (A ++ B), r.v.ownBlock ≠ some k := by
  intro k hk e
  have hk2 : k ∈ ob r.v := ob_mem.2 e
  unfold blks at hd hk
  simp only [List.flatMap_append, List.flatMap_cons, ← List.append_assoc] at hd hk
  have h1 := List.nodup_append.1 hd
  have h2 := List.nodup_append.1 h1.1
  rcases List.mem_append.1 hk with hk | hk
  ·
   exact h2.2.2 k hk k hk2 rfl
  ·
   exact h1.2.2 k (List.mem_append_right _ hk2) k hk rfl
 have hsub : ∀ k ∈ blks N (A ++ B), k ∈ blks N (A ++ r :: B) := fun k hk => by
  rcases mem_blks.1 hk with h1 | ⟨x, hx, e⟩
  ·
   exact mem_blks.2 (.inl h1)
  ·
   exact mem_blks.2 (.inr ⟨x, by rcases List.mem_append.1 hx with hx | hx <;> simp [hx], e⟩)
 have hsame : ∀ k ∈ blks N (A ++ B), W'.heap[k]? = W.heap[k]? := fun k hk => hg.block k (hlt k (hsub k hk)).2 (fun e => hne k hk e.symm)
 refine ⟨h.hb, h.mu.step (T := ob r.v) hg.os hg.tape hg.output hg.size (fun k hk hn => hg.block k hk (fun e => hn (ob_mem.2 e.symm))) (fun k hk => h.new k (mem_blks.2 (.inr ⟨r, by simp, ob_mem.1 hk⟩))), fun x hx => ⟨(h.nod x hx).1, (hsame x.b (mem_blks.2 (.inl ⟨x, hx, rfl⟩))).trans (h.nod x hx).2⟩, fun x hx => ?_, ?_, ?_⟩
 ·
  rcases List.mem_append.1 hx with hx | hx
  ·
   exact ownsRow_same (h.row x (by simp [hx])) fun g hg => hsame g (mem_blks.2 (.inr ⟨x, by simp [hx], hg⟩))
  ·
   rcases List.mem_cons.1 hx with rfl | hx
   ·
    exact ho
   ·
    exact ownsRow_same (h.row x (by simp [hx])) fun g hg => hsame g (mem_blks.2 (.inr ⟨x, by simp [hx], hg⟩))
 ·
  have hq : ∀ k ∈ ob v', k ∉ blks N (A ++ B) := fun k hk e => by
   rcases hn k (ob_mem.1 hk) with h1 | h1
   ·
    exact hne k e h1
   ·
    have := (hlt k (hsub k e)).2; omega
  have hv : (ob v').Nodup := by unfold ob; split <;> simp
  unfold blks at hd hq ⊢
  simp only [List.flatMap_append, List.flatMap_cons, List.nodup_append, List.mem_append, List.mem_map, List.mem_flatMap] at hd hq ⊢
  grind
 ·
  intro k hk
  rcases mem_blks.1 hk with ⟨x, hx, rfl⟩ | ⟨x, hx, e⟩
  ·
   exact h.new _ (mem_blks.2 (.inl ⟨x, hx, rfl⟩))
  ·
   rcases List.mem_append.1 hx with hx | hx
   ·
    exact h.new _ (mem_blks.2 (.inr ⟨x, by simp [hx], e⟩))
   ·
    rcases List.mem_cons.1 hx with rfl | hx
    ·
     rcases hn k e with h1 | h1
     ·
      exact h.new k (mem_blks.2 (.inr ⟨r, by simp, h1⟩))
     ·
      exact .inr (Nat.le_trans h.mu.size h1)
    ·
     exact h.new _ (mem_blks.2 (.inr ⟨x, by simp [hx], e⟩))
theorem Hp.bs (h : Hp base S w W N L) : base ≤ W.heap.size := Nat.le_trans h.hb h.mu.size
theorem Hp.addRow (h : Hp base S w W N L) (e : Ext W W') {ty : TypeId} {k n : Nat} {v : Value} {xs : List Value} (ho : W'.ownsRow W.heap.size ty k v n xs) : Hp base S w W' N (L ++ [⟨v, ty, k, n, xs⟩]) := by
 have h' := h.ext e
 have hlt := h.lt
 have hb := h.bs
 refine ⟨h'.hb, h'.mu, h'.nod, fun r hr => ?_, ?_, fun b hb' => ?_⟩
 ·
  rcases List.mem_append.1 hr with hr | hr
  ·
   exact h'.row r hr
  ·
   simp only [List.mem_singleton] at hr
   subst hr
   exact own_mono ho hb
 ·
  have : blks N (L ++ [⟨v, ty, k, n, xs⟩]) = blks N L ++ ob v := by simp [blks]
  rw [this, List.nodup_append]
  refine ⟨h.dis, by unfold ob; split <;> simp, fun a ha b hb' e => ?_⟩
  subst e
  have := (hlt a ha).2
  have := (ho.lt a (ob_mem.1 hb')).1
  omega
 ·
  have : blks N (L ++ [⟨v, ty, k, n, xs⟩]) = blks N L ++ ob v := by simp [blks]
  rw [this] at hb'
  rcases List.mem_append.1 hb' with hb' | hb'
  ·
   exact h.new b hb'
  ·
   have := (ho.lt b (ob_mem.1 hb')).1
   have := h.mu.size
   exact .inr (by omega)
theorem Hp.addBk (h : Hp base S w W N L) (e : Ext W W') {b : Nat} {c : Array Value} {t : TypeId} (hn : W.heap.size ≤ b) (ho : W'.heap[b]? = some (.cells c t (0, 0))) : Hp base S w W' (N ++ [⟨b, c, t⟩]) L := by
 have h' := h.ext e
 have hlt := h.lt
 have hb := h.bs
 refine ⟨h'.hb, h'.mu, fun x hx => ?_, h'.row, ?_, fun k hk => ?_⟩
 ·
  rcases List.mem_append.1 hx with hx | hx
  ·
   exact h'.nod x hx
  ·
   simp only [List.mem_singleton] at hx
   subst hx
   exact ⟨Nat.le_trans hb hn, ho⟩
 ·
  have hq : b ∉ blks N L := fun e => by have := (hlt b e).2; omega
  have hd := h.dis
  unfold blks at hd hq ⊢
  simp only [List.map_append, List.map_cons, List.map_nil, List.append_assoc, List.cons_append, List.nil_append]
  rw [nodup_mid, List.nodup_cons]
  exact ⟨hq, hd⟩
 ·
  rcases mem_blks.1 hk with ⟨x, hx, rfl⟩ | h1
  ·
   rcases List.mem_append.1 hx with hx | hx
   ·
    exact h.new _ (mem_blks.2 (.inl ⟨x, hx, rfl⟩))
   ·
    simp only [List.mem_singleton] at hx
    subst hx
    exact .inr (Nat.le_trans h.mu.size hn)
  ·
   exact h.new k (mem_blks.2 (.inr h1))
theorem sub_fm {α β : Type} {f : α → List β} {a b : List α} (h : a.Sublist b) : (a.flatMap f).Sublist (b.flatMap f) := by
 induction h with
 | slnil => exact .slnil
 | cons x _ ih => exact ih.trans (List.sublist_append_right _ _)
 | cons_cons x _ ih => exact (List.Sublist.refl _).append ih
theorem Hp.sub (h : Hp base S w W N L) {N' : List Bk} {L' : List Rw} (hN : N'.Sublist N) (hL : L'.Sublist L) : Hp base S w W N' L' := by
 have hs : (blks N' L').Sublist (blks N L) := (hN.map _).append (sub_fm hL)
 exact ⟨h.hb, h.mu, fun x hx => h.nod x (hN.subset hx), fun r hr => h.row r (hL.subset hr), h.dis.sublist hs, fun b hb => h.new b (hs.subset hb)⟩
theorem Hp.perm (h : Hp base S w W N L) {N' : List Bk} {L' : List Rw} (hN : N'.Perm N) (hL : L'.Perm L) : Hp base S w W N' L' := by
 have hs : (blks N' L').Perm (blks N L) := (hN.map _).append (hL.flatMap_right _)
 exact ⟨h.hb, h.mu, fun x hx => h.nod x (hN.subset hx), fun r hr => h.row r (hL.subset hr), hs.nodup_iff.2 h.dis, fun b hb => h.new b (hs.subset hb)⟩
theorem Hp.at (h : Hp base S w W N L) (i : Nat) {x : Bk} (hi : N[i]? = some x) : W.heap[x.b]? = some (.cells x.c x.t (0, 0)) := (h.nod x (List.mem_of_getElem? hi)).2
theorem Hp.own (h : Hp base S w W N L) (j : Nat) {r : Rw} (hj : L[j]? = some r) : W.ownsRow base r.e r.k r.v r.n r.xs := h.row r (List.mem_of_getElem? hj)
theorem Hp.two (h : Hp base S w W N L) (i : Nat) {b : Nat} {x y : Value} {t : TypeId} (hi : N[i]? = some ⟨b, #[x, y], t⟩) : b < W.heap.size ∧ W.cell? ⟨b, 0, none⟩ = some x ∧ W.cell? ⟨b, 1, none⟩ = some y ∧ W.frozen? ⟨b, 0, none⟩ = false ∧ W.frozen? ⟨b, 1, none⟩ = false := two_cells (h.at i hi)
theorem Hp.node (h : Hp base S w W N L) (i j k : Nat) {b : Nat} {vp vk : Value} {ps : List MP} {ks : List MT} (hi : N[i]? = some ⟨b, #[vp, vk], TN⟩) (hj : L[j]? = some ⟨vp, TP, 2, ps.length, mpl ps⟩) (hk : L[k]? = some ⟨vk, TQ, 1, ks.length, ptl (ks.map MT.r)⟩) : NodeOk base W (.nd b vp vk ps ks) :=
 ⟨(h.nod _ (List.mem_of_getElem? hi)).1, h.at i hi, h.own j hj, h.own k hk⟩
theorem Hp.al (h : Hp base S w W N L) {b : Nat} {c : Array Value} {t : TypeId} (hb : b = W.heap.size) : Hp base S w (W.alloc (.cells c t)) (N ++ [⟨b, c, t⟩]) L := by
 subst hb
 exact h.addBk (Ext.al1 _ _) (Nat.le_refl _) (heap_alloc_new _ _)
theorem Hp.start (hbw : base ≤ w.heap.size) (hS : Mut base S w w) (hn : ∀ x ∈ N, base ≤ x.b ∧ w.heap[x.b]? = some (.cells x.c x.t (0, 0))) (hr : ∀ r ∈ L, w.ownsRow base r.e r.k r.v r.n r.xs) (hd : (blks N L).Nodup) (hs : ∀ b ∈ blks N L, b ∈ S) : Hp base S w w N L :=
 ⟨hbw, hS, hn, hr, hd, fun b hb => .inl (hs b hb)⟩
end
abbrev bkOf (t : MT) : Bk := ⟨t.r, #[t.vp, t.vk], TN⟩
abbrev rpOf (t : MT) : Rw := ⟨t.vp, TP, 2, t.ps.length, mpl t.ps⟩
abbrev rkOf (t : MT) : Rw := ⟨t.vk, TQ, 1, t.ks.length, ptl (t.ks.map MT.r)⟩
theorem fmd {α : Type} {enc : α → List Value} {k : Nat} (h : ∀ a, (enc a).length = k) : ∀ (l : List α) (i : Nat), (l.flatMap enc).drop (i * k) = (l.drop i).flatMap enc
 | l, 0 => by simp
 | [], i + 1 => by simp
 | a :: l, i + 1 => by
  rw [List.flatMap_cons, List.drop_append, h, Nat.add_mul, Nat.one_mul, List.drop_eq_nil_of_le (by rw [h]; omega), List.nil_append, Nat.add_sub_cancel, fmd h l i]
  rfl
theorem fmt {α : Type} {enc : α → List Value} {k : Nat} (h : ∀ a, (enc a).length = k) : ∀ (l : List α) (i : Nat), (l.flatMap enc).take (i * k) = (l.take i).flatMap enc
 | l, 0 => by simp
 | [], i + 1 => by simp
 | a :: l, i + 1 => by
  rw [List.flatMap_cons, List.take_append, h, Nat.add_mul, Nat.one_mul, List.take_of_length_le (by rw [h]; omega), Nat.add_sub_cancel, fmt h l i]
  rfl
theorem mpl_drop (l : List MP) (i : Nat) : (mpl l).drop (i * 2) = mpl (l.drop i) := fmd (enc := mp2) (k := 2) (fun _ => rfl) l i
theorem mpl_take (l : List MP) (i : Nat) : (mpl l).take (i * 2) = mpl (l.take i) := fmt (enc := mp2) (k := 2) (fun _ => rfl) l i
theorem ptl_drop (l : List MT) (i : Nat) : (ptl (l.map MT.r)).drop i = ptl ((l.drop i).map MT.r) := by simp [ptl]
theorem ptl_take (l : List MT) (i : Nat) : (ptl (l.map MT.r)).take i = ptl ((l.take i).map MT.r) := by simp [ptl]
theorem Rd.headP {w : World} {b o n : Nat} {xs : List Value} {sz : Nat} (h : Rd w sz (some ⟨b, o, none⟩) n xs) (k : Nat) (hk : k ≤ n) : Rd w sz (some ⟨b, o, none⟩) k (xs.take (k * sz)) := by
 have h1 := Nat.mul_le_mul_right sz hk
 have hl := h.1
 refine ⟨by rw [List.length_take]; omega, fun h0 => ?_⟩
 obtain ⟨b', o', he, hb, hc⟩ := h.2 (by omega)
 refine ⟨b', o', he, hb, fun j u hu => hc j u ?_⟩
 rw [List.getElem?_take] at hu
 split at hu
 ·
  exact hu
 ·
  cases hu
theorem Rd.restP {w : World} {b o n : Nat} {xs : List Value} {sz : Nat} (h : Rd w sz (some ⟨b, o, none⟩) n xs) (k : Nat) (hk : k ≤ n) : Rd w sz (some ⟨b, o + k * sz, none⟩) (n - k) (xs.drop (k * sz)) := by
 have h1 := Nat.mul_le_mul_right sz hk
 have hl := h.1
 have h2 : (n - k) * sz = n * sz - k * sz := Nat.sub_mul _ _ _
 refine ⟨by rw [List.length_drop]; omega, fun h0 => ?_⟩
 obtain ⟨b', o', he, hb, hc⟩ := h.2 (by omega)
 simp only [Option.some.injEq, Addr.mk.injEq, and_true] at he
 obtain ⟨rfl, rfl⟩ := he
 refine ⟨b, o + k * sz, rfl, hb, fun j u hu => ?_⟩
 rw [List.getElem?_drop] at hu
 have := hc (k * sz + j) u hu
 rwa [← Nat.add_assoc] at this
end Go.Proofs.YtdiaecgpjgdkdaaGreat
