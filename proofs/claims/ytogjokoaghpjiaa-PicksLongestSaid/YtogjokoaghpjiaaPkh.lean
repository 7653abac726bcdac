/-
  Turns in memory of their own.
-/
import Derived.Test.YtogjokoaghpjiaaPkg
import Derived.Test.YtogjokoaghpjiaaCopy
set_option linter.unusedSimpArgs false
set_option linter.unusedVariables false
namespace Go.Proofs.Ytogjokoaghpjiaa
open Go Go.RowKit
attribute [local go_sem] via_cell via_frozen

theorem Rd.grown {w w' : World} {B sz n : Nat} {A : Option Addr} {xs : List Value} {row : Option Nat} (h : Rd w B sz A n xs) (hg : w.grownBy w' row) (hne : ∀ p, A = some p → some p.block ≠ row) (hB : B ≤ w.heap.size) : Rd w' B sz A n xs :=
  ⟨h.1, fun hn => by
    obtain ⟨b, off, e, hb, hc⟩ := h.2 hn
    exact ⟨b, off, e, hb, fun j u hu => (cell_of_heap (hg.block b (by omega) (hne _ e))).trans (hc j u hu)⟩⟩
/-- Turns that were made so far: their row, and the rows of who can, lie apart. -/
structure TurnsAt (base : Nat) (w : World) (v : Value) (us : List Tm) : Prop where
  own : w.ownsRow base 37 2 v us.length (Cs encT us)
  cans : ∀ t ∈ us, Rd w w.heap.size 1 t.A t.can.length (Cs encI t.can)
  apart : ∀ t ∈ us, ∀ p, t.A = some p → some p.block ≠ v.ownBlock
theorem TurnsAt.below {base : Nat} {w w' : World} {v : Value} {us : List Tm} (h : TurnsAt base w v us) (hb : Below w.heap.size w w') : TurnsAt base w' v us :=
  ⟨own_keepB h.own hb, fun t ht => ((h.cans t ht).below hb).more hb.size, h.apart⟩
theorem TurnsAt.app {base : Nat} {w w' : World} {v v' : Value} {us : List Tm} {t : Tm} (h : TurnsAt base w v us) (hr : Rd w w.heap.size 1 t.A t.can.length (Cs encI t.can)) (hne : ∀ p, t.A = some p → some p.block ≠ v.ownBlock)
    (hlt : ∀ u ∈ us ++ [t], ∀ p, u.A = some p → p.block < w.heap.size) (ho : w'.ownsRow base 37 2 v' (us.length + 1) (Cs encT us ++ encT t)) (hg : w.grownBy w' v.ownBlock) (hv : v'.ownBlock = v.ownBlock ∨ v'.ownBlock = some w.heap.size) (hs : w.heap.size ≤ w'.heap.size) : TurnsAt base w' v' (us ++ [t]) := by
  have hap : ∀ u ∈ us ++ [t], ∀ p, u.A = some p → some p.block ≠ v.ownBlock := by
    intro u hu
    rcases List.mem_append.1 hu with h1 | h1
    · exact h.apart u h1
    · obtain rfl := List.mem_singleton.1 h1; exact hne
  have hrd : ∀ u ∈ us ++ [t], Rd w w.heap.size 1 u.A u.can.length (Cs encI u.can) := by
    intro u hu
    rcases List.mem_append.1 hu with h1 | h1
    · exact h.cans u h1
    · obtain rfl := List.mem_singleton.1 h1; exact hr
  refine ⟨by rw [List.length_append, Cs_append, Cs_one]; exact ho, fun u hu => ((hrd u hu).grown hg (hap u hu) (Nat.le_refl _)).more hs, fun u hu p hp => ?_⟩
  rcases hv with e | e
  · rw [e]; exact hap u hu p hp
  · rw [e]
    have := hlt u hu p hp
    intro h2
    injection h2 with h2
    omega
/-- What of a turn is gone through. -/
def fewT (t : Tn) : Tn := (t.1.take 10, t.2)
def fewX (l : List Tn) : List Tn := (l.take 40).map fewT
def FewAt (base : Nat) (w : World) (v : Value) (us : List Tm) (l : List Tn) : Prop := TurnsAt base w v us ∧ tns us = l.map fewT ∧ (∀ t ∈ us, t.can.length ≤ 10) ∧ (∀ t ∈ us, ∀ p, t.A = some p → p.block < w.heap.size)
def FewRes (base : Nat) (l : List Tn) (e : Ending) (w : World) : Prop := ∃ A m c us, e = .returned (.slice A m c) ∧ m ≤ c ∧ c ≤ 9223372036854775807 ∧ m ≤ 40 ∧ us.length = m ∧ FewAt base w (.slice A m c) us (l.take 40)
theorem fewX_take (l : List Tn) (k : Nat) (hk : k < l.length) : (l.take (k + 1)).map fewT = (l.take k).map fewT ++ [fewT l[k]] := by
  rw [List.take_succ_eq_append_getElem hk, List.map_append]; rfl
set_option maxHeartbeats 1000000 in
theorem few_any (A : Option Addr) (c n : Nat) (ts : List Tm) (W : World) (h : RT W W.heap.size A n ts) (hc : n ≤ c) (hcm : c ≤ 9223372036854775807) (hcap : ∀ t ∈ ts, t.can.length ≤ t.c ∧ t.c ≤ 9223372036854775807) :
    Calls Try.prog 21 #[.slice A n c] W fun e W' => FewRes W.heap.size (tns ts) e W' ∧ Below W.heap.size W W' := by
  obtain ⟨m, hm⟩ : ∃ m, min n 40 = m := ⟨_, rfl⟩
  have hmI : min (n : Int) 40 = (m : Int) := by omega
  have hm1 : m ≤ n := by omega
  have hm2 : m ≤ 40 := by omega
  have hmc : (m : Int) ≤ (c : Int) := by omega
  have hcI : (c : Int) ≤ 9223372036854775807 := by omega
  have hlI : (n : Int) ≤ 9223372036854775807 := by omega
  have H := hide h
  have HL := hide h.len
  have HCAP := hide hcap
  have HM := hide hm
  clear h hcap hm
  go_enter Try.func21, Try.ntmps21
  go_wp2_with fail
  go_loopw [3, 12] (fun sv i wr => ∃ (k : Nat) (us : List Tm) (v : Value), k ≤ m ∧ v = sv ∧ i = .int .i64 k ∧ us.length = k ∧ FewAt W.heap.size wr v us ((tns ts).take k) ∧ Below W.heap.size W wr) (fun _ i _ => m - (intOf i).toNat)
  case atStart => exact ⟨0, [], _, Nat.zero_le _, rfl, rfl, rfl, ⟨⟨World.ownsRow_nil _ _ _ _, by simp, by simp⟩, by simp [tns], by simp, by simp⟩, Below.refl _ _⟩
  case round =>
    obtain ⟨k, us, v, hk, rfl, rfl, hul, hfew, hbw⟩ := hrel
    have HF := hide hfew
    have HUL := hide hul
    have HBW := hide hbw
    clear hfew hul hbw
    by_cases hlt : k < m
    · have hlx : k < ts.length := by rw [HL.out]; omega
      obtain ⟨b, o, rfl, hb, d0, d1, hcan⟩ := (H.out.below HBW.out).at_ hlx
      have hbl : b < wr.heap.size := Nat.lt_of_lt_of_le hb HBW.out.size
      have hkm : (k : Int) < (m : Int) := by omega
      have HT := hide (show ((tns ts).take (k + 1)).map fewT = ((tns ts).take k).map fewT ++ [fewT ts[k].tn] from by
        rw [fewX_take _ _ (by rw [tns_len]; exact hlx)]; simp [tns])
      have hcp := HCAP.out _ (List.getElem_mem hlx)
      generalize ts[k] = t at *
      obtain ⟨tA, tc, tcan, tch⟩ := t
      dsimp only at *
      have HBN := hide (show Below wr.heap.size wr (wr.alloc (.cells #[.slice tA tcan.length tc, .int .i64 tch] 37)) from (Below.refl _ _).alloc (Nat.le_refl _) _)
      have HC := hide ((hcan.more HBW.out.size).below HBN.out)
      have HRN := hide (RowAt.new wr 37 #[.slice tA tcan.length tc, .int .i64 tch])
      have HFN := hide ((show TurnsAt W.heap.size _ _ us from HF.out.1.below HBN.out))
      clear hb hcan
      go_wp2_with fail
      generalize wr.alloc (.cells #[.slice tA tcan.length tc, .int .i64 tch] 37) = w5 at *
      obtain ⟨gb, hgb⟩ : ∃ gb, wr.heap.size = gb := ⟨_, rfl⟩
      rw [hgb] at HC HRN HBN hbl ⊢
      have HGB := hide hgb
      have HGS := hide (show gb ≤ w5.heap.size from by rw [← hgb]; exact HBN.out.size)
      clear hgb
      obtain ⟨j, hj⟩ : ∃ j, min tcan.length 10 = j := ⟨_, rfl⟩
      have hjI : min (tcan.length : Int) 10 = (j : Int) := by omega
      have hj1 : j ≤ tcan.length := by omega
      have hj2 : j ≤ 10 := by omega
      have hjc : (j : Int) ≤ (tc : Int) := by omega
      have htI : (tc : Int) ≤ 9223372036854775807 := by omega
      have hlenI : (tcan.length : Int) ≤ 9223372036854775807 := by omega
      have HTJ := hide (show tcan.take 10 = tcan.take j from by rw [← hj]; exact (List.take_eq_take_min).trans (by rw [Nat.min_comm]))
      have HS := hide (show (w5.drew.cell? ⟨gb, 0, none⟩ = some (.slice tA tcan.length tc) ∧ w5.drew.cell? ⟨gb, 1, none⟩ = some (.int .i64 tch)) from ⟨row20 HRN.out, row21 HRN.out⟩)
      have HK := hide (show ∀ w w' : World, (w.cell? ⟨gb, 0, none⟩ = some (.slice tA tcan.length tc) ∧ w.cell? ⟨gb, 1, none⟩ = some (.int .i64 tch)) → Below w.heap.size w w' → (w'.cell? ⟨gb, 0, none⟩ = some (.slice tA tcan.length tc) ∧ w'.cell? ⟨gb, 1, none⟩ = some (.int .i64 tch)) from fun w w' h hb => ⟨kept hb h.1, kept hb h.2⟩)
      have HNG := hide (show some gb ≠ v.ownBlock from fun e => by have := (HF.out.1.own.lt gb e.symm).2; have := HGB.out; omega)
      have HGN := hide (show ∀ (w w' : World), w.grownBy w' v.ownBlock → (w.cell? ⟨gb, 0, none⟩ = some (.slice tA tcan.length tc) ∧ w.cell? ⟨gb, 1, none⟩ = some (.int .i64 tch)) → (w'.cell? ⟨gb, 0, none⟩ = some (.slice tA tcan.length tc) ∧ w'.cell? ⟨gb, 1, none⟩ = some (.int .i64 tch)) from fun w w' hg h => by
        have hlt := fun (x : Value) (hx : w.cell? ⟨gb, 0, none⟩ = some x) => (show gb < w.heap.size from by
          rcases Nat.lt_or_ge gb w.heap.size with hlt | hge
          · exact hlt
          · unfold World.cell? at hx; simp only [] at hx; rw [Array.getElem?_eq_none hge] at hx; cases hx)
        exact ⟨(cell_of_heap (hg.block gb (hlt _ h.1) HNG.out)).trans h.1, (cell_of_heap (hg.block gb (hlt _ h.1) HNG.out)).trans h.2⟩)
      have hrt : Rd w5.drew w5.drew.heap.size 1 tA j (Cs encI (tcan.take j)) := by
        have h := (HC.out.more HGS.out).take hj1
        rw [← Cs_take encI_len] at h; exact h
      have HCL := hide (CloneI w5.drew.heap.size tA j tc _ w5.drew hrt (Nat.le_refl _) (Cs_one_cell encI_one _) (by omega))
      clear hrt hj
      go_region_held3 (fun wX => wX.cell? ⟨gb, 0, none⟩ = some (.slice tA tcan.length tc) ∧ wX.cell? ⟨gb, 1, none⟩ = some (.int .i64 tch))
        (first | exact HS.out | exact HK.out _ _ HS.out hbq | exact HK.out _ _ (HK.out _ _ HS.out hbq) ((Below.refl _ _).alloc (Nat.le_refl _) _) | exact hS5 | go_keep)
        (first
          | (go_at_call 10; with_reducible refine HCL.out.mono ?_; rintro e wq ⟨vc, rfl, hownq, hbq⟩; obtain ⟨Ac, cc, rfl, hcc, hccm⟩ := own_form2 hownq)
          | (rw [if_pos (by rfl)]; have HFQ := hide (((HFN.out.below (Below.refl _ _).drew).below hbq).below ((Below.refl _ _).alloc (Nat.le_refl _) (.cells #[.slice Ac j cc, .int .i64 tch] 37))); refine wp_app elT _ _ rfl rfl HFQ.out.own rfl (Rd.new wq #[.slice Ac j cc, .int .i64 tch] 37 2 1 rfl) (by simp [Value.oneCell']) (by have := HUL.out; omega) (by have := HBW.out.size; have := HGB.out; have := HGS.out; have := hbq.size; simp at *; omega) ?_; intro v2 wB hownB hbB hgB hvB; have hS5 := HGN.out _ _ hgB (HK.out _ _ (HK.out _ _ HS.out hbq) ((Below.refl _ _).alloc (Nat.le_refl _) _))))
      have hsz := hbq.size
      have hszA : (wq.alloc (.cells #[.slice Ac j cc, .int .i64 tch] 37)).heap.size = wq.heap.size + 1 := World.size_alloc _ _
      have hszB := hbB.size
      have hgs := HGS.out
      simp only [World.size_drew] at hsz
      have hlj : (tcan.take j).length = j := by rw [List.length_take]; omega
      have hrq : Rd (wq.alloc (.cells #[.slice Ac j cc, .int .i64 tch] 37)) (wq.alloc (.cells #[.slice Ac j cc, .int .i64 tch] 37)).heap.size 1 Ac j (Cs encI (tcan.take j)) := ((Rd.of_own hownq).alloc (Nat.le_refl _) _).more (by omega)
      have hfr := own_fresh hownq
      have hlo : ∀ p, Ac = some p → p.block < wq.heap.size := fun p hp => (hownq.lt p.block (by subst hp; rfl)).2
      have HNEW := hide (show FewAt W.heap.size wB v2 (us ++ [⟨Ac, cc, tcan.take j, tch⟩]) ((tns ts).take (k + 1)) from by
        have hold : ∀ u ∈ us ++ [(⟨Ac, cc, tcan.take j, tch⟩ : Tm)], ∀ p, u.A = some p → p.block < (wq.alloc (.cells #[.slice Ac j cc, .int .i64 tch] 37)).heap.size := by
          intro u hu p hp
          rcases List.mem_append.1 hu with h1 | h1
          · have := HF.out.2.2.2 u h1 p hp
            have := HGB.out
            omega
          · obtain rfl := List.mem_singleton.1 h1
            have := hlo p hp
            omega
        refine ⟨HFQ.out.app (by dsimp only; rw [hlj]; exact hrq) (fun p hp e => ?_) hold (by simpa [encT, hlj] using hownB) hgB hvB hszB, ?_, ?_, fun u hu p hp => Nat.lt_of_lt_of_le (hold u hu p hp) hszB⟩
        · have h1 := hfr p hp
          have h2 := (HF.out.1.own.lt _ e.symm).2
          have := HGB.out
          simp only [World.size_drew] at h1
          omega
        · rw [HT.out, ← HF.out.2.1]
          simp [tns, Tm.tn, fewT, HTJ.out]
        · intro u hu
          rcases List.mem_append.1 hu with h1 | h1
          · exact HF.out.2.2.1 u h1
          · obtain rfl := List.mem_singleton.1 h1
            show (tcan.take j).length ≤ 10
            omega)
      have HNL := hide (show (us ++ [(⟨Ac, cc, tcan.take j, tch⟩ : Tm)]).length = k + 1 from by rw [List.length_append, HUL.out]; rfl)
      have HBE := hide (show Below W.heap.size W wB from HBW.out.trans (((((HBN.out.mono (by have := HGB.out; have := HBW.out.size; omega)).trans ((Below.refl _ _).drew)).trans (hbq.mono (by have := HBW.out.size; have := HGB.out; simp only [World.size_drew]; omega))).trans ((Below.refl _ _).alloc (by have := HBW.out.size; have := HGB.out; omega) _)).trans hbB))
      clear hrq hfr hlo hownB hgB hvB hownq hbq hbB hsz hszA hszB hS5 HFQ
      go_wp2_with fail
      go_roundw
      case rel => exact ⟨k + 1, _, v2, by omega, rfl, by go_num, HNL.out, HNEW.out, HBE.out⟩
      case measure => simp [intOf]; omega
    · have HMK := hide (show (tns ts).take k = (tns ts).take 40 from by
        have : k = m := by omega
        have h1 := HM.out
        have h2 : (tns ts).length = n := by rw [tns_len, HL.out]
        rw [List.take_eq_take_min, List.take_eq_take_min (i := 40)]
        congr 1
        omega)
      obtain ⟨A', c', rfl, hc1, hc2⟩ := own_form2 HF.out.1.own
      have HFR := hide (show FewRes W.heap.size (tns ts) (.returned (.slice A' us.length c')) wr from ⟨A', us.length, c', us, rfl, hc1, hc2, by have := HUL.out; omega, rfl, by rw [← HMK.out]; exact HF.out⟩)
      go_wp2_with fail
      go_ret
      exact ⟨HFR.out, HBW.out⟩
def MadeAt (base : Nat) (w : World) (v : Value) (us : List Tm) (l : List Tn) : Prop := TurnsAt base w v us ∧ tns us = l ∧ (∀ t ∈ us, t.can.length ≤ 10) ∧ (∀ t ∈ us, ∀ p, t.A = some p → p.block < w.heap.size)
def MadeRes (base : Nat) (l : List Tn) (e : Ending) (w : World) : Prop := ∃ A m c us, e = .returned (.slice A m c) ∧ m ≤ c ∧ c ≤ 9223372036854775807 ∧ us.length = m ∧ MadeAt base w (.slice A m c) us l
def both1 (g : Int) : Tn := ([0, 1], g)
theorem MadeAt.app {base : Nat} {w w' : World} {v v' : Value} {us : List Tm} {l : List Tn} {t : Tm} (h : MadeAt base w v us l) (hr : Rd w w.heap.size 1 t.A t.can.length (Cs encI t.can)) (hne : ∀ p, t.A = some p → some p.block ≠ v.ownBlock) (hlt : ∀ p, t.A = some p → p.block < w.heap.size) (h10 : t.can.length ≤ 10)
    (ho : w'.ownsRow base 37 2 v' (us.length + 1) (Cs encT us ++ encT t)) (hg : w.grownBy w' v.ownBlock) (hv : v'.ownBlock = v.ownBlock ∨ v'.ownBlock = some w.heap.size) (hs : w.heap.size ≤ w'.heap.size) : MadeAt base w' v' (us ++ [t]) (l ++ [t.tn]) := by
  have hold : ∀ u ∈ us ++ [t], ∀ p, u.A = some p → p.block < w.heap.size := by
    intro u hu p hp
    rcases List.mem_append.1 hu with h1 | h1
    · exact h.2.2.2 u h1 p hp
    · obtain rfl := List.mem_singleton.1 h1; exact hlt p hp
  refine ⟨h.1.app hr hne hold ho hg hv hs, ?_, ?_, fun u hu p hp => Nat.lt_of_lt_of_le (hold u hu p hp) hs⟩
  · rw [← h.2.1]; simp [tns]
  · intro u hu
    rcases List.mem_append.1 hu with h1 | h1
    · exact h.2.2.1 u h1
    · obtain rfl := List.mem_singleton.1 h1; exact h10
theorem MadeAt.below {base : Nat} {w w' : World} {v : Value} {us : List Tm} {l : List Tn} (h : MadeAt base w v us l) (hb : Below w.heap.size w w') : MadeAt base w' v us l :=
  ⟨h.1.below hb, h.2.1, h.2.2.1, fun u hu p hp => Nat.lt_of_lt_of_le (h.2.2.2 u hu p hp) hb.size⟩
theorem FewAt.made {base : Nat} {w : World} {v : Value} {us : List Tm} {l : List Tn} (h : FewAt base w v us l) : MadeAt base w v us (l.map fewT) := h
theorem FewRes.made {base : Nat} {w : World} {l : List Tn} {e : Ending} (h : FewRes base l e w) : MadeRes base (fewX l) e w := by
  obtain ⟨A, m, c, us, h1, h2, h3, h4, h5, h6⟩ := h
  exact ⟨A, m, c, us, h1, h2, h3, h5, h6⟩
/-- Made turns read as turns. -/
theorem MadeAt.rt {base : Nat} {w : World} {A : Option Addr} {m c : Nat} {us : List Tm} {l : List Tn} (h : MadeAt base w (.slice A m c) us l) (hm : us.length = m) : RT w w.heap.size A m us :=
  ⟨by subst hm; exact Rd.of_own h.1.own, hm, h.1.cans⟩
theorem MadeAt.small {base : Nat} {w : World} {v : Value} {us : List Tm} {l : List Tn} (h : MadeAt base w v us l) (hl : l.length ≤ 4096) : SmallT us :=
  ⟨by rw [← tns_len, h.2.1]; exact hl, fun t ht => Nat.le_trans (h.2.2.1 t ht) (by omega)⟩
theorem fewX_len (l : List Tn) : (fewX l).length ≤ 40 := by unfold fewX; rw [List.length_map]; exact List.length_take_le _ _
set_option maxHeartbeats 1000000 in
theorem both_any (A : Option Addr) (c m : Nat) (xs : List Int) (W : World) (h : Rd W W.heap.size 1 A m (Cs encI xs)) (hx : xs.length = m) (hm : m ≤ 40) :
    Calls Try.prog 31 #[.slice A m c] W fun e W' => MadeRes W.heap.size (xs.map both1) e W' ∧ Below W.heap.size W W' := by
  have H := hide h
  have HL := hide hx
  clear h hx
  go_enter Try.func31, Try.ntmps31
  go_wp2_with fail
  go_loopw [3, 8] (fun sv i wr => ∃ (k : Nat) (us : List Tm) (v : Value), k ≤ m ∧ v = sv ∧ i = .int .i64 k ∧ us.length = k ∧ MadeAt W.heap.size wr v us ((xs.take k).map both1) ∧ Below W.heap.size W wr) (fun _ i _ => m - (intOf i).toNat)
  case atStart => exact ⟨0, [], _, Nat.zero_le _, rfl, rfl, rfl, ⟨⟨World.ownsRow_nil _ _ _ _, by simp, by simp⟩, by simp [tns], by simp, by simp⟩, Below.refl _ _⟩
  case round =>
    obtain ⟨k, us, v, hk, rfl, rfl, hul, hfew, hbw⟩ := hrel
    have HF := hide hfew
    have HUL := hide hul
    have HBW := hide hbw
    clear hfew hul hbw
    by_cases hlt : k < m
    · have hlx : k < xs.length := by rw [HL.out]; omega
      obtain ⟨b, o, rfl, hb, d0⟩ := (H.out.below HBW.out).numE HL.out hlx
      have hbl : b < wr.heap.size := Nat.lt_of_lt_of_le hb HBW.out.size
      have hkm : (k : Int) < (m : Int) := by omega
      have HT := hide (show (xs.take (k + 1)).map both1 = (xs.take k).map both1 ++ [both1 xs[k]] from by
        rw [List.take_succ_eq_append_getElem hlx, List.map_append]; rfl)
      generalize xs[k] = g at *
      have HBN := hide (show Below wr.heap.size wr ((wr.alloc (.cells #[.int .i64 0, .int .i64 1] 3)).alloc (.cells #[.slice (some ⟨wr.heap.size, 0, none⟩) 2 2, .int .i64 g] 37)) from ((Below.refl _ _).alloc (Nat.le_refl _) _).alloc (by simp) _)
      have HRQ := hide (show Rd ((wr.alloc (.cells #[.int .i64 0, .int .i64 1] 3)).alloc (.cells #[.slice (some ⟨wr.heap.size, 0, none⟩) 2 2, .int .i64 g] 37)) ((wr.alloc (.cells #[.int .i64 0, .int .i64 1] 3)).alloc (.cells #[.slice (some ⟨wr.heap.size, 0, none⟩) 2 2, .int .i64 g] 37)).heap.size 1 (some ⟨wr.heap.size, 0, none⟩) 2 (Cs encI [0, 1]) from
        ((Rd.new wr #[.int .i64 0, .int .i64 1] 3 1 2 rfl).alloc (by simp) _).more (by simp))
      have HSRC := hide (show Rd ((wr.alloc (.cells #[.int .i64 0, .int .i64 1] 3)).alloc (.cells #[.slice (some ⟨wr.heap.size, 0, none⟩) 2 2, .int .i64 g] 37)) (wr.heap.size + 1 + 1) 2 (some ⟨wr.heap.size + 1, 0, none⟩) 1 [.slice (some ⟨wr.heap.size, 0, none⟩) 2 2, .int .i64 g] from by
        have h := Rd.new (wr.alloc (.cells #[.int .i64 0, .int .i64 1] 3)) #[.slice (some ⟨wr.heap.size, 0, none⟩) 2 2, .int .i64 g] 37 2 1 rfl
        rw [World.size_alloc] at h
        exact h)
      have HMN := hide (HF.out.below HBN.out)
      have HLT := hide (show ∀ gg, v.ownBlock = some gg → gg < wr.heap.size from fun gg hg => (HF.out.1.own.lt gg hg).2)
      clear hb
      go_wp2_with (at_builtin; go_loud (refine wpList_app elT rfl _ _ rfl rfl HMN.out.1.own rfl HSRC.out (by simp [Value.oneCell']) (by have := HUL.out; omega) (by have := HBW.out.size; simp; omega) ?_; intro v2 wB hownB hbB hgB hvB))
      have HNEW := hide (HMN.out.app (t := ⟨some ⟨wr.heap.size, 0, none⟩, 2, [0, 1], g⟩) HRQ.out (fun p hp e => by
        injection hp with hp
        subst hp
        have := HLT.out _ e.symm
        exact Nat.lt_irrefl _ this) (fun p hp => by
        injection hp with hp
        subst hp
        rw [World.size_alloc, World.size_alloc]; show wr.heap.size < _; omega) (by simp) (by simpa [encT] using hownB) hgB hvB hbB.size)
      have HNL := hide (show (us ++ [(⟨some ⟨wr.heap.size, 0, none⟩, 2, [0, 1], g⟩ : Tm)]).length = k + 1 from by rw [List.length_append, HUL.out]; rfl)
      have HBE := hide (show Below W.heap.size W wB from HBW.out.trans ((HBN.out.mono HBW.out.size).trans hbB))
      clear hownB hbB hgB hvB
      go_roundw
      case rel => exact ⟨k + 1, _, v2, by omega, rfl, by go_num, HNL.out, by rw [HT.out]; exact HNEW.out, HBE.out⟩
      case measure => simp [intOf]; omega
    · have HMK := hide (show xs.take k = xs from List.take_of_length_le (by have := HL.out; omega))
      obtain ⟨A', c', rfl, hc1, hc2⟩ := own_form2 HF.out.1.own
      have HFR := hide (show MadeRes W.heap.size (xs.map both1) (.returned (.slice A' us.length c')) wr from ⟨A', us.length, c', us, rfl, hc1, hc2, rfl, by rw [HMK.out] at HF; exact HF.out⟩)
      go_wp2_with fail
      go_ret
      exact ⟨HFR.out, HBW.out⟩
end Go.Proofs.Ytogjokoaghpjiaa
