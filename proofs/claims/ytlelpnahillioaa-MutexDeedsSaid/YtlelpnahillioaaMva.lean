/-
  The reference's: mutexes copied, each queue in a block of its own.
-/
import Derived.Test.YtlelpnahillioaaMus
set_option linter.unusedSimpArgs false
set_option linter.unusedVariables false
namespace Go.Proofs.Ytlelpnahillioaa
open Go Go.RowKit
attribute [local go_sem] via_cell via_frozen

def QOwn (base : Nat) (w : World) (t : Mm) : Prop := w.ownsRow base 3 1 (.slice t.A t.q.length t.c) t.q.length (Cs encI t.q)
def ApartM (ts : List Mm) : Prop := ∀ i j, i < j → j < ts.length → ∀ p q, (ts.getD i mmZ).A = some p → (ts.getD j mmZ).A = some q → p.block ≠ q.block
/-- Mutexes whose queues are rows of their own, each in another block. -/
structure CopyM (base : Nat) (w : World) (v : Value) (ts : List Mm) : Prop where
  made : MadeM base w v ts
  own : ∀ t ∈ ts, QOwn base w t
  apart : ApartM ts
theorem own_at {w w' : World} {base : Nat} {e : TypeId} {size n c : Nat} {A : Option Addr} {xs : List Value} (h : w.ownsRow base e size (.slice A n c) n xs) (hl : ∀ p, A = some p → w'.heap[p.block]? = w.heap[p.block]?) : w'.ownsRow base e size (.slice A n c) n xs := by
  obtain ⟨h1, h2⟩ := h
  refine ⟨h1, ?_⟩
  rcases h2 with h | ⟨g, cap, cur, hv, hg, hh, r⟩
  · exact .inl h
  · have e := hv
    injection e with e
    exact .inr ⟨g, cap, cur, hv, hg, (hl ⟨g, 0, none⟩ e).trans hh, r⟩
theorem CopyM.nil (base : Nat) (w : World) : CopyM base w (.slice none 0 0) [] := ⟨MadeM.nil _ _, by simp, fun i j _ hj => by simp at hj⟩
theorem CopyM.below {base : Nat} {w w' : World} {v : Value} {ts : List Mm} (h : CopyM base w v ts) (hb : Below w.heap.size w w') : CopyM base w' v ts := ⟨h.made.below hb, fun t ht => own_keepB (h.own t ht) hb, h.apart⟩
theorem CopyM.app {base : Nat} {w w' : World} {v v' : Value} {ts : List Mm} {t : Mm} (h : CopyM base w v ts) (ht : QOk base w v.ownBlock t) (hq : QOwn base w t) (hap : ∀ u ∈ ts, ∀ p q, u.A = some p → t.A = some q → p.block ≠ q.block)
    (ho : w'.ownsRow base 47 2 v' (ts.length + 1) (Cs encM ts ++ encM t)) (hg : w.grownBy w' v.ownBlock) (hv : v'.ownBlock = v.ownBlock ∨ v'.ownBlock = some w.heap.size) (hs : w.heap.size ≤ w'.heap.size) : CopyM base w' v' (ts ++ [t]) := by
  refine ⟨h.made.app ht ho hg hv hs, fun u hu => ?_, fun i j hij hj p q hp hq' => ?_⟩
  · rcases List.mem_append.1 hu with hu | hu
    · exact own_at (h.own u hu) (fun p hp => hg.block _ ((h.made.qs u hu).fr p hp).2.1 ((h.made.qs u hu).fr p hp).2.2.1)
    · obtain rfl := List.mem_singleton.1 hu
      exact own_at hq (fun p hp => hg.block _ (ht.fr p hp).2.1 (ht.fr p hp).2.2.1)
  · rw [List.length_append, List.length_singleton] at hj
    have e1 : (ts ++ [t]).getD i mmZ = ts.getD i mmZ := by rw [List.getD_eq_getElem?_getD, List.getD_eq_getElem?_getD, List.getElem?_append_left (by omega)]
    rw [e1] at hp
    by_cases hjl : j < ts.length
    · have e2 : (ts ++ [t]).getD j mmZ = ts.getD j mmZ := by rw [List.getD_eq_getElem?_getD, List.getD_eq_getElem?_getD, List.getElem?_append_left hjl]
      rw [e2] at hq'
      exact h.apart i j hij hjl p q hp hq'
    · have e2 : (ts ++ [t]).getD j mmZ = t := by
        obtain rfl : j = ts.length := by omega
        rw [List.getD_eq_getElem?_getD, List.getElem?_append_right (Nat.le_refl _)]; simp
      rw [e2] at hq'
      exact hap _ (getM_mem (by omega)) p q hp hq'
theorem oS_past {w w' : World} {gm gb : Nat} {row : Option Nat} {who : Int} {tA : Option Addr} {tn tc : Nat} (h : w.cell? ⟨gm, 0, none⟩ = some (.int .i64 who) ∧ w.cell? ⟨gm, 1, none⟩ = some (.slice tA tn tc) ∧ gm < w.heap.size) (hb : w.grownBy w' row) (hlt : gm < gb) (hr : row = some gb) : w'.cell? ⟨gm, 0, none⟩ = some (.int .i64 who) ∧ w'.cell? ⟨gm, 1, none⟩ = some (.slice tA tn tc) ∧ gm < w'.heap.size := by
  subst hr
  have hne : some gm ≠ some gb := fun e => by injection e with e; omega
  exact ⟨(cell_of_heap (p := ⟨gm, 0, none⟩) (hb.block _ h.2.2 hne)).trans h.1, (cell_of_heap (p := ⟨gm, 1, none⟩) (hb.block _ h.2.2 hne)).trans h.2.1, Nat.lt_of_lt_of_le h.2.2 hb.size⟩
def CopyRes (base : Nat) (l : Ml) (m : Nat) (e : Ending) (w : World) : Prop := ∃ A c us, e = .returned (.slice A m c) ∧ mus us = l ∧ us.length = m ∧ CopyM base w (.slice A m c) us
set_option maxHeartbeats 4000000 in
theorem copy_any (B : Nat) (A : Option Addr) (c n : Nat) (ts : List Mm) (W : World) (h : RM W B A n ts) (hs : SmallM ts) (hB : B ≤ W.heap.size) :
    Calls Try.prog 39 #[.slice A n c] W fun e W' => CopyRes W.heap.size (mus ts) n e W' ∧ Below W.heap.size W W' := by
  have H := hide h
  have HS := hide hs
  have HL := hide h.len
  have hn : n ≤ 4096 := by have := hs.1; have := h.len; omega
  clear h hs
  go_enter Try.func39, Try.ntmps39
  go_wp2_with fail
  go_loopw [3, 8] (fun sv i wr => ∃ (k : Nat) (us : List Mm) (v : Value), k ≤ n ∧ v = sv ∧ i = .int .i64 k ∧ us.length = k ∧ mus us = mus (ts.take k) ∧ CopyM W.heap.size wr v us ∧ Below W.heap.size W wr) (fun _ i _ => n - (intOf i).toNat)
  case atStart => exact ⟨0, [], _, Nat.zero_le _, rfl, rfl, rfl, rfl, CopyM.nil _ _, Below.refl _ _⟩
  case round =>
    obtain ⟨k, us, v, hk, rfl, rfl, hul, hmu, hmade, hbw⟩ := hrel
    have HMU := hide hmu
    have HUL := hide hul
    have HM := hide hmade
    have HBW := hide hbw
    clear hul hmu hmade hbw
    by_cases hlt : k < n
    · have hlx : k < ts.length := by rw [HL.out]; exact hlt
      obtain ⟨b, o, rfl, hb, d0, d1, hq⟩ := (H.out.below (HBW.out.mono hB)).at_ hlt
      have hbl : b < wr.heap.size := Nat.lt_of_lt_of_le hb (Nat.le_trans hB HBW.out.size)
      have hkm : (k : Int) < (n : Int) := by omega
      have HTK := hide (show mus (ts.take (k + 1)) = mus us ++ [(ts.getD k mmZ).mu] from by rw [takeM_succ hlx, HMU.out]; simp [mus])
      have htq := HS.out.2 _ (getM_mem hlx)
      generalize ts.getD k mmZ = t at *
      obtain ⟨who, tA, tc, tq⟩ := t
      dsimp only at *
      obtain ⟨tn, htn⟩ : ∃ n, tq.length = n := ⟨_, rfl⟩
      rw [htn] at d1 hq htq
      have HTN := hide htn
      have HBN := hide (show Below wr.heap.size wr (wr.alloc (.cells #[.int .i64 who, .slice tA tn tc] 47)) from (Below.refl _ _).alloc (Nat.le_refl _) _)
      have HM5 := hide (HM.out.below HBN.out)
      have HB5 := hide (HBW.out.trans (HBN.out.mono HBW.out.size))
      have HQ := hide ((hq.more (Nat.le_trans hB HBW.out.size)).below HBN.out)
      have HRN := hide (RowAt.new wr 47 #[.int .i64 who, .slice tA tn tc])
      have HVO := hide (show ∀ g, v.ownBlock = some g → g < wr.heap.size from fun g hg => (HM.out.made.own.lt g hg).2)
      clear hb htn hq
      go_upto_region 5 with (fail)
      obtain ⟨gm, hgm⟩ : ∃ gm, wr.heap.size = gm := ⟨_, rfl⟩
      rw [hgm] at HQ HRN HVO ⊢
      have HSZ := hide (show gm ≤ (wr.alloc (.cells #[.int .i64 who, .slice tA tn tc] 47)).heap.size from by rw [← hgm]; exact HBN.out.size)
      clear hgm d0 d1
      generalize wr.alloc (.cells #[.int .i64 who, .slice tA tn tc] 47) = w5 at *
      have HS5 := hide (show w5.drew.cell? ⟨gm, 0, none⟩ = some (.int .i64 who) ∧ w5.drew.cell? ⟨gm, 1, none⟩ = some (.slice tA tn tc) ∧ gm < w5.drew.heap.size from ⟨row20 HRN.out, row21 HRN.out, HRN.out.lt⟩)
      have HSD : Hid (w5.drew.cell? ⟨gm, 0, none⟩ = some (.int .i64 who) ∧ w5.drew.cell? ⟨gm, 1, none⟩ = some (.slice tA tn tc) ∧ gm < w5.drew.heap.size) := hide HS5.out
      have HMD := hide (HM5.out.below (Below.refl _ _).drew)
      have HBDW := hide HB5.out.drew
      have HQD := hide (show Rd w5.drew w5.drew.heap.size 1 tA tn (Cs encI tq) from HQ.out.more HSZ.out)
      have HGD := hide (show W.heap.size ≤ w5.drew.heap.size from HB5.out.size)
      have HVD := hide (show ∀ g, v.ownBlock = some g → g < w5.drew.heap.size from fun g hg => Nat.lt_of_lt_of_le (HVO.out g hg) HSZ.out)
      have HVL := hide (show some gm ≠ v.ownBlock from fun e => by have := HVO.out _ e.symm; omega)
      refine wp_region_held_drew (S := fun wX => wX.cell? ⟨gm, 0, none⟩ = some (.int .i64 who) ∧ wX.cell? ⟨gm, 1, none⟩ = some (.slice tA tn tc) ∧ gm < wX.heap.size) (by kernel_rfl) (HS5.out) (fun hHeld => ?_)
      (refine wpAnyH_take (i := 0) (v := ?_) rfl (by kernel_rfl) (by kernel_rfl) (by kernel_rfl) (fun _ _ _ h => h) (Or.inl ⟨by rfl, ?_⟩) (by assumption) ?_; rotate_left; (focus (intro w hSw; (try dsimp only at hSw); obtain ⟨kf0, kf1, kf2⟩ := hSw; go_simp; first | done | with_reducible rfl)); (try simp only [Act.put, List.getElem_toArray, List.getElem_cons_succ, List.getElem_cons_zero, List.setIfInBounds_toArray, List.set_cons_zero, List.set_cons_succ]))
      (refine wpAnyH_take (i := 1) (v := ?_) rfl (by kernel_rfl) (by kernel_rfl) (by kernel_rfl) (fun _ _ _ h => h) (Or.inl ⟨by rfl, ?_⟩) (by assumption) ?_; rotate_left; (focus (intro w hSw; (try dsimp only at hSw); obtain ⟨kf0, kf1, kf2⟩ := hSw; go_simp; first | done | with_reducible rfl)); (try simp only [Act.put, List.getElem_toArray, List.getElem_cons_succ, List.getElem_cons_zero, List.setIfInBounds_toArray, List.set_cons_zero, List.set_cons_succ]))
      (refine wpAnyH_take (i := 2) (v := ?_) rfl (by kernel_rfl) (by kernel_rfl) (by kernel_rfl) (fun _ _ _ h => h) (Or.inl ⟨by rfl, ?_⟩) (by assumption) ?_; rotate_left; (focus (intro w hSw; (try dsimp only at hSw); obtain ⟨kf0, kf1, kf2⟩ := hSw; go_simp; first | done | with_reducible rfl)); (try simp only [Act.put, List.getElem_toArray, List.getElem_cons_succ, List.getElem_cons_zero, List.setIfInBounds_toArray, List.set_cons_zero, List.set_cons_succ]))
      (refine wpAnyH_take (i := 4) (v := ?_) rfl (by kernel_rfl) (by kernel_rfl) (by kernel_rfl) (fun _ _ _ h => h) (Or.inl ⟨by rfl, ?_⟩) (by assumption) ?_; rotate_left; (focus (intro w hSw; (try dsimp only at hSw); obtain ⟨kf0, kf1, kf2⟩ := hSw; go_simp; first | done | with_reducible rfl)); (try simp only [Act.put, List.getElem_toArray, List.getElem_cons_succ, List.getElem_cons_zero, List.setIfInBounds_toArray, List.set_cons_zero, List.set_cons_succ]))
      (refine wpAnyH_take (i := 5) (v := ?_) rfl (by kernel_rfl) (by kernel_rfl) (by kernel_rfl) (fun _ _ _ h => h) (Or.inl ⟨by rfl, ?_⟩) (by assumption) ?_; rotate_left; (focus (intro w hSw; (try dsimp only at hSw); obtain ⟨kf0, kf1, kf2⟩ := hSw; go_simp; first | done | with_reducible rfl)); (try simp only [Act.put, List.getElem_toArray, List.getElem_cons_succ, List.getElem_cons_zero, List.setIfInBounds_toArray, List.set_cons_zero, List.set_cons_succ]))
      generalize w5.drew = wd at *
      have hlit := World.ownsRow_lit (base := wd.heap.size) (e := 3) (size := 1) wd #[] 0 (Nat.le_refl _) (by simp [maxLen]) rfl
      have HLIT := hide hlit
      clear hlit
      have HBE := hide (show Below wd.heap.size wd (wd.alloc (.cells #[] 3)) from (Below.refl _ _).alloc (Nat.le_refl _) _)
      have HSE := hide (oS_below HSD.out HBE.out)
      have HQE := hide (HQD.out.below HBE.out)
      refine wpAnyH_ready (rs := [3]) (by kernel_rfl) (by simp) ?_
      refine (AllReadyH.cons rfl (fun K0 hK0 => ?_) AllReadyH.nil)
      go_simp
      refine hK0.out _ _ (HSE.out) (fun _ => ?_)
      clear hK0 K0
      (try simp only [Act.put, List.getElem_toArray, List.getElem_cons_succ, List.getElem_cons_zero, List.setIfInBounds_toArray, List.set_cons_zero, List.set_cons_succ])
      have HGE := hide (HBE.out.size)
      obtain ⟨bd, hbd⟩ : ∃ x, wd.heap.size = x := ⟨_, rfl⟩
      rw [hbd] at HLIT HQE HGE ⊢
      have HBD0 := hide hbd
      clear hbd
      generalize wd.alloc (.cells #[] 3) = we at *
      refine wpAnyH_ready (rs := [6]) (by kernel_rfl) (by simp) ?_
      refine (AllReadyH.cons rfl (fun K1 hK1 => ?_) AllReadyH.nil)
      rw [if_pos (by rfl)]
      refine wp_app elI _ _ rfl rfl HLIT.out rfl HQE.out (Cs_one_cell encI_one _) (by omega) HGE.out ?_
      intro v1 wq hownq hbq hgq hvq
      obtain ⟨Ac, cc, rfl, hcc, hccm⟩ := own_form2 hownq
      rw [Nat.zero_add] at hownq hcc
      have HWQ := hide (show wq.ownsRow wd.heap.size 3 1 (.slice Ac tn cc) tn (Cs encI tq) from by rw [HBD0.out]; simpa using hownq)
      have HSQ := hide (oS_past (gb := bd) HSE.out hgq (by rw [← HBD0.out]; exact HSD.out.2.2) rfl)
      have HBQ := hide (HBE.out.trans (by rw [HBD0.out]; exact hbq))
      simp only [Nat.zero_add]
      clear hownq hbq hgq hvq
      refine hK1.out _ _ (HSQ.out) (fun _ => ?_)
      clear hK1 K1
      (try simp only [Act.put, List.getElem_toArray, List.getElem_cons_succ, List.getElem_cons_zero, List.setIfInBounds_toArray, List.set_cons_zero, List.set_cons_succ])
      (refine wpAnyH_take (i := 7) (v := ?_) rfl (by kernel_rfl) (by kernel_rfl) (by kernel_rfl) (fun _ _ _ h => h) (Or.inl ⟨by rfl, ?_⟩) (by assumption) ?_; rotate_left; (focus (intro w hSw; (try dsimp only at hSw); obtain ⟨kf0, kf1, kf2⟩ := hSw; go_simp; first | done | with_reducible rfl)); (try simp only [Act.put, List.getElem_toArray, List.getElem_cons_succ, List.getElem_cons_zero, List.setIfInBounds_toArray, List.set_cons_zero, List.set_cons_succ]))
      have HBL := hide (show Below wq.heap.size wq (wq.alloc (.cells #[.int .i64 who, .slice Ac tn cc] 47)) from (Below.refl _ _).alloc (Nat.le_refl _) _)
      have HSL := hide (oS_below HSQ.out HBL.out)
      have HCM := hide ((HMD.out.below HBQ.out).below HBL.out)
      have HQL := hide (show QOk W.heap.size (wq.alloc (.cells #[.int .i64 who, .slice Ac tn cc] 47)) v.ownBlock ⟨who, Ac, cc, tq⟩ from (clone_qok2 HWQ.out HTN.out hcc hccm HGD.out HVD.out).below HBL.out)
      have HQW := hide (show QOwn W.heap.size (wq.alloc (.cells #[.int .i64 who, .slice Ac tn cc] 47)) ⟨who, Ac, cc, tq⟩ from by unfold QOwn; dsimp only; rw [HTN.out]; exact ownsRow_base (own_keepB HWQ.out HBL.out) HGD.out)
      have HAP := hide (show ∀ u ∈ us, ∀ p q, u.A = some p → Ac = some q → p.block ≠ q.block from fun u hu p q hp hq => by have h1 := own_fresh HWQ.out q hq; have h2 := ((HMD.out.made.qs u hu).fr p hp).2.1; omega)
      have HSRC := hide (Rd.new wq #[.int .i64 who, .slice Ac tn cc] 47 2 1 rfl)
      refine wpAnyH_ready (rs := [8]) (by kernel_rfl) (by simp) ?_
      refine (AllReadyH.cons rfl (fun K2 hK2 => ?_) AllReadyH.nil)
      go_simp
      refine hK2.out _ _ (HSL.out) (fun _ => ?_)
      clear hK2 K2
      (try simp only [Act.put, List.getElem_toArray, List.getElem_cons_succ, List.getElem_cons_zero, List.setIfInBounds_toArray, List.set_cons_zero, List.set_cons_succ])
      have HGL := hide (show W.heap.size ≤ (wq.alloc (.cells #[.int .i64 who, .slice Ac tn cc] 47)).heap.size from Nat.le_trans HGD.out (Nat.le_trans HBQ.out.size HBL.out.size))
      have HBD := hide (HBQ.out.trans (HBL.out.mono HBQ.out.size))
      generalize wq.alloc (.cells #[.int .i64 who, .slice Ac tn cc] 47) = wl at *
      refine wpAnyH_ready (rs := [9]) (by kernel_rfl) (by simp) ?_
      refine (AllReadyH.cons rfl (fun K3 hK3 => ?_) AllReadyH.nil)
      rw [if_pos (by rfl)]
      refine wp_app elM _ _ rfl rfl HCM.out.made.own rfl HSRC.out (by simp [Value.oneCell']) (by have := HUL.out; omega) HGL.out ?_
      intro v2 wB hownB hbB hgB hvB
      have HNW := hide (HCM.out.app HQL.out HQW.out HAP.out (by simpa [encM, HTN.out] using hownB) hgB hvB hgB.size)
      have HSB := hide (oS_grown HSL.out hgB HVL.out)
      have HBB := hide hbB
      clear hownB hbB hgB hvB
      refine hK3.out _ _ (HSB.out) (fun _ => ?_)
      clear hK3 K3
      (try simp only [Act.put, List.getElem_toArray, List.getElem_cons_succ, List.getElem_cons_zero, List.setIfInBounds_toArray, List.set_cons_zero, List.set_cons_succ])
      (refine wpAnyH_take (i := 10) (v := ?_) rfl (by kernel_rfl) (by kernel_rfl) (by kernel_rfl) (fun _ _ _ h => h) (Or.inl ⟨by rfl, ?_⟩) (by assumption) ?_; rotate_left; (focus (intro w hSw; (try dsimp only at hSw); obtain ⟨kf0, kf1, kf2⟩ := hSw; go_simp; first | done | with_reducible rfl)); (try simp only [Act.put, List.getElem_toArray, List.getElem_cons_succ, List.getElem_cons_zero, List.setIfInBounds_toArray, List.set_cons_zero, List.set_cons_succ]))
      refine wpAnyH_done (by kernel_rfl) ?_ _
      have HBF := hide ((HBDW.out.trans (HBD.out.mono HBDW.out.size)).trans HBB.out)
      have HMF := hide (show mus (us ++ [(⟨who, Ac, cc, tq⟩ : Mm)]) = mus (ts.take (k + 1)) from by rw [HTK.out]; simp [mus, Mm.mu])
      have HLF := hide (show (us ++ [(⟨who, Ac, cc, tq⟩ : Mm)]).length = k + 1 from by rw [List.length_append, HUL.out]; rfl)
      go_wp2_with fail
      go_roundw
      case rel => exact ⟨k + 1, _, v2, by omega, rfl, by go_num, HLF.out, HMF.out, HNW.out, HBF.out⟩
      case measure => simp [intOf]; omega
    · obtain rfl : k = n := by omega
      have HF := hide (show mus us = mus ts from by rw [HMU.out, List.take_of_length_le (by rw [HL.out]; omega)])
      have ho := HM.out.made.own
      rw [HUL.out] at ho
      obtain ⟨A', c', rfl, hc1⟩ := own_form ho
      have HFR := hide (show CopyRes W.heap.size (mus ts) k (.returned (.slice A' k c')) wr from ⟨A', c', us, rfl, HF.out, HUL.out, HM.out⟩)
      clear ho
      go_wp2_with fail
      go_ret
      exact ⟨HFR.out, HBW.out⟩
end Go.Proofs.Ytlelpnahillioaa
