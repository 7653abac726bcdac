/-
  The law's: mutexes in memory of their own.
-/
import Derived.Test.YtlelpnahillioaaMuo
set_option linter.unusedSimpArgs false
set_option linter.unusedVariables false
namespace Go.Proofs.Ytlelpnahillioaa
open Go Go.RowKit
attribute [local go_sem] via_cell via_frozen

def cutM (m : Mu) : Mu := (m.1, m.2.take 10)
def ownL (l : Ml) : Ml := (l.take 162).map cutM
theorem ownL_snoc (l : Ml) (x : Mu) : ownL (l ++ [x]) = if l.length < 162 then ownL l ++ [cutM x] else ownL l := by
  unfold ownL
  by_cases h : l.length < 162
  · rw [if_pos h, List.take_of_length_le (by simp; omega), List.take_of_length_le (by omega), List.map_append]; rfl
  · rw [if_neg h, List.take_append_of_le_length (by omega)]
theorem ownL_len (l : Ml) : (ownL l).length ≤ 162 := by unfold ownL; rw [List.length_map, List.length_take]; omega
theorem ownL_small (l : Ml) : SmallL (ownL l) := by
  refine ⟨by have := ownL_len l; omega, fun x hx => ?_⟩
  obtain ⟨y, _, rfl⟩ := List.mem_map.1 hx
  have : (y.2.take 10).length ≤ 10 := List.length_take_le _ _
  show (y.2.take 10).length ≤ 4096
  omega
theorem oS_below {w w' : World} {gm : Nat} {who : Int} {tA : Option Addr} {tn tc : Nat} (h : w.cell? ⟨gm, 0, none⟩ = some (.int .i64 who) ∧ w.cell? ⟨gm, 1, none⟩ = some (.slice tA tn tc) ∧ gm < w.heap.size) (hb : Below w.heap.size w w') : w'.cell? ⟨gm, 0, none⟩ = some (.int .i64 who) ∧ w'.cell? ⟨gm, 1, none⟩ = some (.slice tA tn tc) ∧ gm < w'.heap.size :=
  ⟨(hb.cell (p := ⟨gm, 0, none⟩) h.2.2).trans h.1, (hb.cell (p := ⟨gm, 1, none⟩) h.2.2).trans h.2.1, Nat.lt_of_lt_of_le h.2.2 hb.size⟩
theorem oS_grown {w w' : World} {gm : Nat} {v : Value} {who : Int} {tA : Option Addr} {tn tc : Nat} (h : w.cell? ⟨gm, 0, none⟩ = some (.int .i64 who) ∧ w.cell? ⟨gm, 1, none⟩ = some (.slice tA tn tc) ∧ gm < w.heap.size) (hb : w.grownBy w' v.ownBlock) (hv : some gm ≠ v.ownBlock) : w'.cell? ⟨gm, 0, none⟩ = some (.int .i64 who) ∧ w'.cell? ⟨gm, 1, none⟩ = some (.slice tA tn tc) ∧ gm < w'.heap.size :=
  ⟨(cell_of_heap (p := ⟨gm, 0, none⟩) (hb.block _ h.2.2 hv)).trans h.1, (cell_of_heap (p := ⟨gm, 1, none⟩) (hb.block _ h.2.2 hv)).trans h.2.1, Nat.lt_of_lt_of_le h.2.2 hb.size⟩
theorem clone_qok2 {w wq : World} {b : Nat} {who : Int} {A : Option Addr} {tn c : Nat} {q : List Int} {v : Value} (h : wq.ownsRow w.heap.size 3 1 (.slice A tn c) tn (Cs encI q)) (hn : q.length = tn) (hc : tn ≤ c) (hcm : c ≤ 9223372036854775807) (hg : b ≤ w.heap.size) (hv : ∀ g, v.ownBlock = some g → g < w.heap.size) : QOk b wq v.ownBlock ⟨who, A, c, q⟩ := by
  refine ⟨by dsimp only; rw [hn]; exact Rd.of_own h, ⟨by dsimp only; omega, hcm⟩, fun p hp => ?_⟩
  have hp : A = some p := hp
  subst hp
  rcases h.2 with ⟨h1, _⟩ | ⟨gg, cap, cur, hv1, hge, hh, _⟩
  · injection h1 with h1; cases h1
  · injection hv1 with h1
    injection h1 with h1
    subst h1
    refine ⟨Nat.le_trans hg hge, (Array.getElem?_eq_some_iff.1 hh).1, fun e => ?_, cur, hh⟩
    have := hv gg e.symm
    omega
def CapT (ts : List Mm) : Prop := ∀ t ∈ ts, t.q.length ≤ t.c ∧ t.c ≤ 9223372036854775807
def OwnRes (base : Nat) (l : Ml) (e : Ending) (w : World) : Prop := ∃ A m c, e = .returned (.slice A m c) ∧ Own base w A m c l
set_option maxHeartbeats 4000000 in
theorem own_any (B : Nat) (A : Option Addr) (c n : Nat) (ts : List Mm) (W : World) (h : RM W B A n ts) (hB : B ≤ W.heap.size) (hn : n ≤ c) (hcm : c ≤ 9223372036854775807) (hcap : CapT ts) :
    Calls Try.prog 9 #[.slice A n c] W fun e W' => OwnRes W.heap.size (ownL (mus ts)) e W' ∧ Below W.heap.size W W' := by
  have H := hide h
  have HL := hide h.len
  have HCAP := hide hcap
  have hnI : (n : Int) ≤ 9223372036854775807 := by omega
  clear h hcap
  go_enter Try.func9, Try.ntmps9
  go_wp2_with fail
  go_loopw [3, 8] (fun sv i wr => ∃ (k : Nat) (us : List Mm) (v : Value), k ≤ n ∧ v = sv ∧ i = .int .i64 k ∧ mus us = ownL (mus (ts.take k)) ∧ MadeM W.heap.size wr v us ∧ Below W.heap.size W wr) (fun _ i _ => n - (intOf i).toNat)
  case atStart => exact ⟨0, [], _, Nat.zero_le _, rfl, rfl, rfl, MadeM.nil _ _, Below.refl _ _⟩
  case round =>
    obtain ⟨k, us, v, hk, rfl, rfl, hmu, hmade, hbw⟩ := hrel
    have HMU := hide hmu
    have HM := hide hmade
    have HBW := hide hbw
    clear hmu hmade hbw
    by_cases hlt : k < n
    · have hlx : k < ts.length := by rw [HL.out]; exact hlt
      obtain ⟨b, o, rfl, hb, d0, d1, hq⟩ := (H.out.below (HBW.out.mono hB)).at_ hlt
      have hbl : b < wr.heap.size := Nat.lt_of_lt_of_le hb (Nat.le_trans hB HBW.out.size)
      have hkm : (k : Int) < (n : Int) := by omega
      have HTK := hide (show ownL (mus (ts.take (k + 1))) = if k < 162 then mus us ++ [cutM (ts.getD k mmZ).mu] else mus us from by
        have e : mus (ts.take (k + 1)) = mus (ts.take k) ++ [(ts.getD k mmZ).mu] := by rw [takeM_succ hlx]; simp [mus]
        rw [e, ownL_snoc, HMU.out, mus_len, List.length_take, Nat.min_eq_left (by omega)])
      have hcp := HCAP.out _ (getM_mem hlx)
      generalize ts.getD k mmZ = t at *
      obtain ⟨who, tA, tc, tq⟩ := t
      dsimp only at *
      obtain ⟨tn, htn⟩ : ∃ n, tq.length = n := ⟨_, rfl⟩
      rw [htn] at d1 hq hcp
      have HTN := hide htn
      have HBN := hide (show Below wr.heap.size wr (wr.alloc (.cells #[.int .i64 who, .slice tA tn tc] 47)) from (Below.refl _ _).alloc (Nat.le_refl _) _)
      have HM5 := hide (HM.out.below HBN.out)
      have HB5 := hide (HBW.out.trans (HBN.out.mono HBW.out.size))
      clear hb htn
      by_cases h162 : k < 162
      case neg =>
        have hd : decide ((k : Int) < 162) = false := by simp; omega
        have HT2 := hide (HTK.out.trans (if_neg h162))
        clear h162 hq hcp
        go_wp2_with fail
        go_roundw
        case rel => exact ⟨k + 1, us, v, by omega, rfl, by go_num, HT2.out.symm, HM5.out, HB5.out⟩
        case measure => simp [intOf]; omega
      have hd : (k : Int) < 162 := by omega
      have HT2 := hide (HTK.out.trans (if_pos h162))
      have HUL := hide (show us.length ≤ 162 from by rw [← mus_len, HMU.out]; exact ownL_len _)
      have HQ := hide ((hq.more (Nat.le_trans hB HBW.out.size)).below HBN.out)
      have HRN := hide (RowAt.new wr 47 #[.int .i64 who, .slice tA tn tc])
      have HVO := hide (show ∀ g, v.ownBlock = some g → g < wr.heap.size from fun g hg => (HM.out.own.lt g hg).2)
      obtain ⟨j, hj⟩ : ∃ j, min tn 10 = j := ⟨_, rfl⟩
      have hjI : min (tn : Int) 10 = (j : Int) := by omega
      have hj1 : j ≤ tn := by omega
      have hj2 : j ≤ 10 := by omega
      have hjc : (j : Int) ≤ (tc : Int) := by omega
      have htI : (tc : Int) ≤ 9223372036854775807 := by omega
      have hlenI : (tn : Int) ≤ 9223372036854775807 := by omega
      have HJL := hide (show (tq.take 10).length = j from by rw [List.length_take, HTN.out, Nat.min_comm]; exact hj)
      have HJT := hide (show tq.take 10 = tq.take j from by rw [← hj, ← HTN.out, Nat.min_comm]; exact List.take_eq_take_min)
      clear hq hj h162 hcp
      go_upto_region 6 with (fail)
      obtain ⟨gm, hgm⟩ : ∃ gm, wr.heap.size = gm := ⟨_, rfl⟩
      rw [hgm] at HQ HRN HVO ⊢
      have HSZ := hide (show gm ≤ (wr.alloc (.cells #[.int .i64 who, .slice tA tn tc] 47)).heap.size from by rw [← hgm]; exact HBN.out.size)
      clear hgm d0 d1
      generalize wr.alloc (.cells #[.int .i64 who, .slice tA tn tc] 47) = w5 at *
      have HS5 := hide (show w5.drew.cell? ⟨gm, 0, none⟩ = some (.int .i64 who) ∧ w5.drew.cell? ⟨gm, 1, none⟩ = some (.slice tA tn tc) ∧ gm < w5.drew.heap.size from ⟨row20 HRN.out, row21 HRN.out, HRN.out.lt⟩)
      have HSD : Hid (w5.drew.cell? ⟨gm, 0, none⟩ = some (.int .i64 who) ∧ w5.drew.cell? ⟨gm, 1, none⟩ = some (.slice tA tn tc) ∧ gm < w5.drew.heap.size) := hide HS5.out
      have HMD := hide (HM5.out.below (Below.refl _ _).drew)
      have HBDW := hide HB5.out.drew
      have HCL := hide (show Calls Try.prog 31 #[.slice tA j tc] w5.drew fun e W' => ∃ v, e = .returned v ∧ W'.ownsRow w5.drew.heap.size 3 1 v j (Cs encI (tq.take 10)) ∧ Below w5.drew.heap.size w5.drew W' from by
        have hrt : Rd w5.drew w5.drew.heap.size 1 tA j (Cs encI (tq.take 10)) := by
          have h := (HQ.out.more HSZ.out).take hj1
          rw [← Cs_take encI_len, ← HJT.out] at h; exact h
        exact CloneI w5.drew.heap.size tA j tc _ w5.drew hrt (Nat.le_refl _) (Cs_one_cell encI_one _) (by omega))
      have HGD := hide (show W.heap.size ≤ w5.drew.heap.size from HB5.out.size)
      have HVD := hide (show ∀ g, v.ownBlock = some g → g < w5.drew.heap.size from fun g hg => Nat.lt_of_lt_of_le (HVO.out g hg) HSZ.out)
      have HVL := hide (show some gm ≠ v.ownBlock from fun e => by have := HVO.out _ e.symm; omega)
      refine wp_region_held_drew (S := fun wX => wX.cell? ⟨gm, 0, none⟩ = some (.int .i64 who) ∧ wX.cell? ⟨gm, 1, none⟩ = some (.slice tA tn tc) ∧ gm < wX.heap.size) (by kernel_rfl) (HS5.out) (fun hHeld => ?_)
      (refine wpAnyH_take (i := 0) (v := ?_) rfl (by kernel_rfl) (by kernel_rfl) (by kernel_rfl) (fun _ _ _ h => h) (Or.inl ⟨by rfl, ?_⟩) (by assumption) ?_; rotate_left; (focus (intro w hSw; (try dsimp only at hSw); obtain ⟨kf0, kf1, kf2⟩ := hSw; go_simp; first | done | with_reducible rfl)); (try simp only [Act.put, List.getElem_toArray, List.getElem_cons_succ, List.getElem_cons_zero, List.setIfInBounds_toArray, List.set_cons_zero, List.set_cons_succ]))
      (refine wpAnyH_take (i := 1) (v := ?_) rfl (by kernel_rfl) (by kernel_rfl) (by kernel_rfl) (fun _ _ _ h => h) (Or.inl ⟨by rfl, ?_⟩) (by assumption) ?_; rotate_left; (focus (intro w hSw; (try dsimp only at hSw); obtain ⟨kf0, kf1, kf2⟩ := hSw; go_simp; first | done | with_reducible rfl)); (try simp only [Act.put, List.getElem_toArray, List.getElem_cons_succ, List.getElem_cons_zero, List.setIfInBounds_toArray, List.set_cons_zero, List.set_cons_succ]))
      (refine wpAnyH_take (i := 2) (v := ?_) rfl (by kernel_rfl) (by kernel_rfl) (by kernel_rfl) (fun _ _ _ h => h) (Or.inl ⟨by rfl, ?_⟩) (by assumption) ?_; rotate_left; (focus (intro w hSw; (try dsimp only at hSw); obtain ⟨kf0, kf1, kf2⟩ := hSw; go_simp; first | done | with_reducible rfl)); (try simp only [Act.put, List.getElem_toArray, List.getElem_cons_succ, List.getElem_cons_zero, List.setIfInBounds_toArray, List.set_cons_zero, List.set_cons_succ]))
      (refine wpAnyH_take (i := 3) (v := ?_) rfl (by kernel_rfl) (by kernel_rfl) (by kernel_rfl) (fun _ _ _ h => h) (Or.inl ⟨by rfl, ?_⟩) (by assumption) ?_; rotate_left; (focus (intro w hSw; (try dsimp only at hSw); obtain ⟨kf0, kf1, kf2⟩ := hSw; go_simp; first | done | with_reducible rfl)); (try simp only [Act.put, List.getElem_toArray, List.getElem_cons_succ, List.getElem_cons_zero, List.setIfInBounds_toArray, List.set_cons_zero, List.set_cons_succ]))
      (refine wpAnyH_take (i := 4) (v := ?_) rfl (by kernel_rfl) (by kernel_rfl) (by kernel_rfl) (fun _ _ _ h => h) (Or.inl ⟨by rfl, ?_⟩) (by assumption) ?_; rotate_left; (focus (intro w hSw; (try dsimp only at hSw); obtain ⟨kf0, kf1, kf2⟩ := hSw; go_simp; first | done | with_reducible rfl)); (try simp only [Act.put, List.getElem_toArray, List.getElem_cons_succ, List.getElem_cons_zero, List.setIfInBounds_toArray, List.set_cons_zero, List.set_cons_succ]))
      (refine wpAnyH_take (i := 5) (v := ?_) rfl (by kernel_rfl) (by kernel_rfl) (by kernel_rfl) (fun _ _ _ h => h) (Or.inl ⟨by rfl, ?_⟩) (by assumption) ?_; rotate_left; (focus (intro w hSw; (try dsimp only at hSw); obtain ⟨kf0, kf1, kf2⟩ := hSw; go_simp; first | done | with_reducible rfl)); (try simp only [Act.put, List.getElem_toArray, List.getElem_cons_succ, List.getElem_cons_zero, List.setIfInBounds_toArray, List.set_cons_zero, List.set_cons_succ]))
      (refine wpAnyH_take (i := 6) (v := ?_) rfl (by kernel_rfl) (by kernel_rfl) (by kernel_rfl) (fun _ _ _ h => h) (Or.inl ⟨by rfl, ?_⟩) (by assumption) ?_; rotate_left; (focus (intro w hSw; (try dsimp only at hSw); obtain ⟨kf0, kf1, kf2⟩ := hSw; go_simp; first | done | with_reducible rfl)); (try simp only [Act.put, List.getElem_toArray, List.getElem_cons_succ, List.getElem_cons_zero, List.setIfInBounds_toArray, List.set_cons_zero, List.set_cons_succ]))
      (refine wpAnyH_take (i := 7) (v := ?_) rfl (by kernel_rfl) (by kernel_rfl) (by kernel_rfl) (fun _ _ _ h => h) (Or.inl ⟨by rfl, ?_⟩) (by assumption) ?_; rotate_left; (focus (intro w hSw; (try dsimp only at hSw); obtain ⟨kf0, kf1, kf2⟩ := hSw; go_simp; first | done | with_reducible rfl)); (try simp only [Act.put, List.getElem_toArray, List.getElem_cons_succ, List.getElem_cons_zero, List.setIfInBounds_toArray, List.set_cons_zero, List.set_cons_succ]))
      (refine wpAnyH_take (i := 8) (v := ?_) rfl (by kernel_rfl) (by kernel_rfl) (by kernel_rfl) (fun _ _ _ h => h) (Or.inl ⟨by rfl, ?_⟩) (by assumption) ?_; rotate_left; (focus (intro w hSw; (try dsimp only at hSw); obtain ⟨kf0, kf1, kf2⟩ := hSw; go_simp; first | done | with_reducible rfl)); (try simp only [Act.put, List.getElem_toArray, List.getElem_cons_succ, List.getElem_cons_zero, List.setIfInBounds_toArray, List.set_cons_zero, List.set_cons_succ]))
      (refine wpAnyH_take (i := 9) (v := ?_) rfl (by kernel_rfl) (by kernel_rfl) (by kernel_rfl) (fun _ _ _ h => h) (Or.inl ⟨by rfl, ?_⟩) (by assumption) ?_; rotate_left; (focus (intro w hSw; (try dsimp only at hSw); obtain ⟨kf0, kf1, kf2⟩ := hSw; go_simp; first | done | with_reducible rfl)); (try simp only [Act.put, List.getElem_toArray, List.getElem_cons_succ, List.getElem_cons_zero, List.setIfInBounds_toArray, List.set_cons_zero, List.set_cons_succ]))
      generalize w5.drew = wd at *
      refine wpAnyH_ready (rs := [10]) (by kernel_rfl) (by simp) ?_
      refine (AllReadyH.cons rfl (fun K0 hK0 => ?_) AllReadyH.nil)
      go_simp
      with_reducible refine HCL.out.mono ?_
      rintro e wq ⟨vc, rfl, hownq, hbq⟩
      obtain ⟨Ac, cc, rfl, hcc, hccm⟩ := own_form2 hownq
      have HWQ := hide hownq
      have HBQ := hide hbq
      have HSQ := hide (oS_below HSD.out hbq)
      clear hownq hbq
      refine hK0.out _ _ (HSQ.out) (fun _ => ?_)
      clear hK0 K0
      (try simp only [Act.put, List.getElem_toArray, List.getElem_cons_succ, List.getElem_cons_zero, List.setIfInBounds_toArray, List.set_cons_zero, List.set_cons_succ])
      (refine wpAnyH_take (i := 11) (v := ?_) rfl (by kernel_rfl) (by kernel_rfl) (by kernel_rfl) (fun _ _ _ h => h) (Or.inl ⟨by rfl, ?_⟩) (by assumption) ?_; rotate_left; (focus (intro w hSw; (try dsimp only at hSw); obtain ⟨kf0, kf1, kf2⟩ := hSw; go_simp; first | done | with_reducible rfl)); (try simp only [Act.put, List.getElem_toArray, List.getElem_cons_succ, List.getElem_cons_zero, List.setIfInBounds_toArray, List.set_cons_zero, List.set_cons_succ]))
      have HBL := hide (show Below wq.heap.size wq (wq.alloc (.cells #[.int .i64 who, .slice Ac j cc] 47)) from (Below.refl _ _).alloc (Nat.le_refl _) _)
      have HSL := hide (oS_below HSQ.out HBL.out)
      have HML := hide ((HMD.out.below HBQ.out).below HBL.out)
      have HQL := hide (show QOk W.heap.size (wq.alloc (.cells #[.int .i64 who, .slice Ac j cc] 47)) v.ownBlock ⟨who, Ac, cc, tq.take 10⟩ from (clone_qok2 HWQ.out HJL.out hcc hccm HGD.out HVD.out).below HBL.out)
      have HSRC := hide (Rd.new wq #[.int .i64 who, .slice Ac j cc] 47 2 1 rfl)
      refine wpAnyH_ready (rs := [12]) (by kernel_rfl) (by simp) ?_
      refine (AllReadyH.cons rfl (fun K1 hK1 => ?_) AllReadyH.nil)
      go_simp
      refine hK1.out _ _ (HSL.out) (fun _ => ?_)
      clear hK1 K1
      (try simp only [Act.put, List.getElem_toArray, List.getElem_cons_succ, List.getElem_cons_zero, List.setIfInBounds_toArray, List.set_cons_zero, List.set_cons_succ])
      have HGL := hide (show W.heap.size ≤ (wq.alloc (.cells #[.int .i64 who, .slice Ac j cc] 47)).heap.size from Nat.le_trans HGD.out (Nat.le_trans HBQ.out.size HBL.out.size))
      have HBD := hide (HBQ.out.trans (HBL.out.mono HBQ.out.size))
      generalize wq.alloc (.cells #[.int .i64 who, .slice Ac j cc] 47) = wl at *
      refine wpAnyH_ready (rs := [13]) (by kernel_rfl) (by simp) ?_
      refine (AllReadyH.cons rfl (fun K2 hK2 => ?_) AllReadyH.nil)
      rw [if_pos (by rfl)]
      refine wp_app elM _ _ rfl rfl HML.out.own rfl HSRC.out (by simp [Value.oneCell']) (by have := HUL.out; omega) HGL.out ?_
      intro v2 wB hownB hbB hgB hvB
      have HNW := hide (HML.out.app HQL.out (by simpa [encM, HJL.out] using hownB) hgB hvB hgB.size)
      have HSB := hide (oS_grown HSL.out hgB HVL.out)
      have HBB := hide hbB
      clear hownB hbB hgB hvB
      refine hK2.out _ _ (HSB.out) (fun _ => ?_)
      clear hK2 K2
      (try simp only [Act.put, List.getElem_toArray, List.getElem_cons_succ, List.getElem_cons_zero, List.setIfInBounds_toArray, List.set_cons_zero, List.set_cons_succ])
      (refine wpAnyH_take (i := 14) (v := ?_) rfl (by kernel_rfl) (by kernel_rfl) (by kernel_rfl) (fun _ _ _ h => h) (Or.inl ⟨by rfl, ?_⟩) (by assumption) ?_; rotate_left; (focus (intro w hSw; (try dsimp only at hSw); obtain ⟨kf0, kf1, kf2⟩ := hSw; go_simp; first | done | with_reducible rfl)); (try simp only [Act.put, List.getElem_toArray, List.getElem_cons_succ, List.getElem_cons_zero, List.setIfInBounds_toArray, List.set_cons_zero, List.set_cons_succ]))
      refine wpAnyH_done (by kernel_rfl) ?_ _
      have HBF := hide ((HBDW.out.trans (HBD.out.mono HBDW.out.size)).trans HBB.out)
      have HMF := hide (show mus (us ++ [(⟨who, Ac, cc, tq.take 10⟩ : Mm)]) = ownL (mus (ts.take (k + 1))) from by rw [HT2.out]; simp [mus, Mm.mu, cutM])
      go_wp2_with fail
      go_roundw
      case rel => exact ⟨k + 1, _, v2, by omega, rfl, by go_num, HMF.out, HNW.out, HBF.out⟩
      case measure => simp [intOf]; omega
    · have HF := hide (show mus us = ownL (mus ts) from by rw [HMU.out, List.take_of_length_le (by rw [HL.out]; omega)])
      obtain ⟨A', c', rfl, hc1⟩ := own_form HM.out.own
      have HFR := hide (show OwnRes W.heap.size (ownL (mus ts)) (.returned (.slice A' us.length c')) wr from ⟨A', us.length, c', rfl, ⟨us, HF.out, rfl, HM.out⟩⟩)
      go_wp2_with fail
      go_ret
      exact ⟨HFR.out, HBW.out⟩
end Go.Proofs.Ytlelpnahillioaa
