/-
  Looks that are read: slices searched by closures, what things come to, Reads.
-/
import Derived.Test.YtegnppmmcchmgaaDoorGui
set_option linter.unusedSimpArgs false
set_option linter.unusedVariables false
namespace Go.Proofs.YtegnppmmcchmgaaDoor
open Go Go.RowKit
attribute [local go_sem] via_cell via_frozen

theorem IndexFL (B : Nat) (A : Option Addr) (c g : Nat) (lb : Array Value) (hg : ∀ args w, (callFunc g args).run Tryd.prog w = .ok (.enter g args) w) (p : Int × Int → Bool) (xs : List (Int × Int)) (W : World) (h1 : Rd W B 2 A xs.length (Cs encS xs)) (hB1 : B ≤ W.heap.size) (hl1 : xs.length ≤ 4096)
    (HC : ∀ w x, Below W.heap.size W w → x ∈ xs → Calls Tryd.prog g (#[.agg #[.int .i64 x.1, .int .i64 x.2]] ++ lb) w fun e w' => e = .returned (.bool (p x)) ∧ Below w.heap.size w w') :
    Calls Tryd.prog 43 #[.slice A xs.length c, .func (.func g) #[] lb] W fun e W' => ∃ i : Int, e = .returned (.int .i64 i) ∧ decide (0 ≤ i) = xs.any p ∧ Below W.heap.size W W' := by
  have HC := hide HC
  go_enter Tryd.func43, Tryd.ntmps43
  go_wp2_with fail
  go_loopw [8] (fun i wr => ∃ k : Nat, k ≤ xs.length ∧ i = .int .i64 k ∧ (xs.take k).any p = false ∧ Below W.heap.size W wr) (fun i _ => xs.length - (intOf i).toNat)
  case atStart => exact ⟨0, Nat.zero_le _, rfl, rfl, Below.refl _ _⟩
  case round =>
    obtain ⟨k, hk, rfl, hpre, hbw⟩ := hrel
    have HP := hide hpre
    clear hpre
    by_cases hlt : k < xs.length
    · obtain ⟨b1, o1, rfl, hb1, d0, d1⟩ := (h1.below (hbw.mono hB1)).sec hlt
      have hbl : b1 < wr.heap.size := by have := hbw.size; omega
      have HK := hide (HC.out wr xs[k] hbw (List.getElem_mem hlt))
      have HX := hide (show xs.take (k + 1) = xs.take k ++ [xs[k]] from List.take_succ_eq_append_getElem hlt)
      have HM := hide (List.getElem_mem hlt)
      have hki : (k : Int) < (xs.length : Int) := by omega
      generalize xs[k] = x at *
      obtain ⟨r, hr⟩ : ∃ r, p x = r := ⟨_, rfl⟩
      have HR := hide hr
      rw [hr] at HK
      clear hr
      cases r
      · go_wp2_with fail
        refine HK.out.mono ?_
        rintro e w1 ⟨rfl, hb2⟩
        go_wp2_with fail
        go_roundw
        case rel => exact ⟨k + 1, by omega, by go_num, by rw [HX.out, List.any_append, HP.out]; simpa using HR.out, hbw.trans (hb2.mono hbw.size)⟩
        case measure => simp [intOf]; omega
      · go_wp2_with fail
        refine HK.out.mono ?_
        rintro e w1 ⟨rfl, hb2⟩
        go_wp2_with fail
        go_ret
        refine ⟨_, rfl, ?_, hbw.trans (hb2.mono hbw.size)⟩
        have h2 : xs.any p = true := List.any_eq_true.2 ⟨x, HM.out, HR.out⟩
        rw [h2]
        simp
    · go_wp2_with fail
      go_ret
      refine ⟨_, rfl, ?_, hbw⟩
      have h2 := HP.out
      rw [List.take_of_length_le (by omega)] at h2
      rw [h2]
      rfl
theorem ContainsFL (B : Nat) (A : Option Addr) (c g : Nat) (lb : Array Value) (hg : ∀ args w, (callFunc g args).run Tryd.prog w = .ok (.enter g args) w) (p : Int × Int → Bool) (xs : List (Int × Int)) (W : World) (h1 : Rd W B 2 A xs.length (Cs encS xs)) (hB1 : B ≤ W.heap.size) (hl1 : xs.length ≤ 4096)
    (HC : ∀ w x, Below W.heap.size W w → x ∈ xs → Calls Tryd.prog g (#[.agg #[.int .i64 x.1, .int .i64 x.2]] ++ lb) w fun e w' => e = .returned (.bool (p x)) ∧ Below w.heap.size w w') :
    Calls Tryd.prog 34 #[.slice A xs.length c, .func (.func g) #[] lb] W fun e W' => e = .returned (.bool (xs.any p)) ∧ Below W.heap.size W W' := by
  have HI := hide (IndexFL B A c g lb hg p xs W h1 hB1 hl1 HC)
  clear HC
  go_enter Tryd.func34, Tryd.ntmps34
  go_wp2_with fail
  refine HI.out.mono ?_
  rintro e w1 ⟨i, rfl, hi, hb⟩
  have HI := hide hi
  clear hi
  go_wp2_with fail
  go_ret
  exact ⟨ret_bool HI.out, hb⟩
set_option maxHeartbeats 1000000 in
theorem MadeL (B : Nat) (A : Option Addr) (c g : Nat) (lb : Array Value) (hg : ∀ args w, (callFunc g args).run Tryd.prog w = .ok (.enter g args) w) (p : Int × Int → Bool) (xs : List (Int × Int)) (W : World) (h1 : Rd W B 2 A xs.length (Cs encS xs)) (hB1 : B ≤ W.heap.size) (hl1 : xs.length ≤ 4096)
    (HC : ∀ w x, Below W.heap.size W w → x ∈ xs → Calls Tryd.prog g (#[.agg #[.int .i64 x.1, .int .i64 x.2]] ++ lb) w fun e w' => e = .returned (.bool (p x)) ∧ Below w.heap.size w w') :
    Calls Tryd.prog 35 #[.slice A xs.length c, .func (.func g) #[] lb] W fun e W' => ∃ v, e = .returned v ∧ W'.ownsRow W.heap.size 4 1 v (xs.map p).length (Cs encB (xs.map p)) ∧ Below W.heap.size W W' := by
  have HC := hide HC
  go_enter Tryd.func35, Tryd.ntmps35
  go_wp2_with fail
  go_loopw [5, 10] (fun v i wr => ∃ k : Nat, k ≤ xs.length ∧ i = .int .i64 k ∧ wr.ownsRow W.heap.size 4 1 v ((xs.take k).map p).length (Cs encB ((xs.take k).map p)) ∧ Below W.heap.size W wr) (fun _ i _ => xs.length - (intOf i).toNat)
  case atStart => exact ⟨0, Nat.zero_le _, rfl, World.ownsRow_nil _ _ _ _, Below.refl _ _⟩
  case round =>
    obtain ⟨k, hk, rfl, hown, hbw⟩ := hrel
    have HO := hide hown
    have HBW := hide hbw
    have hsz := hbw.size
    clear hown hbw
    by_cases hlt : k < xs.length
    · obtain ⟨b1, o1, rfl, hb1, d0, d1⟩ := (h1.below (HBW.out.mono hB1)).sec hlt
      have hbl : b1 < wr.heap.size := by omega
      have HBN := hide (show Below W.heap.size W (wr.alloc (.cells #[.int .i64 xs[k].1, .int .i64 xs[k].2] 23)) from HBW.out.trans ((Below.refl _ _).alloc hsz _))
      have HK := hide (HC.out _ xs[k] HBN.out (List.getElem_mem hlt))
      have HX := hide (show (xs.take (k + 1)).map p = (xs.take k).map p ++ [p xs[k]] from by rw [List.take_succ_eq_append_getElem hlt, List.map_append]; rfl)
      have hki : (k : Int) < (xs.length : Int) := by omega
      have hll : ((xs.take k).map p).length ≤ 4096 := by rw [List.length_map, List.length_take]; omega
      have HRN := hide (RowAt.new wr 23 #[.int .i64 xs[k].1, .int .i64 xs[k].2])
      have HO1 := hide (own_keepB HO.out ((Below.refl _ _).alloc (Nat.le_refl _) (.cells #[.int .i64 xs[k].1, .int .i64 xs[k].2] 23)))
      generalize xs[k] = x at *
      obtain ⟨r, hr⟩ : ∃ r, p x = r := ⟨_, rfl⟩
      rw [hr] at HK HX
      clear hr hb1
      go_wp2_with fail
      generalize wr.alloc (.cells #[.int .i64 x.1, .int .i64 x.2] 23) = w1 at *
      refine HK.out.mono ?_
      rintro e w2 ⟨rfl, hb2⟩
      have HB2 := hide (HBN.out.trans (hb2.mono HBN.out.size))
      have HO2 := hide (own_keepB HO1.out hb2)
      have hs2 := HB2.out.size
      have hrn := Rd.new w2 #[.bool r] 4 1 1 rfl
      have HRD := hide hrn
      clear hrn hb2
      go_wp2_with (at_builtin; refine wpList_app elB rfl _ _ rfl rfl (HO2.out.alloc _) rfl HRD.out (by simp [Value.oneCell']) (by omega) (by simp; omega) ?_; intro v2 w3 hown3 hb3 _ _; have HB4 := hide (HB2.out.trans (((Below.refl W.heap.size w2).alloc (by omega) (.cells #[.bool r] 4)).trans hb3)); have HO4 := hide hown3; clear hown3 hb3)
      go_roundw
      case rel =>
        refine ⟨k + 1, by omega, by go_num, ?_, HB4.out⟩
        rw [HX.out, Cs_append, List.length_append]
        exact HO4.out
      case measure => simp [intOf]; omega
    · obtain rfl : k = xs.length := by omega
      have HF := HO
      rw [List.take_length] at HF
      go_wp2_with fail
      go_ret
      exact ⟨_, rfl, HF.out, HBW.out⟩
def noneB (k : Int × Int) : Bool := !lookB k.1 k.2
theorem reads1_any (k : Int × Int) (W : World) : Calls Tryd.prog 32 #[.agg #[.int .i64 k.1, .int .i64 k.2]] W fun e W' => e = .returned (.bool (noneB k)) ∧ Below W.heap.size W W' := by
  have HS := hide (look_any k.1 k.2)
  have HF := hide (show (!lookB k.1 k.2) = noneB k from rfl)
  have HBN := hide (show Below W.heap.size W (W.alloc (.cells #[.int .i64 k.1, .int .i64 k.2] 23)) from (Below.refl _ _).alloc (Nat.le_refl _) _)
  generalize lookB k.1 k.2 = y at *
  go_enter Tryd.func32, Tryd.ntmps32
  go_wp2_with fail
  with_reducible refine (HS.out _).mono ?_
  rintro e w2 ⟨rfl, rfl⟩
  go_wp2_with fail
  go_ret
  exact ⟨ret_bool HF.out, HBN.out⟩
/-- Is a look good? -/
def goodL (l : List Sec) (k : Int × Int) : Bool := goodB (cntE (edg l) k.1 : Int) (cntE (edg l) k.2 : Int)
theorem cntE_u64 {l : List Sec} (h : l.length ≤ 4096) (n : Int) : U64 (cntE (edg l) n : Int) := by
  have h1 : cntE (edg l) n ≤ (edg l).length := by unfold cntE; exact (List.takeWhile_sublist _).length_le
  have h2 := edg_len l
  unfold U64
  omega
set_option maxHeartbeats 1000000 in
theorem reads2_any (B gb : Nat) (A : Option Addr) (c m : Nat) (l : List Sec) (k : Int × Int) (W : World) (hb : RowAt W gb 26 #[.slice A m c]) (h : Rd W B 2 A m (Cs encS l)) (hx : l.length = m) (hB : B ≤ W.heap.size) (hm : m ≤ 4096) :
    Calls Tryd.prog 36 #[.agg #[.int .i64 k.1, .int .i64 k.2], .pointer (some ⟨gb, 0, none⟩)] W fun e W' => e = .returned (.bool (goodL l k)) ∧ Below W.heap.size W W' := by
  have q0 := row1 hb
  have ql := hb.lt
  have H := hide h
  have HBN := hide (show Below W.heap.size W (W.alloc (.cells #[.int .i64 k.1, .int .i64 k.2] 23)) from (Below.refl _ _).alloc (Nat.le_refl _) _)
  have HRB := hide (hb.below HBN.out)
  have HRK := hide (RowAt.new W 23 #[.int .i64 k.1, .int .i64 k.2])
  have HCU : Hid (∀ (w : World) (n : Int), Below W.heap.size W w → Calls Tryd.prog 31 #[.slice A m c, .int .i64 n] w fun e w' => e = .returned (.int .u64 (cntE (edg l) n : Int)) ∧ Below w.heap.size w w') :=
    hide fun w n hb => count_any B A c m l n w (H.out.below (hb.mono hB)) hx (Nat.le_trans hB hb.size) hm _ rfl
  have HU := hide (fun n => cntE_u64 (l := l) (by omega) n)
  have HF := hide (show goodB (cntE (edg l) k.1 : Int) (cntE (edg l) k.2 : Int) = goodL l k from rfl)
  obtain ⟨k1, k2⟩ := k
  dsimp only at *
  have HU1 := hide (HU.out k1)
  have HC1 := hide (fun w hb => HCU.out w k1 hb)
  have HC2 := hide (fun w hb => HCU.out w k2 hb)
  generalize (cntE (edg l) k1 : Int) = x1 at *
  generalize (cntE (edg l) k2 : Int) = x2 at *
  have HG := hide (good_any x1 x2 HU1.out)
  rw [HF.out] at HG
  generalize goodL l (k1, k2) = r at *
  clear hb h HCU HU HU1 HF
  go_enter Tryd.func36, Tryd.ntmps36
  go_wp2_with fail
  generalize W.alloc (.cells #[.int .i64 k1, .int .i64 k2] 23) = w1 at *
  have q0 := row1 HRB.out
  have ql := HRB.out.lt
  have e0 := row20 HRK.out
  have e1 := row21 HRK.out
  have el := HRK.out.lt
  have HV := hide (fun z => HBN.out.trans ((via_below w1 z).mono HBN.out.size))
  refine wp_region_via (by kernel_rfl) (by kernel_rfl) ?_
  repeat (go_big_quiet_step (first | (go_at_call 11; with_reducible exact via_of_same (HG.out _)) | (go_at_call 31; first | with_reducible exact via_of (HC1.out _ (HV.out _)) | with_reducible exact via_of (HC2.out _ (HV.out _)))))
  refine via_out fun w4 hb4 => ?_
  have HB4 := hide (HBN.out.trans (hb4.mono HBN.out.size))
  clear hb4
  go_wp2_with fail
  go_ret
  exact ⟨rfl, HB4.out⟩
/-- What Reads comes to: the flags, and why not. -/
def readsV (l : List Sec) (ks : List (Int × Int)) : List Bool × Int := if chk 0 l then (if ks.any noneB then ([], 2) else (ks.map (goodL l), 0)) else ([], 160)
set_option maxHeartbeats 1000000 in
theorem reads_any (B1 B2 : Nat) (A1 A2 : Option Addr) (c1 c2 m : Nat) (l : List Sec) (ks : List (Int × Int)) (W : World) (h : Rd W B1 2 A1 m (Cs encS l)) (hx : l.length = m) (hB1 : B1 ≤ W.heap.size) (hm : m ≤ 4096)
    (h2 : Rd W B2 2 A2 ks.length (Cs encS ks)) (hB2 : B2 ≤ W.heap.size) (hk : ks.length ≤ 4096) (xs : List Bool) (er : Int) (hr : readsV l ks = (xs, er)) :
    Calls Tryd.prog 13 #[.slice A1 m c1, .slice A2 ks.length c2] W fun e W' => ∃ v, e = .returned (.tuple #[v, .int .i64 er]) ∧ W'.ownsRow W.heap.size 4 1 v xs.length (Cs encB xs) ∧ Below W.heap.size W W' := by
  obtain ⟨x, hx1⟩ : ∃ x, chk 0 l = x := ⟨_, rfl⟩
  have HBN := hide (show Below W.heap.size W (W.alloc (.cells #[.slice A1 m c1] 26)) from (Below.refl _ _).alloc (Nat.le_refl _) _)
  have HRN := hide (RowAt.new W 26 #[.slice A1 m c1])
  have H := hide h
  have H2 := hide h2
  have hs1 : W.heap.size < (W.alloc (.cells #[.slice A1 m c1] 26)).heap.size := HRN.out.lt
  have HC := hide (check_any B1 A1 c1 m l _ (h.below (HBN.out.mono hB1)) hx (by omega) hm x hx1)
  cases x with
  | false =>
    have hv : ([], 160) = (xs, er) := by rw [← hr]; unfold readsV; rw [hx1]; rfl
    injection hv with e1 e2
    subst e1
    subst e2
    clear h h2 hr hx1
    go_enter Tryd.func13, Tryd.ntmps13
    go_wp2_with fail
    generalize W.alloc (.cells #[.slice A1 m c1] 26) = w0 at *
    with_reducible refine HC.out.mono ?_
    rintro e w1 ⟨rfl, hb1⟩
    go_wp2_with fail
    go_ret2
    exact ⟨_, rfl, World.ownsRow_nil _ _ _ _, HBN.out.trans (hb1.mono HBN.out.size)⟩
  | true =>
    have HCT : Hid (∀ w, Below W.heap.size W w → Calls Tryd.prog 34 #[.slice A2 ks.length c2, .func (.func 32) #[] #[]] w fun e w' => e = .returned (.bool (ks.any noneB)) ∧ Below w.heap.size w w') :=
      hide fun w hb => ContainsFL B2 A2 c2 32 #[] (enters_of Tryd.func32 (by kernel_rfl) rfl) noneB ks w (H2.out.below (hb.mono hB2)) (Nat.le_trans hB2 hb.size) hk (fun w' x _ _ => reads1_any x w')
    obtain ⟨y, hy⟩ : ∃ y, ks.any noneB = y := ⟨_, rfl⟩
    rw [hy] at HCT
    cases y with
    | true =>
      have hv : ([], 2) = (xs, er) := by rw [← hr]; unfold readsV; rw [hx1, hy]; rfl
      injection hv with e1 e2
      subst e1
      subst e2
      clear h h2 hr hx1 hy
      go_enter Tryd.func13, Tryd.ntmps13
      go_wp2_with fail
      generalize W.alloc (.cells #[.slice A1 m c1] 26) = w0 at *
      with_reducible refine HC.out.mono ?_
      rintro e w1 ⟨rfl, hb1⟩
      have HB1 := hide (HBN.out.trans (hb1.mono HBN.out.size))
      clear hb1
      go_wp2_with fail
      with_reducible refine (HCT.out _ HB1.out).mono ?_
      rintro e w2 ⟨rfl, hb2⟩
      have HB2 := hide (HB1.out.trans (hb2.mono HB1.out.size))
      clear hb2
      go_wp2_with fail
      go_ret2
      exact ⟨_, rfl, World.ownsRow_nil _ _ _ _, HB2.out⟩
    | false =>
      have hv : (ks.map (goodL l), 0) = (xs, er) := by rw [← hr]; unfold readsV; rw [hx1, hy]; rfl
      injection hv with e1 e2
      subst e1
      subst e2
      clear h h2 hr hx1 hy
      go_enter Tryd.func13, Tryd.ntmps13
      go_wp2_with fail
      generalize W.alloc (.cells #[.slice A1 m c1] 26) = w0 at *
      with_reducible refine HC.out.mono ?_
      rintro e w1 ⟨rfl, hb1⟩
      have HB1 := hide (HBN.out.trans (hb1.mono HBN.out.size))
      have HR1 := hide (HRN.out.below hb1)
      have hs2 := hb1.size
      clear hb1
      go_wp2_with fail
      with_reducible refine (HCT.out _ HB1.out).mono ?_
      rintro e w2 ⟨rfl, hb2⟩
      have HB2 := hide (HB1.out.trans (hb2.mono HB1.out.size))
      have HR2 := hide (HR1.out.below hb2)
      have hs3 := hb2.size
      clear hb2
      go_wp2_with fail
      have HM := hide (MadeL B2 A2 c2 36 #[.pointer (some ⟨W.heap.size, 0, none⟩)] (enters_of Tryd.func36 (by kernel_rfl) rfl) (goodL l) ks w2 (H2.out.below (HB2.out.mono hB2)) (Nat.le_trans hB2 HB2.out.size) hk
        (fun w' x hb _ => reads2_any B1 W.heap.size A1 c1 m l x w' (HR2.out.below hb) (H.out.below ((HB2.out.trans (hb.mono HB2.out.size)).mono hB1)) hx (Nat.le_trans hB1 (Nat.le_trans HB2.out.size hb.size)) hm))
      refine HM.out.mono ?_
      rintro e w3 ⟨v, rfl, hown, hb3⟩
      have HB3 := hide (HB2.out.trans (hb3.mono HB2.out.size))
      have HO := hide (ownsRow_base hown HB2.out.size)
      clear hown hb3
      go_wp2_with fail
      go_ret2
      exact ⟨_, rfl, HO.out, HB3.out⟩
end Go.Proofs.YtegnppmmcchmgaaDoor
