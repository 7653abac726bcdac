/-
  Who asks first has it first, and each has it once.
-/
import Derived.Test.YtlelpnahillioaaMuo
set_option linter.unusedSimpArgs false
set_option linter.unusedVariables false
namespace Go.Proofs.Ytlelpnahillioaa
open Go Go.RowKit
attribute [local go_sem] via_cell via_frozen

/-- One mutex for which these have asked, in this order. -/
def lT : List Int → Ml
  | [] => [(0, [])]
  | g :: q => [(g + 1, q)]
structure OkO (os : List Int) : Prop where
  nodup : os.Nodup
  goers : ∀ g ∈ os, 0 ≤ g ∧ g < 8
theorem OkO.len {os : List Int} (h : OkO os) : os.length ≤ 8 := nodup_le 8 os h.nodup (fun g hg => h.goers g hg)
theorem OkO.tail {g : Int} {q : List Int} (h : OkO (g :: q)) : OkO q := ⟨(List.nodup_cons.1 h.nodup).2, fun x hx => h.goers x (by simp [hx])⟩
theorem OkO.drop {os : List Int} (h : OkO os) (k : Nat) : OkO (os.drop k) := ⟨h.nodup.sublist (List.drop_sublist _ _), fun x hx => h.goers x (List.mem_of_mem_drop hx)⟩
theorem OkO.snoc {os : List Int} (h : OkO os) {g : Int} (hg : 0 ≤ g ∧ g < 8) (hn : g ∉ os) : OkO (os ++ [g]) := by
  refine ⟨?_, fun x hx => ?_⟩
  · rw [List.nodup_append]
    refine ⟨h.nodup, by simp, fun a ha b hb e => ?_⟩
    rw [List.mem_singleton] at hb
    subst hb; subst e
    exact hn ha
  · rcases List.mem_append.1 hx with hx | hx
    · exact h.goers x hx
    · rw [List.mem_singleton] at hx; subst hx; exact hg
theorem lT_right {os : List Int} (h : OkO os) : RightM (lT os) := by
  cases os with
  | nil => exact rightM_iff.1 (by decide)
  | cons g q =>
    have hg := h.goers g (by simp)
    refine ⟨by simp [lT], by simp [lT], fun m hm => ?_, ?_⟩
    · simp only [lT, List.mem_singleton] at hm
      subst hm
      exact ⟨by show 0 ≤ g + 1; omega, by show g + 1 ≤ 8; omega, fun e => by have e : g + 1 = 0 := e; omega, fun x hx => h.goers x (by simp [show x ∈ q from hx]), by
        show g + 1 - 1 ∉ q
        rw [show g + 1 - 1 = g by omega]
        exact (List.nodup_cons.1 h.nodup).1⟩
    · have : flatQ (lT (g :: q)) = q := by simp [lT, flatQ]
      rw [this]
      exact (List.nodup_cons.1 h.nodup).2
theorem lT_small {os : List Int} (h : OkO os) : SmallL (lT os) := (lT_right h).small
theorem rightT {os : List Int} (h : OkO os) : rightM (lT os) = true := rightM_iff.2 (lT_right h)
theorem waitsT {g : Int} {os : List Int} : waitsX (lT os) g < 0 ↔ g ∉ os.tail := by
  rw [waitsX_neg]
  cases os <;> simp [lT, flatQ]
theorem askT_arg {os : List Int} (h : OkO os) {g : Int} (hg : goerB g = false) : askF (lT os) 0 g = .error 2 := by
  unfold askF askX
  rw [if_pos (rightT h), hg]
  simp
theorem askT_own {os : List Int} (h : OkO os) {g : Int} (hg : g ∈ os) : askF (lT os) 0 g = .error 151 := by
  have hgo := h.goers g hg
  have hb : goerB g = true := goerB_iff.2 hgo
  unfold askF askX
  rw [if_pos (rightT h), hb]
  have hl : (lT os).length = 1 := by cases os <;> rfl
  rw [hl, if_neg (by simp), if_pos]
  cases os with
  | nil => simp at hg
  | cons a q =>
    rcases List.mem_cons.1 hg with rfl | hq
    · left; simp [lT, mAt]
    · right
      have : ¬ waitsX (lT (a :: q)) g < 0 := fun hw => (waitsT.1 hw) (by simpa using hq)
      omega
theorem askT_ok {os : List Int} (h : OkO os) {g : Int} (hg : goerB g = true) (hn : g ∉ os) : askF (lT os) 0 g = .ok (lT (os ++ [g]), decide (os.length = 0)) := by
  have hgo := goerB_iff.1 hg
  unfold askF askX
  rw [if_pos (rightT h), hg]
  have hl : (lT os).length = 1 := by cases os <;> rfl
  rw [hl, if_neg (by simp)]
  have hw : waitsX (lT os) g < 0 := waitsT.2 (fun hm => hn (List.mem_of_mem_tail hm))
  cases os with
  | nil =>
    rw [if_neg (by simp [lT, mAt] at hw ⊢; omega)]
    simp [lT, mAt]
  | cons a q =>
    have ha := h.goers a (by simp)
    have hag : a ≠ g := fun e => hn (by simp [e])
    rw [if_neg (by simp [lT, mAt] at hw ⊢; omega), if_neg (by simp [lT, mAt]; omega)]
    simp [lT, mAt]
theorem leaveT {g : Int} {q : List Int} (h : OkO (g :: q)) : leaveF (lT (g :: q)) 0 g = .ok (lT q, q.headD (-1)) := by
  have hg := h.goers g (by simp)
  have hb : goerB g = true := goerB_iff.2 hg
  unfold leaveF leaveX
  rw [if_pos (rightT h), hb]
  cases q with
  | nil => simp [lT, mAt]
  | cons n r => simp [lT, mAt]
theorem CheckK {base : Nat} {A : Option Addr} {m c : Nat} {l : Ml} {W : World} (h : Own base W A m c l) (hs : SmallL l) {z : Int} (hz : errM (rightM l) = z) :
    Calls Try.prog 22 #[.slice A m c] W fun e W' => e = .returned (.int .i64 z) ∧ Below W.heap.size W W' := by
  obtain ⟨ts, hl, hr⟩ := h.rm
  exact check_any W.heap.size A c m ts W hr (smallM_of hl hs) (Nat.le_refl _) z (by rw [hl]; exact hz)
/-- Such mutexes, none of whose blocks is x. -/
structure OwnA (base : Nat) (w : World) (A : Option Addr) (m c : Nat) (l : Ml) (x : Option Nat) : Prop where
  ex : ∃ ts, mus ts = l ∧ ts.length = m ∧ MadeM base w (.slice A m c) ts ∧ (∀ g, x = some g → (Value.slice A m c).ownBlock ≠ some g ∧ ∀ t ∈ ts, ∀ p, t.A = some p → p.block ≠ g)
theorem OwnA.own {base : Nat} {w : World} {A : Option Addr} {m c : Nat} {l : Ml} {x : Option Nat} (h : OwnA base w A m c l x) : Own base w A m c l := by
  obtain ⟨ts, h1, h2, h3, _⟩ := h.ex
  exact ⟨ts, h1, h2, h3⟩
theorem OwnA.below {base : Nat} {w w' : World} {A : Option Addr} {m c : Nat} {l : Ml} {x : Option Nat} (h : OwnA base w A m c l x) (hb : Below w.heap.size w w') : OwnA base w' A m c l x := by
  obtain ⟨ts, h1, h2, h3, h4⟩ := h.ex
  exact ⟨ts, h1, h2, h3.below hb, h4⟩
theorem Own.apart {base b : Nat} {w : World} {A : Option Addr} {m c : Nat} {l : Ml} {x : Option Nat} (h : Own base w A m c l) (hx : ∀ g, x = some g → g < base) (hb : b ≤ base) : OwnA b w A m c l x := by
  obtain ⟨ts, h1, h2, h3⟩ := h.ex
  refine ⟨ts, h1, h2, h3.base hb, fun g hg => ⟨fun e => ?_, fun t ht p hp e => ?_⟩⟩
  · have := (h3.own.lt g e).1
    have := hx g hg
    omega
  · have := ((h3.qs t ht).fr p hp).1
    have := hx g hg
    omega
theorem OwnA.grown {base : Nat} {w w' : World} {A : Option Addr} {m c : Nat} {l : Ml} {v v' : Value} (h : OwnA base w A m c l v.ownBlock) (hg : w.grownBy w' v.ownBlock) (hv : v'.ownBlock = v.ownBlock ∨ v'.ownBlock = some w.heap.size) : OwnA base w' A m c l v'.ownBlock := by
  obtain ⟨ts, h1, h2, h3, h4⟩ := h.ex
  have hq : ∀ t ∈ ts, QOk base w' (Value.slice A m c).ownBlock t := fun t ht => (h3.qs t ht).keep hg.size (fun p hp => hg.block _ ((h3.qs t ht).fr p hp).2.1 (fun e => (h4 _ e.symm).2 t ht p hp rfl))
  refine ⟨ts, h1, h2, ⟨?_, hq⟩, fun g hgg => ?_⟩
  · obtain ⟨hl, h5⟩ := h3.own
    refine ⟨hl, ?_⟩
    rcases h5 with h5 | ⟨g, cap, cur, hv1, hg1, hh, r⟩
    · exact .inl h5
    · refine .inr ⟨g, cap, cur, hv1, hg1, (hg.block g (Array.getElem?_eq_some_iff.1 hh).1 (fun e => (h4 g e.symm).1 (by rw [hv1]; rfl))).trans hh, r⟩
  · rcases hv with e | e
    · exact h4 g (by rw [← e]; exact hgg)
    · rw [e] at hgg
      injection hgg with hgg
      subst hgg
      refine ⟨fun e2 => ?_, fun t ht p hp e2 => ?_⟩
      · have := (h3.own.lt _ e2).2
        omega
      · have := ((h3.qs t ht).fr p hp).2.1
        omega
set_option maxRecDepth 100000 in
set_option maxHeartbeats 8000000 in
theorem Turns_walk (A1 : Option Addr) (c1 n1 : Nat) (xs1 : List Int) (W : World) (h1 : Rd W W.heap.size 1 A1 n1 (Cs encI xs1)) (hx1 : xs1.length = n1) (hn1 : n1 ≤ c1) (hm1 : c1 ≤ 9223372036854775807) :
    Calls Try.prog 4 #[.slice A1 n1 c1] W fun e W' => e = .returned (.bool true) ∧ Below W.heap.size W W' := by
  have HX := hide h1
  have HLX := hide hx1
  clear h1 hx1
  go_enter Try.func4, Try.ntmps4
  go_wp2_with fail
  with_reducible refine (wakes_any W).mono ?_
  rintro e w0 ⟨rfl, hb0⟩
  have HB := hide hb0
  clear hb0
  go_wp2_with fail
  with_reducible refine (NewK 1 1 rfl (by omega) (by omega) w0).mono ?_
  rintro e w1 ⟨⟨A0, c0, rfl, ho⟩, hb⟩
  have HO := hide (show Own W.heap.size w1 A0 1 c0 (lT []) from ho.base HB.out.size)
  replace HB := hide (HB.out.trans (hb.mono HB.out.size))
  clear ho hb
  go_wp2_with fail
  go_loopw [3, 5, 27] (fun lv sv i wr => ∃ (k : Nat) (os : List Int) (v : Value) (A : Option Addr) (c : Nat), k ≤ n1 ∧ lv = .slice A 1 c ∧ v = sv ∧ i = .int .i64 k ∧ OkO os ∧ OwnA W.heap.size wr A 1 c (lT os) v.ownBlock ∧ wr.ownsRow W.heap.size 3 1 v os.length (Cs encI os) ∧ Below W.heap.size W wr) (fun _ _ i _ => n1 - (intOf i).toNat)
  case atStart => exact ⟨0, [], _, A0, c0, Nat.zero_le _, rfl, rfl, rfl, ⟨by simp, by simp⟩, HO.out.apart (fun g hg => by cases hg) (Nat.le_refl _), World.ownsRow_nil _ _ _ _, HB.out⟩
  case round =>
    obtain ⟨k, os, v, A, c, hk, rfl, rfl, rfl, hok, hown, hrow, hbw⟩ := hrel
    have HOK := hide hok
    have HOW := hide hown
    have HRO := hide hrow
    have HBW := hide hbw
    clear hok hown hrow hbw
    by_cases hlt : k < n1
    · obtain ⟨b, o, rfl, hb, d0⟩ := (HX.out.below HBW.out).numD HLX.out hlt
      have hbl : b < wr.heap.size := Nat.lt_of_lt_of_le hb HBW.out.size
      have hkm : (k : Int) < (n1 : Int) := by omega
      generalize xs1.getD k 0 = g at *
      obtain ⟨bg, hbg⟩ : ∃ x, goerB g = x := ⟨_, rfl⟩
      have HBG := hide hbg
      clear hb hbg
      cases bg
      · have HC := hide (AskK 0 g HOW.out.own (lT_small HOK.out) (l2 := []) (b := false) (E := 2) (by rw [askT_arg HOK.out HBG.out]; rfl) (by rw [askT_arg HOK.out HBG.out]; rfl) (by rw [askT_arg HOK.out HBG.out]; rfl))
        have hgd : decide (g < 0) = true ∨ (decide (g < 0) = false ∧ decide (8 ≤ g) = true) := by
          have h := HBG.out
          unfold goerB at h
          simp at h ⊢
          omega
        go_wp2_with fail
        with_reducible refine HC.out.mono ?_
        rintro e w2 ⟨⟨A2, m2, c2, rfl, _⟩, hb⟩
        have HO2 := hide (HOW.out.below hb)
        have HR2 := hide (own_keepB HRO.out hb)
        have HB2 := hide (HBW.out.trans (hb.mono HBW.out.size))
        clear hb
        rcases hgd with h1 | ⟨h1, h2⟩
        · go_wp2_with fail
          go_roundw
          case rel => exact ⟨k + 1, os, v, A, c, by omega, rfl, rfl, by go_num, HOK.out, HO2.out, HR2.out, HB2.out⟩
          case measure => simp [intOf]; omega
        · go_wp2_with fail
          go_roundw
          case rel => exact ⟨k + 1, os, v, A, c, by omega, rfl, rfl, by go_num, HOK.out, HO2.out, HR2.out, HB2.out⟩
          case measure => simp [intOf]; omega
      · have hgg := goerB_iff.1 HBG.out
        have hg1 : decide (g < 0) = false := by simp; omega
        have hg2 : decide (8 ≤ g) = false := by simp; omega
        obtain ⟨bc, hbc⟩ : ∃ x, os.contains g = x := ⟨_, rfl⟩
        obtain ⟨vA, vc, rfl, hvc, hvm⟩ := own_form2 HRO.out
        have HCT := hide (fun w (hb : Below wr.heap.size wr w) => contains_any wr.heap.size vA vc os.length os g w ((Rd.of_own HRO.out).below hb) rfl (by have := HOK.out.len; omega) hb.size bc hbc)
        cases bc
        · have hno : g ∉ os := by simpa using hbc
          have HE := hide (askT_ok HOK.out HBG.out hno)
          have HOK2 := hide (HOK.out.snoc hgg hno)
          obtain ⟨be, hbe⟩ : ∃ be, decide (os.length = 0) = be := ⟨_, rfl⟩
          have HC := hide (AskK 0 g HOW.out.own (lT_small HOK.out) (l2 := lT (os ++ [g])) (b := be) (E := 0) (by rw [HE.out]; rfl) (by rw [HE.out]; exact hbe) (by rw [HE.out]; rfl))
          have HBE := hide (show ((os.length : Int) == 0) = be from by rw [← hbe, Bool.eq_iff_iff]; simp)
          clear hbe
          have HLN := hide HOK.out.len
          clear hbc hno hgg
          go_wp2_with fail
          with_reducible refine HC.out.mono ?_
          rintro e w2 ⟨⟨A2, m2, c2, rfl, ho2⟩, hb⟩
          obtain rfl : m2 = 1 := by have := ho2.len; rw [← this]; cases os <;> rfl
          have HO2 := hide (show OwnA W.heap.size w2 A2 1 c2 (lT (os ++ [g])) (Value.slice vA os.length vc).ownBlock from ho2.apart (fun g2 hg2 => (HRO.out.lt g2 hg2).2) HBW.out.size)
          have HBB := hide hb
          have HB2 := hide (HBW.out.trans (hb.mono HBW.out.size))
          clear hb ho2 d0
          go_wp2_with fail
          with_reducible refine (HCT.out _ HBB.out).mono ?_
          rintro e w3 ⟨rfl, rfl⟩
          have HR2 := hide (own_keepB HRO.out HBB.out)
          have HCK := hide (CheckK HO2.out.own (lT_small HOK2.out) (z := 0) (by rw [rightT HOK2.out]; rfl))
          have hbe1 := HBE.out
          have hbe2 : (be != be) = false := by simp
          clear HCT HC
          go_wp2_with fail
          with_reducible refine HCK.out.mono ?_
          rintro e w4 ⟨rfl, hb⟩
          have HO4 := hide (HO2.out.below hb)
          have HR4 := hide (own_keepB HR2.out hb)
          have HB4 := hide (HB2.out.trans (hb.mono HB2.out.size))
          have HSRC := hide (Rd.new w4 #[.int .i64 g] 3 1 1 rfl)
          have HR5 := hide (HR4.out.alloc (.cells #[.int .i64 g] 3))
          have HBA := hide (show Below w4.heap.size w4 (w4.alloc (.cells #[.int .i64 g] 3)) from (Below.refl _ _).alloc (Nat.le_refl _) _)
          have hln := HLN.out
          clear hb HCK hbe1 hbe2
          go_wp2_with (at_builtin; go_loud (refine wpList_app elI rfl _ _ rfl rfl HR5.out rfl HSRC.out (by simp [Value.oneCell']) (by omega) (by have := HB4.out.size; have := HBA.out.size; omega) ?_; intro v2 wB hownB hbB hgB hvB))
          have HNEW := hide (show wB.ownsRow W.heap.size 3 1 v2 (os ++ [g]).length (Cs encI (os ++ [g])) from by rw [List.length_append, Cs_append, Cs_one]; exact hownB)
          have HBE := hide (HB4.out.trans ((HBA.out.mono HB4.out.size).trans hbB))
          have HO6 := hide (show OwnA W.heap.size wB A2 1 c2 (lT (os ++ [g])) v2.ownBlock from (HO4.out.below HBA.out).grown hgB hvB)
          clear hownB hbB hgB hvB
          go_wp2_with fail
          go_roundw
          case rel => exact ⟨k + 1, os ++ [g], v2, A2, c2, by omega, rfl, rfl, by go_num, HOK2.out, HO6.out, HNEW.out, HBE.out⟩
          case measure => simp [intOf]; omega
        · have hin : g ∈ os := by simpa using hbc
          have HE := hide (askT_own HOK.out hin)
          have HC := hide (AskK 0 g HOW.out.own (lT_small HOK.out) (l2 := []) (b := false) (E := 151) (by rw [HE.out]; rfl) (by rw [HE.out]; rfl) (by rw [HE.out]; rfl))
          clear hbc hin hgg
          go_wp2_with fail
          with_reducible refine HC.out.mono ?_
          rintro e w2 ⟨⟨A2, m2, c2, rfl, ho2⟩, hb⟩
          obtain rfl : m2 = 0 := ho2.len.symm
          have HO2 := hide (HOW.out.below hb)
          have HBB := hide hb
          have HB2 := hide (HBW.out.trans (hb.mono HBW.out.size))
          clear hb ho2 d0
          go_wp2_with fail
          with_reducible refine (HCT.out _ HBB.out).mono ?_
          rintro e w3 ⟨rfl, rfl⟩
          have HR2 := hide (own_keepB HRO.out HBB.out)
          clear HCT HC
          go_wp2_with fail
          go_roundw
          case rel => exact ⟨k + 1, os, _, A, c, by omega, rfl, rfl, by go_num, HOK.out, HO2.out, HR2.out, HB2.out⟩
          case measure => simp [intOf]; omega
    · obtain ⟨w7, h7⟩ : ∃ w, w = wr := ⟨_, rfl⟩
      subst h7
      obtain ⟨vA, vc, rfl, hvc, hvm⟩ := own_form2 HRO.out
      have HRD := hide (Rd.of_own HRO.out)
      have HOW2 := hide HOW.out.own
      obtain ⟨n, hn⟩ : ∃ n, os.length = n := ⟨_, rfl⟩
      rw [hn] at HRD
      have hn8 : n ≤ 8 := by rw [← hn]; exact HOK.out.len
      have hn8I : (n : Int) ≤ 8 := by omega
      have HN := hide hn
      clear HOW HRO
      go_wp2_with fail
      rw [hn]
      clear hn
      go_loopw [3, 78] (fun lv i wr2 => ∃ (j : Nat) (A : Option Addr) (c : Nat), j ≤ n ∧ lv = .slice A 1 c ∧ i = .int .i64 j ∧ Own W.heap.size wr2 A 1 c (lT (os.drop j)) ∧ Below w7.heap.size w7 wr2) (fun _ i _ => n - (intOf i).toNat)
      case atStart => exact ⟨0, A, c, Nat.zero_le _, rfl, rfl, HOW2.out, Below.refl _ _⟩
      case round =>
        obtain ⟨j, A5, c5, hj, rfl, rfl, hown, hbw⟩ := hrel
        have HOJ := hide hown
        have HBJ := hide hbw
        clear hown hbw
        by_cases hlt2 : j < n
        · have hlx : j < os.length := by rw [HN.out]; exact hlt2
          obtain ⟨b, o, rfl, hb, d0⟩ := (HRD.out.below HBJ.out).numD HN.out hlt2
          have hbl : b < wr.heap.size := Nat.lt_of_lt_of_le hb HBJ.out.size
          have hjI : (j : Int) < (n : Int) := by omega
          have hj8 : (j : Int) < 8 := by omega
          have HDR := hide (show os.drop j = os.getD j 0 :: os.drop (j + 1) from by rw [List.drop_eq_getElem_cons hlx, List.getD_eq_getElem?_getD, List.getElem?_eq_getElem hlx]; rfl)
          have HOKJ := hide (HOK.out.drop j)
          have HOKN := hide (HOK.out.drop (j + 1))
          have HHD := hide (show (os.drop (j + 1)).headD (-1) = if j + 1 < n then os.getD (j + 1) 0 else -1 from by
            by_cases h : j + 1 < n
            · rw [if_pos h, List.drop_eq_getElem_cons (by rw [HN.out]; exact h), List.getD_eq_getElem?_getD, List.getElem?_eq_getElem (by rw [HN.out]; exact h)]; rfl
            · rw [if_neg h, List.drop_eq_nil_of_le (by rw [HN.out]; omega)]; rfl)
          rw [HDR.out] at HOJ HOKJ
          generalize os.getD j 0 = g at *
          have HE := hide (leaveT HOKJ.out)
          obtain ⟨nx, hnx⟩ : ∃ x, (os.drop (j + 1)).headD (-1) = x := ⟨_, rfl⟩
          have HC := hide (LeaveK 0 g HOJ.out (lT_small HOKJ.out) (l2 := lT (os.drop (j + 1))) (n := nx) (E := 0) (by rw [HE.out]; rfl) (by rw [HE.out]; exact hnx) (by rw [HE.out]; rfl))
          rw [hnx] at HHD
          clear hb hnx
          go_wp2_with fail
          with_reducible refine HC.out.mono ?_
          rintro e w2 ⟨⟨A6, m6, c6, rfl, ho6⟩, hb⟩
          obtain rfl : m6 = 1 := by have := ho6.len; rw [← this]; cases os.drop (j + 1) <;> rfl
          have HO6 := hide (show Own W.heap.size w2 A6 1 c6 (lT (os.drop (j + 1))) from ho6.base (Nat.le_trans HBW.out.size HBJ.out.size))
          have HB6 := hide (HBJ.out.trans (hb.mono HBJ.out.size))
          have HCK := hide (CheckK HO6.out (lT_small HOKN.out) (z := 0) (by rw [rightT HOKN.out]; rfl))
          have hxx : (nx != nx) = false := by simp
          clear hb ho6 HC d0
          by_cases hl3 : j + 1 < n
          · obtain ⟨b2, o2, hbo, hb2, d2⟩ := (HRD.out.below HB6.out).numD HN.out hl3
            injection hbo with hbo
            injection hbo with hbo1 hbo2
            subst hbo1; subst hbo2
            have hbl2 : b < w2.heap.size := Nat.lt_of_lt_of_le hb2 HB6.out.size
            rw [← HHD.out.trans (if_pos hl3)] at d2
            have hlI : (j : Int) + 1 < (n : Int) := by omega
            have d2' : w2.cell? ⟨b, o + (j + 1), none⟩ = some (.int .i64 nx) := d2
            clear hl3 hb2 HHD
            go_wp2_with fail
            with_reducible refine HCK.out.mono ?_
            rintro e w3 ⟨rfl, hb⟩
            have HO7 := hide (HO6.out.below hb)
            have HB7 := hide (HB6.out.trans (hb.mono HB6.out.size))
            clear hb
            go_wp2_with fail
            go_roundw
            case rel => exact ⟨j + 1, A6, c6, by omega, rfl, by go_num, HO7.out, HB7.out⟩
            case measure => simp [intOf]; omega
          · have hl4 : decide ((j : Int) + 1 < (n : Int)) = false := by simp; omega
            obtain rfl : nx = -1 := HHD.out.trans (if_neg hl3)
            clear hl3 HHD
            go_wp2_with fail
            with_reducible refine HCK.out.mono ?_
            rintro e w3 ⟨rfl, hb⟩
            have HO7 := hide (HO6.out.below hb)
            have HB7 := hide (HB6.out.trans (hb.mono HB6.out.size))
            clear hb
            go_wp2_with fail
            go_roundw
            case rel => exact ⟨j + 1, A6, c6, by omega, rfl, by go_num, HO7.out, HB7.out⟩
            case measure => simp [intOf]; omega
        · obtain rfl : j = n := by omega
          have HE := hide (show os.drop j = [] from List.drop_eq_nil_of_le (by rw [HN.out]; exact Nat.le_refl _))
          rw [HE.out] at HOJ
          have HRG := hide (RingK HOJ.out (by unfold SmallL; decide) (xs := []) (n := 0) (by decide) rfl)
          obtain ⟨ts, hts, hrm⟩ := HOJ.out.rm
          have HTS := hide hts
          have HRM := hide hrm
          clear hts hrm
          go_wp2_with fail
          with_reducible refine HRG.out.mono ?_
          rintro e w2 ⟨⟨A6, c6, rfl, _, _, _⟩, hb⟩
          obtain ⟨b, o, rfl, hb2, d0, d1, _⟩ := (HRM.out.below hb).at_ (k := 0) (by omega)
          have hbl : b < w2.heap.size := Nat.lt_of_lt_of_le hb2 hb.size
          have ht0 : (ts.getD 0 mmZ).mu = (0, []) := by rw [← mus_at, HTS.out]; rfl
          have ht1 : (ts.getD 0 mmZ).who = 0 := congrArg Prod.fst ht0
          have ht2 : (ts.getD 0 mmZ).q = [] := congrArg Prod.snd ht0
          rw [ht1] at d0
          rw [ht2] at d1
          simp only [List.length_nil, Nat.zero_mul, Nat.add_zero] at d0 d1
          have HBF := hide (HBW.out.trans ((HBJ.out.trans (hb.mono HBJ.out.size)).mono HBW.out.size))
          generalize ts.getD 0 mmZ = t at *
          clear hb ht0 ht1 ht2 hb2
          go_wp2_with fail
          go_ret
          exact ⟨rfl, HBF.out⟩
end Go.Proofs.Ytlelpnahillioaa
