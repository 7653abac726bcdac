/-
  Bad touches are kept; good ones change nothing; who is not pinned has nothing: the walk.
-/
import Derived.Test.YtfpbabafeecncaaMoz
import Derived.Deep.CutRange
import Derived.Deep.CutBlock
set_option linter.unusedSimpArgs false
set_option linter.unusedVariables false
namespace Go.Proofs.Ytfpbabafeecncaa
open Go Go.RowKit
attribute [local go_sem] via_cell via_frozen

theorem cut_fit (m : Mon) : FitM (cutMo m) 20 := by
  refine ⟨?_, ?_, ?_, ?_, ?_, by omega⟩
  · simp [cutMo]; omega
  · simp [cutMo]; omega
  · simp [cutMo]; omega
  · simp [cutMo]; omega
  · intro l hl
    simp only [cutMo, List.mem_map] at hl
    obtain ⟨x, _, rfl⟩ := hl
    simp; omega
set_option maxRecDepth 100000 in
set_option maxHeartbeats 16000000 in
theorem Counts_walk (a0 a1 a2 a3 : Option Addr) (n0 n1 n2 n3 c0 c1 c2 c3 : Nat) (ts : List Hm) (m0 : Mon) (A : Option Addr) (c n : Nat) (l : List Wt) (W : World) (h : MonX W W.heap.size a0 a1 a2 a3 n0 n1 n2 n3 ts m0)
    (hc0 : n0 ≤ c0 ∧ c0 ≤ 9223372036854775807) (hc1 : n1 ≤ c1 ∧ c1 ≤ 9223372036854775807) (hc2 : n2 ≤ c2 ∧ c2 ≤ 9223372036854775807) (hc3 : n3 ≤ c3 ∧ c3 ≤ 9223372036854775807) (hcap : ∀ t ∈ ts, t.q.length ≤ t.c ∧ t.c ≤ 9223372036854775807)
    (hl : Rd W W.heap.size 4 A n (Cs encX l)) (hx : l.length = n) (hn : n ≤ 9223372036854775807) (hU : ∀ e ∈ l, U64 e.2.2.2) :
    Calls Try.prog 6 #[.agg #[.slice a0 n0 c0, .slice a1 n1 c1, .slice a2 n2 c2, .slice a3 n3 c3], .slice A n c] W fun e W' => e = .returned (.bool true) ∧ Below W.heap.size W W' := by
  have HX := hide hl
  have HLX := hide hx
  have HU := hide hU
  have hb0 : Below W.heap.size W (W.alloc (.cells #[.slice a0 n0 c0, .slice a1 n1 c1, .slice a2 n2 c2, .slice a3 n3 c3] 32)) := (Below.refl _ _).alloc (Nat.le_refl _) _
  have R2 := hide (RowAt.new W 32 #[.slice a0 n0 c0, .slice a1 n1 c1, .slice a2 n2 c2, .slice a3 n3 c3])
  have HM0 := hide (h.below hb0)
  have HB := hide hb0
  clear h hl hx hb0
  go_enter Try.func6, Try.ntmps6
  go_wp2_with fail
  generalize W.alloc (.cells #[.slice a0 n0 c0, .slice a1 n1 c1, .slice a2 n2 c2, .slice a3 n3 c3] 32) = w1 at *
  with_reducible refine (wakes_any w1).mono ?_
  rintro e w2 ⟨rfl, hb⟩
  replace R2 := hide (R2.out.below hb)
  replace HM0 := hide (HM0.out.below (hb.mono HB.out.size))
  replace HB := hide (HB.out.trans (hb.mono HB.out.size))
  clear hb
  obtain ⟨q0, q1, q2, q3⟩ := row4 R2.out
  have ql := R2.out.lt
  go_wp2_with fail
  with_reducible refine (own_any W.heap.size a0 a1 a2 a3 n0 n1 n2 n3 c0 c1 c2 c3 ts m0 w2 HM0.out HB.out.size hc0 hc1 hc2 hc3 hcap).mono ?_
  rintro e w3 ⟨⟨v, rfl, hm⟩, hb⟩
  obtain ⟨xa0, xa1, xa2, xa3, xn0, xn1, xn2, xn3, xc0, xc1, xc2, xc3, rfl⟩ := hm.form
  replace HB := hide (HB.out.trans (hb.mono HB.out.size))
  have hm : MonOut 0 w3 (.agg #[.slice xa0 xn0 xc0, .slice xa1 xn1 xc1, .slice xa2 xn2 xc2, .slice xa3 xn3 xc3]) (cutMo m0) := hm.up (Nat.zero_le _)
  have HF := hide (cut_fit m0)
  obtain ⟨m, hmm⟩ : ∃ m, cutMo m0 = m := ⟨_, rfl⟩
  rw [hmm] at hm
  rw [hmm] at HF
  clear q0 q1 q2 q3 ql R2 HM0 hb hmm
  have HM := hide hm
  clear hm hc0 hc1 hc2 hc3 hcap
  go_upto_region 4 with (refine wpList_store_new rfl 32 _ _ rfl _ #[.slice xa0 xn0 xc0, .slice xa1 xn1 xc1, .slice xa2 xn2 xc2, .slice xa3 xn3 xc3] w3.heap.size rfl rfl rfl (by kernel_rfl) rfl (by simp [Value.oneCell']) ?_)
  have hbx : Below w3.heap.size w3 (w3.alloc (.cells #[.slice xa0 xn0 xc0, .slice xa1 xn1 xc1, .slice xa2 xn2 xc2, .slice xa3 xn3 xc3] 32)) := (Below.refl _ _).alloc (Nat.le_refl _) _
  have R5 := hide (RowAt.new w3 32 #[.slice xa0 xn0 xc0, .slice xa1 xn1 xc1, .slice xa2 xn2 xc2, .slice xa3 xn3 xc3])
  replace HM := hide (HM.out.below hbx)
  have HG := hide HB.out.size
  replace HB := hide (HB.out.trans (hbx.mono HB.out.size))
  clear hbx
  generalize w3.alloc (.cells #[.slice xa0 xn0 xc0, .slice xa1 xn1 xc1, .slice xa2 xn2 xc2, .slice xa3 xn3 xc3] 32) = w4 at *
  generalize w3.heap.size = g5 at *
  obtain ⟨q0, q1, q2, q3⟩ := row4 R5.out
  have ql := R5.out.lt
  go_wp2_with fail
  with_reducible refine (vCheck HM.out HF.out (errM m.ok) rfl).mono ?_
  rintro e w5 ⟨rfl, hb⟩
  replace R5 := hide (R5.out.below hb)
  replace HM := hide (HM.out.below hb)
  replace HB := hide (HB.out.trans (hb.mono HB.out.size))
  clear hb q0 q1 q2 q3 ql
  rcases Bool.eq_false_or_eq_true m.ok with ho | ho
  case inr =>
    have he : errM m.ok = 220 := by rw [ho]; rfl
    rw [he]
    obtain ⟨q0, q1, q2, q3⟩ := row4 R5.out
    have ql := R5.out.lt
    have HY := hide (show HoldM m (0, 0) = [] from by unfold HoldM; rw [ho]; rfl)
    clear he ho
    go_wp2_with fail
    with_reducible refine (vHolders HM.out HF.out 0 0 [] HY.out 0 rfl).mono ?_
    rintro e w6 ⟨⟨A', c', rfl, _⟩, hb⟩
    replace HB := hide (HB.out.trans (hb.mono HB.out.size))
    clear hb q0 q1 q2 q3 ql
    go_wp2_with fail
    go_ret
    exact ⟨rfl, HB.out⟩
  case inl =>
    have he : errM m.ok = 0 := by rw [ho]; rfl
    rw [he]
    have HO := hide (ok_iff.1 ho)
    clear he ho
    go_wp2_with fail
    go_loopw [29] (fun i wr => ∃ (k : Nat) (m : Mon) (B : Nat) (ya0 ya1 ya2 ya3 : Option Addr) (yn0 yn1 yn2 yn3 yc0 yc1 yc2 yc3 : Nat), k ≤ n ∧ k ≤ 40 ∧ i = .int .i64 k ∧ RowAt wr g5 32 #[.slice ya0 yn0 yc0, .slice ya1 yn1 yc1, .slice ya2 yn2 yc2, .slice ya3 yn3 yc3] ∧ MonOut B wr (.agg #[.slice ya0 yn0 yc0, .slice ya1 yn1 yc1, .slice ya2 yn2 yc2, .slice ya3 yn3 yc3]) m ∧ OkM m ∧ HasLe m (20 + k) ∧ Below W.heap.size W wr) (fun i _ => n - (intOf i).toNat)
    case atStart => exact ⟨0, m, 0, _, _, _, _, _, _, _, _, _, _, _, _, Nat.zero_le _, Nat.zero_le _, rfl, R5.out, HM.out, HO.out, HF.out.rows, HB.out⟩
    case round =>
      clear HM HF HO HB R5 m
      obtain ⟨k, m, B, ya0, ya1, ya2, ya3, yn0, yn1, yn2, yn3, yc0, yc1, yc2, yc3, hk, hk40, rfl, hr5, hm, ho, hle, hbw⟩ := hrel
      have R5 := hide hr5
      have HM := hide hm
      have HO := hide ho
      have HLE := hide hle
      have HF := hide (fit_of ho hle (by omega))
      have HB := hide hbw
      clear hr5 hm ho hle hbw
      by_cases hlt : k < n
      case neg =>
        obtain rfl : k = n := by omega
        go_wp2_with fail
        go_ret
        exact ⟨rfl, HB.out⟩
      case pos =>
        obtain ⟨b, o, rfl, hb, d0, d1, d2, d3⟩ := (HX.out.below HB.out).watchAt HLX.out hlt
        have hbl : b < wr.heap.size := Nat.lt_of_lt_of_le hb HB.out.size
        have hkm : (k : Int) < (n : Int) := by omega
        have HUZ := hide (show U64 (l.getD k (0, 0, 0, 0)).2.2.2 from HU.out _ (by rw [List.getD_eq_getElem?_getD, List.getElem?_eq_getElem (by rw [HLX.out]; exact hlt)]; exact List.getElem_mem _))
        generalize l.getD k (0, 0, 0, 0) = t at *
        obtain ⟨tk, tg, ts, tz⟩ := t
        dsimp only at *
        clear hb
        obtain ⟨w6, hw6⟩ : ∃ w, w = wr := ⟨_, rfl⟩
        subst hw6
        by_cases h40 : k = 40
        · have hd : ((k : Int) == 40) = true := by simp; omega
          have HBN := hide (show Below W.heap.size W (w6.alloc (.cells #[.int .i64 tk, .int .i64 tg, .int .i64 ts, .int .u64 tz] 45)) from HB.out.alloc HB.out.size _)
          clear h40
          go_wp2_with fail
          go_ret
          exact ⟨rfl, HBN.out⟩
        · have hd : ((k : Int) == 40) = false := by rw [beq_eq_false_iff_ne]; omega
          go_upto_region 9 with (refine wpList_store_new rfl 45 _ _ rfl _ #[.int .i64 tk, .int .i64 tg, .int .i64 ts, .int .u64 tz] w6.heap.size rfl rfl rfl (by kernel_rfl) rfl (by simp [Value.oneCell']) ?_)
          have hbn : Below w6.heap.size w6 (w6.alloc (.cells #[.int .i64 tk, .int .i64 tg, .int .i64 ts, .int .u64 tz] 45)) := (Below.refl _ _).alloc (Nat.le_refl _) _
          have R7 := hide (RowAt.new w6 45 #[.int .i64 tk, .int .i64 tg, .int .i64 ts, .int .u64 tz])
          replace R5 := hide (R5.out.below hbn)
          replace HM := hide (HM.out.below hbn)
          replace HB := hide (HB.out.trans (hbn.mono HB.out.size))
          clear hbn d0 d1 d2 d3 hbl
          generalize w6.alloc (.cells #[.int .i64 tk, .int .i64 tg, .int .i64 ts, .int .u64 tz] 45) = w7 at *
          generalize w6.heap.size = g7 at *
          obtain ⟨q0, q1, q2, q3⟩ := row4 R5.out
          have ql := R5.out.lt
          obtain ⟨r0, r1, r2, r3⟩ := row4 R7.out
          have rl := R7.out.lt
          go_wp2_with fail
          obtain ⟨good, hgood⟩ : ∃ b, GoodM m (tk, tg, ts, tz) = b := ⟨_, rfl⟩
          with_reducible refine (vGood HM.out HF.out tk tg ts tz good hgood).mono ?_
          rintro e w8 ⟨rfl, hb⟩
          replace R5 := hide (R5.out.below hb)
          replace R7 := hide (R7.out.below hb)
          replace HM := hide (HM.out.below hb)
          replace HB := hide (HB.out.trans (hb.mono HB.out.size))
          have HGD := hide hgood
          clear hb q0 q1 q2 q3 ql r0 r1 r2 r3 rl hgood
          obtain ⟨q0, q1, q2, q3⟩ := row4 R5.out
          have ql := R5.out.lt
          obtain ⟨r0, r1, r2, r3⟩ := row4 R7.out
          have rl := R7.out.lt
          go_wp2_with fail
          obtain ⟨rr, hrr⟩ : ∃ rr, DoM m (tk, tg, ts, tz) = rr := ⟨_, rfl⟩
          obtain ⟨⟨te, tez⟩, hte⟩ : ∃ e, outE rr = e := ⟨_, rfl⟩
          obtain ⟨kk, hkk⟩ : ∃ kk, outK rr = kk := ⟨_, rfl⟩
          obtain ⟨nm, hnm⟩ : ∃ nm, outM rr = nm := ⟨_, rfl⟩
          with_reducible refine (vDoK (n := nm) (te := te) (tz := tez) (kk := kk) HM.out HF.out HUZ.out (by rw [hrr]; exact hnm) (by rw [hrr]; exact hte) (by rw [hrr]; exact hkk)).mono ?_
          rintro e w9 ⟨⟨za0, za1, za2, za3, zn0, zn1, zn2, zn3, zc0, zc1, zc2, zc3, rfl, hm9⟩, hb⟩
          replace R5 := hide (R5.out.below hb)
          replace R7 := hide (R7.out.below hb)
          replace HM := hide (HM.out.below hb)
          replace HB := hide (HB.out.trans (hb.mono HB.out.size))
          have HBS := hide (show g5 < w8.heap.size from ql)
          have HR := hide (And.intro hrr (And.intro hkk hnm))
          have M9 := hide hm9
          clear hb q0 q1 q2 q3 ql r0 r1 r2 r3 rl hrr hkk hnm hte hm9

          go_upto_region 12 with (fail)
          have hbn : Below w9.heap.size w9 ((w9.alloc (.cells #[.slice za0 zn0 zc0, .slice za1 zn1 zc1, .slice za2 zn2 zc2, .slice za3 zn3 zc3] 32)).alloc (.cells #[.int .i64 te, .int .u64 tez] 43)) := ((Below.refl _ _).alloc (Nat.le_refl _) _).alloc (by simp) _
          have R9 := hide ((RowAt.new w9 32 #[.slice za0 zn0 zc0, .slice za1 zn1 zc1, .slice za2 zn2 zc2, .slice za3 zn3 zc3]).below ((Below.refl _ _).alloc (Nat.le_refl _) (.cells #[.int .i64 te, .int .u64 tez] 43)))
          replace R5 := hide (R5.out.below hbn)
          replace R7 := hide (R7.out.below hbn)
          replace HM := hide (HM.out.below hbn)
          replace M9 := hide (M9.out.below hbn)
          replace HB := hide (HB.out.trans (hbn.mono HB.out.size))
          clear hbn
          generalize ((w9.alloc (.cells #[.slice za0 zn0 zc0, .slice za1 zn1 zc1, .slice za2 zn2 zc2, .slice za3 zn3 zc3] 32)).alloc (.cells #[.int .i64 te, .int .u64 tez] 43)) = w10 at *
          generalize w9.heap.size = g9 at *
          by_cases hk0 : kk = 0
          case neg =>
            have hd1 : (kk != 0) = true := by simpa using hk0
            have hd2 : (kk == 0) = false := by simpa using hk0
            clear hk0
            go_wp2_with fail
            go_roundw
            case rel => exact ⟨k + 1, m, B, _, _, _, _, _, _, _, _, _, _, _, _, by omega, by omega, by go_num, R5.out, HM.out, HO.out, by have h1 := le_up HLE.out; rw [show 20 + (k + 1) = 20 + k + 1 by omega]; exact h1, HB.out⟩
            case measure => simp [intOf]; omega
          case pos =>
            subst hk0
            obtain ⟨hrr, hkk, hnm⟩ := HR.out
            obtain ⟨x, hdx⟩ := do_err (show outK (DoM m (tk, tg, ts, tz)) = 0 by rw [hrr]; exact hkk)
            have hx1 : x.1 = nm := by rw [← hnm, ← hrr, hdx]; rfl
            have HST := hide (show StepM m (tk, tg, ts, tz) nm from by rw [← hx1]; exact step_of HO.out hdx)
            have HL9 := hide (show HasLe nm (20 + (k + 1)) from by rw [← hx1, show 20 + (k + 1) = 20 + k + 1 by omega]; exact do_le HLE.out hdx)
            have HF9 := hide (fit_of HST.out.ok HL9.out (by omega))
            clear hrr hkk hnm hdx hx1 HR rr x
            obtain ⟨q0, q1, q2, q3⟩ := row4 R5.out
            have ql := R5.out.lt
            obtain ⟨r0, r1, r2, r3⟩ := row4 R7.out
            have rl := R7.out.lt
            obtain ⟨s0, s1, s2, s3⟩ := row4 R9.out
            have sl := R9.out.lt
            obtain ⟨us, hv5, _, hc5a, hc5b⟩ := HM.out.view
            obtain ⟨vs, hv9, _, hc9a, hc9b⟩ := M9.out.view
            have L5 := hide hv5.l3
            have L9 := hide hv9.l3
            have RB5 := hide hv5.bad
            have RB9 := hide hv9.bad
            clear hv5 hv9
            go_upto_region 13 with (fail)
            obtain ⟨tb, htb⟩ : ∃ b, decide (tk = 4 ∨ tk = 5) = b := ⟨_, rfl⟩
            go_cut [12] from 46 to 123 (fun s12 wx => s12 = .bool tb ∧ wx = w10)
            case first =>
              by_cases h4 : tk = 4
              · have hd : (tk == 4) = true := by simpa using h4
                have : tb = true := by rw [← htb]; simp [h4]
                subst this
                clear htb
                subst h4
                go_wp2_with fail
                go_meet
                case rel => exact ⟨rfl, rfl⟩
              · have hd : (tk == 4) = false := by simpa using h4
                by_cases h5 : tk = 5
                · have hd5 : (tk == 5) = true := by simpa using h5
                  have : tb = true := by rw [← htb]; simp [h5]
                  subst this
                  subst h5
                  clear htb h4
                  go_wp2_with fail
                  go_meet
                  case rel => exact ⟨rfl, rfl⟩
                · have hd5 : (tk == 5) = false := by simpa using h5
                  have : tb = false := by rw [← htb]; simp [h4, h5]
                  subst this
                  clear htb h4 h5
                  go_wp2_with fail
                  go_meet
                  case rel => exact ⟨rfl, rfl⟩
            case rest =>
              obtain ⟨rfl, hwc⟩ := hcut
              obtain ⟨w11, hw11⟩ : ∃ w, w = wc := ⟨_, rfl⟩
              subst hw11
              subst hwc
              rename_i K hK
              refine hK _ _ ?_
              clear hK K
              go_upto_block 2 with fail
              have HTB := hide htb
              clear htb
              go_cut [12] from 46 to 123 (fun s12 wx => Below w11.heap.size w11 wx)
              case first =>

                have HL16 := hide HO.out.bl
                cases tb
                case false =>
                  have hno : ¬ (tk = 4 ∨ tk = 5) := by simpa using HTB.out
                  have hbe := hide (HST.out.other hno)
                  clear hno
                  go_upto_region 16 with (fail)
                  go_quiet (fail)
                  have hb := below_drewN (Below.refl w11.heap.size w11) nq
                  replace R5 := hide (R5.out.below hb)
                  replace R7 := hide (R7.out.below hb)
                  replace R9 := hide (R9.out.below hb)
                  replace RB5 := hide (RB5.out.belowX hb)
                  replace RB9 := hide (RB9.out.belowX hb)
                  have HBQ := hide hb
                  clear hb q0 q1 q2 q3 ql s0 s1 s2 s3 sl r0 r1 r2 r3 rl
                  generalize w11.drewN nq = wd at *
                  obtain ⟨q0, q1, q2, q3⟩ := row4 R5.out
                  have ql := R5.out.lt
                  obtain ⟨r0, r1, r2, r3⟩ := row4 R7.out
                  have rl := R7.out.lt
                  obtain ⟨s0, s1, s2, s3⟩ := row4 R9.out
                  have sl := R9.out.lt
                  go_wp2_with fail
                  with_reducible refine (eqXn za3 ya3 zc3 yc3 zn3 yn3 nm.bad m.bad wd RB9.out RB5.out L9.out L5.out (by rw [← L9.out]; exact HF9.out.bad) (by rw [← L5.out]; exact HF.out.bad) true (by rw [hbe.out]; simp)).mono ?_
                  rintro e w12 ⟨rfl, hb⟩
                  have HBC := hide (HBQ.out.trans (hb.mono HBQ.out.size))
                  clear hb q0 q1 q2 q3 ql s0 s1 s2 s3 sl r0 r1 r2 r3 rl
                  go_wp2_with fail
                  go_meet
                  case rel => exact HBC.out
                case true =>
                  have ht : tk = 4 ∨ tk = 5 := by simpa using HTB.out
                  cases good
                  case true =>
                    have hnm := HST.out.good ht HGD.out
                    clear ht
                    by_cases h16 : m.bad.length = 16
                    · have hd16 : ((yn3 : Int) == 16) = true := by rw [← L5.out, h16]; rfl
                      clear h16
                      go_wp2_with fail
                      with_reducible refine (vSame M9.out HM.out HF9.out HF.out true (by rw [hnm]; exact sameM_refl m)).mono ?_
                      rintro e w12 ⟨rfl, hb⟩
                      have HBC := hide hb
                      have Q5 := hide (R5.out.below hb)
                      have Q9 := hide (R9.out.below hb)
                      have Q7 := hide (R7.out.below hb)
                      have P9 := hide (M9.out.below hb)
                      have P5 := hide (HM.out.below hb)
                      clear hb q0 q1 q2 q3 ql s0 s1 s2 s3 sl r0 r1 r2 r3 rl
                      obtain ⟨q0, q1, q2, q3⟩ := row4 Q5.out
                      have ql := Q5.out.lt
                      obtain ⟨r0, r1, r2, r3⟩ := row4 Q7.out
                      have rl := Q7.out.lt
                      obtain ⟨s0, s1, s2, s3⟩ := row4 Q9.out
                      have sl := Q9.out.lt
                      go_upto_region 16 with (fail)
                      go_quiet (fail)
                      have hb := below_drewN (Below.refl w12.heap.size w12) nq
                      replace Q5 := hide (Q5.out.below hb)
                      replace Q7 := hide (Q7.out.below hb)
                      replace Q9 := hide (Q9.out.below hb)
                      replace P5 := hide (P5.out.below hb)
                      replace P9 := hide (P9.out.below hb)
                      have HBQ := hide hb
                      have HBE := hide (HBC.out.trans (hb.mono HBC.out.size))
                      clear hb q0 q1 q2 q3 ql s0 s1 s2 s3 sl r0 r1 r2 r3 rl
                      generalize w12.drewN nq = wd at *
                      obtain ⟨q0, q1, q2, q3⟩ := row4 Q5.out
                      have ql := Q5.out.lt
                      obtain ⟨r0, r1, r2, r3⟩ := row4 Q7.out
                      have rl := Q7.out.lt
                      obtain ⟨s0, s1, s2, s3⟩ := row4 Q9.out
                      have sl := Q9.out.lt
                      go_wp2_with fail
                      with_reducible refine (vSame P9.out P5.out HF9.out HF.out true (by rw [hnm]; exact sameM_refl m)).mono ?_
                      rintro e w13 ⟨rfl, hb⟩
                      have HBD := hide (HBE.out.trans (hb.mono HBE.out.size))
                      clear hb
                      go_wp2_with fail
                      go_meet
                      case rel => exact HBD.out
                    · have hd16 : ((yn3 : Int) == 16) = false := by rw [beq_eq_false_iff_ne, ← L5.out]; omega
                      clear h16
                      go_wp2_with fail
                      with_reducible refine (vSame M9.out HM.out HF9.out HF.out true (by rw [hnm]; exact sameM_refl m)).mono ?_
                      rintro e w12 ⟨rfl, hb⟩
                      have HBC := hide hb
                      have Q5 := hide (R5.out.below hb)
                      have Q9 := hide (R9.out.below hb)
                      have Q7 := hide (R7.out.below hb)
                      have P9 := hide (M9.out.below hb)
                      have P5 := hide (HM.out.below hb)
                      clear hb q0 q1 q2 q3 ql s0 s1 s2 s3 sl r0 r1 r2 r3 rl
                      obtain ⟨q0, q1, q2, q3⟩ := row4 Q5.out
                      have ql := Q5.out.lt
                      obtain ⟨r0, r1, r2, r3⟩ := row4 Q7.out
                      have rl := Q7.out.lt
                      obtain ⟨s0, s1, s2, s3⟩ := row4 Q9.out
                      have sl := Q9.out.lt
                      go_upto_region 16 with (fail)
                      go_quiet (fail)
                      have hb := below_drewN (Below.refl w12.heap.size w12) nq
                      replace Q5 := hide (Q5.out.below hb)
                      replace Q7 := hide (Q7.out.below hb)
                      replace Q9 := hide (Q9.out.below hb)
                      replace P5 := hide (P5.out.below hb)
                      replace P9 := hide (P9.out.below hb)
                      have HBQ := hide hb
                      have HBE := hide (HBC.out.trans (hb.mono HBC.out.size))
                      clear hb q0 q1 q2 q3 ql s0 s1 s2 s3 sl r0 r1 r2 r3 rl
                      generalize w12.drewN nq = wd at *
                      obtain ⟨q0, q1, q2, q3⟩ := row4 Q5.out
                      have ql := Q5.out.lt
                      obtain ⟨r0, r1, r2, r3⟩ := row4 Q7.out
                      have rl := Q7.out.lt
                      obtain ⟨s0, s1, s2, s3⟩ := row4 Q9.out
                      have sl := Q9.out.lt
                      go_wp2_with fail
                      go_meet
                      case rel => exact HBE.out
                  case false =>
                    by_cases h16 : m.bad.length = 16
                    · have hd16 : ((yn3 : Int) == 16) = true := by rw [← L5.out, h16]; rfl
                      have hl16 : ¬ (yn3 : Int) < 16 := by rw [← L5.out, h16]; omega
                      have hnm := HST.out.full ht h16
                      clear h16 ht
                      go_upto_region 16 with (fail)
                      go_quiet (fail)
                      have hb := below_drewN (Below.refl w11.heap.size w11) nq
                      replace R5 := hide (R5.out.below hb)
                      replace R7 := hide (R7.out.below hb)
                      replace R9 := hide (R9.out.below hb)
                      replace HM := hide (HM.out.below hb)
                      replace M9 := hide (M9.out.below hb)
                      have HBQ := hide hb
                      clear hb q0 q1 q2 q3 ql s0 s1 s2 s3 sl r0 r1 r2 r3 rl
                      generalize w11.drewN nq = wd at *
                      obtain ⟨q0, q1, q2, q3⟩ := row4 R5.out
                      have ql := R5.out.lt
                      obtain ⟨r0, r1, r2, r3⟩ := row4 R7.out
                      have rl := R7.out.lt
                      obtain ⟨s0, s1, s2, s3⟩ := row4 R9.out
                      have sl := R9.out.lt
                      go_wp2_with fail
                      with_reducible refine (vSame M9.out HM.out HF9.out HF.out true (by rw [hnm]; exact sameM_refl m)).mono ?_
                      rintro e w12 ⟨rfl, hb⟩
                      have HBC := hide (HBQ.out.trans (hb.mono HBQ.out.size))
                      have Q5 := hide (R5.out.below hb)
                      have Q9 := hide (R9.out.below hb)
                      have Q7 := hide (R7.out.below hb)
                      have P9 := hide (M9.out.below hb)
                      have P5 := hide (HM.out.below hb)
                      clear hb q0 q1 q2 q3 ql s0 s1 s2 s3 sl r0 r1 r2 r3 rl
                      obtain ⟨q0, q1, q2, q3⟩ := row4 Q5.out
                      have ql := Q5.out.lt
                      obtain ⟨r0, r1, r2, r3⟩ := row4 Q7.out
                      have rl := Q7.out.lt
                      obtain ⟨s0, s1, s2, s3⟩ := row4 Q9.out
                      have sl := Q9.out.lt
                      go_wp2_with fail
                      go_meet
                      case rel => exact HBC.out
                    · have hd16 : ((yn3 : Int) == 16) = false := by rw [beq_eq_false_iff_ne, ← L5.out]; omega
                      have hl16 : (yn3 : Int) < 16 := by have := HL16.out; rw [← L5.out]; omega
                      have hbad := HST.out.bad ht HGD.out (by have := HL16.out; omega)
                      clear h16 ht
                      have hz3 : zn3 = yn3 + 1 := by rw [← L9.out, ← L5.out, hbad]; simp
                      obtain ⟨b9, o9, rfl, hb9, e0, e1, e2, e3⟩ := RB9.out.watchAt L9.out (show yn3 < zn3 by omega)
                      have hel : nm.bad.getD yn3 (0, 0, 0, 0) = (tk, tg, ts, tz) := by rw [hbad, ← L5.out]; simp
                      rw [hel] at e0 e1 e2 e3
                      dsimp only at e0 e1 e2 e3
                      have hle9 : (yn3 : Int) < (zn3 : Int) := by omega
                      have hadd : (zn3 : Int) = (yn3 : Int) + 1 := by omega
                      clear hel hbad hz3
                      go_upto_region 16 with (fail)
                      go_quiet (fail)
                      go_wp2_with fail
                      go_meet
                      case rel => exact below_drewN (Below.refl _ _) _
              case rest =>
                have hb := hcut
                obtain ⟨w12, hw12⟩ : ∃ w, w = wc := ⟨_, rfl⟩
                subst hw12
                rename_i K hK
                refine hK _ _ ?_
                clear hK K hcut HM q0 q1 q2 q3 ql s0 s1 s2 s3 sl r0 r1 r2 r3 rl R7
                replace R5 := hide (R5.out.below hb)
                replace R9 := hide (R9.out.below hb)
                replace M9 := hide (M9.out.below hb)
                replace RB5 := hide (RB5.out.belowX hb)
                replace RB9 := hide (RB9.out.belowX hb)
                replace HB := hide (HB.out.trans (hb.mono HB.out.size))
                clear hb
                obtain ⟨us2, hv, _, _, _⟩ := M9.out.view
                have HV := hide hv
                have hz2 : zn2 = zn1 := by rw [← hv.has.len, ← rowsQ_len, ← hv.hs, ← hv.l1]; exact HST.out.ok.has
                have hz8 : zn2 ≤ 8 := by rw [hz2, ← hv.l1]; exact HST.out.ok.hi
                clear hv
                subst hz2
                obtain ⟨s0, s1, s2, s3⟩ := row4 R9.out
                have sl := R9.out.lt
                go_wp2_with fail
                go_loopw [127] (fun i wr => ∃ j : Nat, j ≤ zn2 ∧ i = .int .i64 j ∧ wr = w12) (fun i _ => zn2 - (intOf i).toNat)
                case atStart => exact ⟨0, Nat.zero_le _, rfl, rfl⟩
                case round =>
                  obtain ⟨j, hj, rfl, hwr⟩ := hrel
                  replace hwr := hwr.symm
                  subst hwr
                  by_cases hjl : j < zn2
                  · have hjm : (j : Int) < (zn2 : Int) := by omega
                    obtain ⟨b2, o2, hA2, hb2, e0, hr2⟩ := HV.out.has.at_ hjl
                    obtain ⟨b1, o1, hA1, hb1, e1⟩ := HV.out.pin.boolAt HV.out.l1 hjl
                    subst hA2 hA1
                    have HQ := hide (show nm.has.getD j [] = (us2.getD j hmZ).q from by rw [HV.out.hs]; exact rowsQ_at us2 j)
                    have HU2 := hide (show nm.pin.getD j false = false → (us2.getD j hmZ).q.length = 0 from fun h => by rw [← HQ.out, okM_unpinned HST.out.ok (by rw [HV.out.l1]; exact hjl) h]; rfl)
                    clear hr2
                    generalize us2.getD j hmZ = hu at *
                    obtain ⟨uA, uc, uq⟩ := hu
                    dsimp only at *
                    generalize uq.length = ul at *
                    generalize nm.pin.getD j false = up at *
                    cases up with
                    | true =>
                      clear HQ HU2
                      go_wp2_with fail
                      go_roundw
                      case rel => exact ⟨j + 1, by omega, by go_num, by first | rfl | trivial⟩
                      case measure => simp [intOf]; omega
                    | false =>
                      have hul : ul = 0 := HU2.out rfl
                      subst hul
                      clear HQ HU2
                      go_wp2_with fail
                      go_roundw
                      case rel => exact ⟨j + 1, by omega, by go_num, by first | rfl | trivial⟩
                      case measure => simp [intOf]; omega
                  · have hjm : ¬ (j : Int) < (zn2 : Int) := by omega
                    have HP := hide HST.out.pre
                    have hyz : yn3 ≤ zn3 := by rw [← L5.out, ← L9.out]; exact HP.out.1
                    have hyc : yn3 ≤ zc3 := Nat.le_trans hyz hc9a
                    have hyI : (yn3 : Int) ≤ (zc3 : Int) := by omega
                    obtain ⟨q0, q1, q2, q3⟩ := row4 R5.out
                    have ql := R5.out.lt
                    have HC1 := hide (fun z => eqXn za3 ya3 zc3 yc3 yn3 yn3 (nm.bad.take yn3) m.bad (via w12 z) (by
                      have h := (RB9.out.belowX (via_below w12 z)).take hyz
                      rw [← Cs_take encX_len] at h
                      exact h) (RB5.out.belowX (via_below w12 z)) (by rw [List.length_take, L9.out]; omega) L5.out (by rw [← L5.out]; exact HF.out.bad) (by rw [← L5.out]; exact HF.out.bad) true (by rw [← L5.out, HP.out.2]; simp))
                    have HC2 := hide (fun z => vCheck (M9.out.below (via_below w12 z)) HF9.out 0 (by rw [ok_iff.2 HST.out.ok]; rfl))
                    go_upto_region 27 with (fail)
                    refine wp_region_via (by kernel_rfl) (by kernel_rfl) ?_
                    repeat (go_big_quiet_step (first | (go_at_call 28; with_reducible exact via_of (HC1.out _)) | (go_at_call 20; with_reducible exact via_of (HC2.out _))))
                    refine via_out fun w13 hb => ?_
                    replace R5 := hide (R5.out.below hb)
                    replace R9 := hide (R9.out.below hb)
                    replace M9 := hide (M9.out.below hb)
                    replace HB := hide (HB.out.trans (hb.mono HB.out.size))
                    clear HC1 HC2 hb q0 q1 q2 q3 ql s0 s1 s2 s3 sl HP
                    obtain ⟨q0, q1, q2, q3⟩ := row4 R5.out
                    have ql := R5.out.lt
                    have f0 := R5.out.frozen 0
                    have f1 := R5.out.frozen 1
                    have f2 := R5.out.frozen 2
                    have f3 := R5.out.frozen 3
                    obtain ⟨s0, s1, s2, s3⟩ := row4 R9.out
                    have sl := R9.out.lt
                    have HL := laidM4_of (n := W.heap.size) (v0 := .slice za0 zn0 zc0) (v1 := .slice za1 zn2 zc1) (v2 := .slice za2 zn2 zc2) (v3 := .slice za3 zn3 zc3) R5.out HG.out
                    have HN := hide (M9.out.row R5.out HL.2.1 HL.2.2.size (.inl HBS.out))
                    have HBN := hide (HB.out.trans (HL.2.2.mono (Nat.le_refl _)))
                    have R5N := hide HL.1
                    clear HL
                    go_wp2_with fail
                    go_roundw
                    case rel => exact ⟨k + 1, nm, _, _, _, _, _, _, _, _, _, _, _, _, _, by omega, by omega, by go_num, R5N.out, HN.out, HST.out.ok, HL9.out, HBN.out⟩
                    case measure => simp [intOf]; omega

end Go.Proofs.Ytfpbabafeecncaa
