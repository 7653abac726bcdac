/-
  The iterator over a directory's runs.
-/
import Derived.Test.YtjlbnegdiabglaaDid
import Derived.BigRegion
import Derived.Deep.Cut
set_option linter.unusedSimpArgs false
set_option linter.unusedVariables false
namespace Go.Proofs.Ytjlbnegdiabglaa
open Go Go.RowKit
attribute [local go_sem] via_cell via_frozen

theorem HandP.below {w w' : World} {B gp gh : Nat} {dep : Int} {A : Option Addr} {c : Nat} {es : List En} (h : HandP w B gp gh dep A c es) (hB : B ≤ w.heap.size) (hb : Below w.heap.size w w') : HandP w' B gp gh dep A c es :=
  ⟨h.box.below hb, h.hand.below hb, h.rd.below (hb.mono hB)⟩
theorem Rd.ent {w : World} {B : Nat} {A : Option Addr} {es : List En} (h : Rd w B 2 A es.length (Cs encE es)) {k : Nat} (hk : k < es.length) :
    ∃ b o, A = some ⟨b, o, none⟩ ∧ b < B ∧ w.cell? ⟨b, o + k * 2, none⟩ = some (.int .i64 (es.getD k (0, 0)).1) ∧ w.cell? ⟨b, o + k * 2 + 1, none⟩ = some (.int .u64 (es.getD k (0, 0)).2) := by
  obtain ⟨b, o, h1, h2, h3⟩ := h.elem encE_len hk
  have e : es.getD k (0, 0) = es[k] := by rw [List.getD_eq_getElem?_getD, List.getElem?_eq_getElem hk]; rfl
  rw [e]
  exact ⟨b, o, h1, h2, by simpa using h3 0 _ (by omega) rfl, h3 1 _ (by omega) rfl⟩
set_option maxHeartbeats 4000000 in
theorem spans_seq8 (B gp gh n1 : Nat) (dep : Int) (A : Option Addr) (c : Nat) (es : List En) (w : World) (h : HandP w B gp gh dep A c es) (hB : B ≤ w.heap.size) (hl : es.length ≤ 32) (hd0 : 0 ≤ dep) (hd5 : dep ≤ 5) (hc : es.length ≤ c) (hcm : c ≤ 9223372036854775807) :
    Seq8 Try.prog 59 #[.pointer (some ⟨gp, 0, none⟩)] encRv (keep3 B gp gh) (fun ys => ys = (runs es).map (rc dep)) (fun pre => ∃ r, pre ++ r = (runs es).map (rc dep)) (fun _ => False) [] ((runs es).map (rc dep)).length n1 0 (fun x => x ∈ (runs es).map (rc dep)) w := by
  intro lo J Jx W hbW hn1 hJ hJx hY h0
  have HH := hide (h.below hB hbW)
  have hszW : B ≤ W.heap.size := Nat.le_trans hB hbW.size
  have HJ := hide hJ
  have HY := hide hY
  have H0 := hide h0
  have HN1 := hide hn1
  clear h hJ hJx hY h0 hn1
  obtain ⟨n, hn⟩ : ∃ n, es.length = n := ⟨_, rfl⟩
  have HN := hide hn
  refine (callsIn_wide (n := 4)).1 (callsIn_of_wp Try.func59 rfl trivial ?_ rfl)
  simp only [Try.ntmps59, List.size_toArray, List.length_cons, List.length_nil, Nat.reduceAdd, Nat.reduceSub, Array.replicate_succ, Array.replicate_zero, List.push_toArray, List.append_toArray, List.nil_append, List.cons_append]
  refine wpIn_wide.2 ?_
  go_wp2_with fail
  go_step3
  go_wp2_with fail
  go_step3
  go_wp2_with fail
  go_loopw [3] (fun i wr => ∃ (k : Nat) (pre : List Rc) (s : Nat), k ≤ n ∧ i = .int .i64 k ∧ (runs es).map (rc dep) = pre ++ (runsAt k (es.drop k)).map (rc dep) ∧ (J pre s wr ∧ s ≤ wr.heap.size) ∧ HandP wr B gp gh dep A c es ∧ B ≤ wr.heap.size ∧ W.heap.size ≤ wr.heap.size) (fun i _ => n - (intOf i).toNat)
  case atStart => exact ⟨0, [], n1, Nat.zero_le _, rfl, rfl, ⟨H0.out, by have := HN1.out; omega⟩, HH.out, hszW, Nat.le_refl _⟩
  case round =>
    obtain ⟨k, pre, s, hk, rfl, hsp, ⟨hj, hss⟩, hh, hbz, hsz⟩ := hrel
    have HSS := hide hss
    have HSP := hide hsp
    have HJk := hide hj
    have HHk := hide hh
    have HSZ := hide hsz
    have HBZ := hide hbz
    have a0 := row1 hh.box
    have al := hh.box.lt
    have b0 := hh.hand.cell 0
    have b1 := hh.hand.cell 1
    have bl := hh.hand.lt
    rw [HN.out] at b1
    clear hsp hj hh hsz hbz hss
    by_cases hlt : k < n
    · have hkm : (k : Int) < (n : Int) := by omega
      have hlx : k < es.length := by rw [HN.out]; exact hlt
      obtain ⟨b, o, rfl, hb, d0, d1⟩ := HHk.out.rd.ent hlx
      have hbl : b < wr.heap.size := Nat.lt_of_lt_of_le hb HBZ.out
      obtain ⟨b2, o2, hbo, _, hd⟩ := rd_drop (c := c) HHk.out.rd rfl hlx
      injection hbo with hbo
      injection hbo with hbo1 hbo2 _
      subst hbo1; subst hbo2
      have HD := hide hd
      clear hd
      obtain ⟨e, he⟩ : ∃ e, es.getD k (0, 0) = e := ⟨_, rfl⟩
      rw [he] at d0 d1
      have HE := hide he
      have HBN := hide (show Below wr.heap.size wr (wr.alloc (.cells #[.int .i64 e.1, .int .u64 e.2, .int .i64 0, .int .u64 0, .int .i64 (k : Int), .int .i64 0] 33)) from (Below.refl _ _).alloc (Nat.le_refl _) _)
      have HRN := hide (RowAt.new wr 33 #[.int .i64 e.1, .int .u64 e.2, .int .i64 0, .int .u64 0, .int .i64 (k : Int), .int .i64 0])
      clear he hb
      go_upto_region 3 with (fail)
      obtain ⟨gs, hgs⟩ : ∃ g, wr.heap.size = g := ⟨_, rfl⟩
      have HGS := hide hgs
      rw [hgs] at HRN
      (try rw [hgs])
      have HB2 := hide (show Below gs wr (wr.alloc (.cells #[.int .i64 e.1, .int .u64 e.2, .int .i64 0, .int .u64 0, .int .i64 (k : Int), .int .i64 0] 33)) from by rw [← hgs]; exact HBN.out)
      have HH2 := hide (HHk.out.below HBZ.out HBN.out)
      have HZ2 := hide (show B ≤ gs from by rw [← hgs]; exact HBZ.out)
      have HD2 := hide (HD.out.below (HBN.out.mono HBZ.out))
      clear hgs d0 d1 hbl a0 al b0 b1 bl HBN
      generalize (wr.alloc (.cells #[.int .i64 e.1, .int .u64 e.2, .int .i64 0, .int .u64 0, .int .i64 (k : Int), .int .i64 0] 33)) = w2 at *
      have a0 := row1 HH2.out.box
      have al := HH2.out.box.lt
      have b0 := HH2.out.hand.cell 0
      have b1 := HH2.out.hand.cell 1
      have bl := HH2.out.hand.lt
      rw [HN.out] at b1 HD2
      have HIX := hide (indexO_any B (some ⟨b, o + k * 2, none⟩) (c - k) (n - k) gs (es.drop k) e _ w2 HD2.out (by rw [List.length_drop, HN.out]) (by have := HN.out; omega) (by have h1 := HZ2.out; have h2 := HB2.out.size; have h3 := HGS.out; omega) HRN.out rfl rfl)
      have hc1 : (k : Int) ≤ (n : Int) := by omega
      have hc2 : (n : Int) ≤ (c : Int) := by have := HN.out; omega
      have hc3 : (c : Int) ≤ 9223372036854775807 := by omega
      have HLD := hide (leadX_at es hlx)
      rw [HE.out, HN.out] at HLD
      rw [HLD.out] at HIX
      go_wp2_with fail
      with_reducible refine HIX.out.mono ?_
      rintro e2 w3 ⟨rfl, hb3⟩
      have HRN3 := hide (HRN.out.below hb3)
      have HH3 := hide (HH2.out.below (by have h1 := HZ2.out; have h2 := HB2.out.size; have h3 := HGS.out; omega) hb3)
      have HB3 := hide (HB2.out.trans (hb3.mono (by have h2 := HB2.out.size; have h3 := HGS.out; omega)))
      clear hb3 HIX
      have HKH := hide (show ∀ w', Below gs wr w' → HandP w' B gp gh dep (some ⟨b, o, none⟩) c es from fun w' hb => HHk.out.below HBZ.out (by rw [HGS.out]; exact hb))
      have HSG := hide (show s ≤ gs from by have h1 := HSS.out; have h2 := HGS.out; omega)
      have HKJ := hide (show ∀ w', Below gs wr w' → J pre s w' from fun w' hb => HJ.out _ _ _ _ HJk.out (hb.mono HSG.out))
      obtain ⟨L, hL⟩ : ∃ L, lenAt es k = L := ⟨_, rfl⟩
      have HL := hide hL
      have hL1 : 1 ≤ L := by rw [← hL]; unfold lenAt; omega
      have hLn : k + L ≤ n := by have h := run_fits es hlx; rw [← hL]; unfold lenAt; have := HN.out; omega
      rw [hL]
      clear hL hc1 hc2 hc3 HLD a0 al b0 b1 bl
      have a0 := row1 HH3.out.box
      have al := HH3.out.box.lt
      have b0 := HH3.out.hand.cell 0
      have b1 := HH3.out.hand.cell 1
      have bl := HH3.out.hand.lt
      rw [HN.out] at b1
      have x5 := HRN3.out.cell 5
      have xl := HRN3.out.lt
      have xf := HRN3.out.frozen 5
      have HC := hide (show ∀ v, RowAt (w3.setCell ⟨gs, 5, none⟩ v) gs 33 #[.int .i64 e.1, .int .u64 e.2, .int .i64 0, .int .u64 0, .int .i64 (k : Int), v] ∧ Below gs wr (w3.setCell ⟨gs, 5, none⟩ v) from fun v =>
        ⟨HRN3.out.set 5 v, HB3.out.setCell (p := ⟨gs, 5, none⟩) (Nat.le_refl _) v⟩)
      go_upto_if 38 with (fail)
      go_cut [4] from 34 (fun s4 wx => s4 = .pointer (some ⟨gs, 0, none⟩) ∧ RowAt wx gs 33 #[.int .i64 e.1, .int .u64 e.2, .int .i64 0, .int .u64 0, .int .i64 (k : Int), .int .i64 (L : Int)] ∧ Below gs wr wx)
      case first =>
        by_cases hend : k + L = n
        · have hv : (n : Int) - (k : Int) = (L : Int) := by omega
          simp only [hend, if_true]
          have hrow := (HC.out (.int .i64 (-1))).1
          have hbel := (HC.out (.int .i64 (-1))).2
          have HC2 := hide (show RowAt ((w3.setCell ⟨gs, 5, none⟩ (.int .i64 (-1))).setCell ⟨gs, 5, none⟩ (.int .i64 (L : Int))) gs 33 #[.int .i64 e.1, .int .u64 e.2, .int .i64 0, .int .u64 0, .int .i64 (k : Int), .int .i64 (L : Int)] ∧ Below gs wr ((w3.setCell ⟨gs, 5, none⟩ (.int .i64 (-1))).setCell ⟨gs, 5, none⟩ (.int .i64 (L : Int))) from
            ⟨hrow.set 5 _, hbel.setCell (p := ⟨gs, 5, none⟩) (Nat.le_refl _) _⟩)
          generalize (w3.setCell ⟨gs, 5, none⟩ (.int .i64 (-1))) = w4 at *
          have HH4 := hide (HKH.out w4 hbel)
          clear x5 xl xf a0 al b0 b1 bl hbel
          have a0 := row1 HH4.out.box
          have al := HH4.out.box.lt
          have b1 := HH4.out.hand.cell 1
          have bl := HH4.out.hand.lt
          rw [HN.out] at b1
          have x5 := hrow.cell 5
          have xl := hrow.lt
          have xf := hrow.frozen 5
          clear hrow
          go_wp2_with fail
          go_meet
          case rel => exact ⟨rfl, HC2.out⟩
        · simp only [hend, if_false]
          have hneg : ¬ ((L : Int) < 0) := by omega
          have hrow := (HC.out (.int .i64 (L : Int))).1
          have hbel := hide (HC.out (.int .i64 (L : Int))).2
          generalize (w3.setCell ⟨gs, 5, none⟩ (.int .i64 (L : Int))) = w4 at *
          go_wp2_with fail
          go_meet
          case rel => exact ⟨rfl, hrow, hbel.out⟩
      case rest =>
        rename_i K hK _
        refine hK _ _ ?_
        obtain ⟨rfl, hrow, hbel⟩ := hcut
        clear hK HC x5 xl xf a0 al b0 b1 bl HH3 HRN3 HB3
        have HR5 := hide hrow
        have HB5 := hide hbel
        have HH5 := hide (HKH.out wc hbel)
        clear hrow hbel
        have a0 := row1 HH5.out.box
        have al := HH5.out.box.lt
        have b0 := HH5.out.hand.cell 0
        have bl := HH5.out.hand.lt
        have x2 := HR5.out.cell 2
        have x3 := HR5.out.cell 3
        have x5 := HR5.out.cell 5
        have xl := HR5.out.lt
        have xf2 := HR5.out.frozen 2
        have xf3 := HR5.out.frozen 3
        have hz : ¬ ((L : Int) = 0) := by omega
        go_upto_region 7 with (fail)
        go_region
        have hq : IntKind.u64.wrap (wrap64 ((k : Int) / (L : Int))) = ((k / L : Nat) : Int) := by
          have h1 : ((k : Int) / (L : Int)) = ((k / L : Nat) : Int) := (Int.natCast_ediv k L).symm
          have h2 : k / L ≤ k := Nat.div_le_self _ _
          rw [h1]
          clear h1
          have hk32 : k ≤ 32 := by omega
          generalize k / L = q at *
          rw [IntWalk.wrap64_in _ (by omega), IntWalk.u64_in _ (by omega)]
        rw [hq]
        clear hq
        have HR6 := hide (((HR5.out.set 2 (.int .i64 dep)).set 3 (.int .u64 ((k / L : Nat) : Int))).drew)
        have HB6 := hide (((HB5.out.setCell (p := ⟨gs, 2, none⟩) (Nat.le_refl _) (.int .i64 dep)).setCell (p := ⟨gs, 3, none⟩) (Nat.le_refl _) (.int .u64 ((k / L : Nat) : Int))).drew)
        generalize hw6 : ((wc.setCell ⟨gs, 2, none⟩ (.int .i64 dep)).setCell ⟨gs, 3, none⟩ (.int .u64 ((k / L : Nat) : Int))).drew = w6 at *
        clear hw6 x2 x3 x5 xl xf2 xf3 a0 al b0 bl HH5 HB5
        have HH6 := hide (HKH.out w6 HB6.out)
        have x5 := HR6.out.cell 5
        have xl := HR6.out.lt
        obtain ⟨P, hP⟩ : ∃ P : Int, ((k / L : Nat) : Int) = P := ⟨_, rfl⟩
        rw [hP] at HR6
        have hL32 : L ≤ 32 := by omega
        simp only [List.setIfInBounds_toArray, List.set_cons_succ, List.set_cons_zero] at HR6
        go_wp2_with fail
        go_loopw [6] (fun i wr2 => ∃ (m : Nat) (D : Int), i = .int .i64 m ∧ 1 ≤ m ∧ m ≤ 32 ∧ D = dep - (Nat.log2 L : Nat) + (Nat.log2 m : Nat) ∧ RowAt wr2 gs 33 #[.int .i64 e.1, .int .u64 e.2, .int .i64 D, .int .u64 P, .int .i64 (k : Int), .int .i64 (L : Int)] ∧ Below gs wr wr2) (fun i _ => (intOf i).toNat)
        case atStart =>
          exact ⟨L, dep, rfl, hL1, hL32, by omega, HR6.out, HB6.out⟩
        case round =>
          obtain ⟨m, D, rfl, hm1, hm2, hD, hrow, hbel⟩ := hrel
          have HRr := hide hrow
          have HBr := hide hbel
          have hlm : Nat.log2 m ≤ 5 := by have h := Nat.log2_lt (n := m) (k := 6) (by omega); omega
          have hlL : Nat.log2 L ≤ 5 := by have h := Nat.log2_lt (n := L) (k := 6) (by omega); omega
          have hD1 : -6 ≤ D := by omega
          have hD2 : D ≤ 11 := by omega
          have HDD := hide hD
          have HHr := hide (HKH.out wr hbel)
          have HJr := hide (HKJ.out wr hbel)
          have y2 := hrow.cell 2
          have yl := hrow.lt
          have yf2 := hrow.frozen 2
          clear hrow hbel hD hlm hlL
          by_cases hmm : 1 < m
          · have hm3 : (1 : Int) < (m : Int) := by omega
            have HLG := hide (log2_half hmm)
            go_wp2_with fail
            go_roundw
            case rel => exact ⟨m / 2, D - 1, by go_num, by omega, by omega, by have h1 := HLG.out; have h2 := HDD.out; omega, HRr.out.set 2 _, HBr.out.setCell (p := ⟨gs, 2, none⟩) (Nat.le_refl _) _⟩
            case measure => simp [intOf]; omega
          · obtain rfl : m = 1 := by omega
            have HX := hide (show rc dep ⟨k, L, e⟩ = ⟨e, D, P, k, L⟩ from by
              have h2 := HDD.out
              simp only [rc, hP]
              congr 1
              rw [show Nat.log2 1 = 0 from by decide] at h2
              rw [h2]
              simp)
            have HSPL := hide (runs_split es hlx dep HSP.out)
            rw [HE.out, HL.out, HX.out] at HSPL
            have y0 := HRr.out.cell 0
            have y1 := HRr.out.cell 1
            have y3 := HRr.out.cell 3
            have y4 := HRr.out.cell 4
            have y5 := HRr.out.cell 5
            obtain ⟨fn, tmps, assign, body, hy, hR⟩ := HY.out pre ⟨e, D, P, k, L⟩ s wr HJr.out (by have h1 := HSG.out; have h2 := HBr.out.size; have h3 := HGS.out; omega) (by rw [HSPL.out]; simp) (by rw [HSPL.out]; simp) (Nat.zero_le _)
            dsimp only [encRv, rC] at hy
            have HRR := hide hR
            clear hR
            go_upto_region 12 with (fail)
            refine (wpIn_wide (n := 4)).1 ?_
            gi_wp2
            refine HRR.out.mono ?_
            rintro e3 W3 (⟨rfl, hJ3, hz3, hk3⟩ | ⟨rfl, hJx3⟩)
            · obtain ⟨s', hss', hsz', hJ3⟩ := hJ3
              have HJ3 := hide (show J (pre ++ [⟨e, D, P, k, L⟩]) s' W3 from hJ3)
              have HS3 := hide hsz'
              clear hss' hsz'
              have HBr2 := hide (HBr.out.size)
              have HH7 := hide (HHr.out.keep (w' := W3) (by have h1 := HBr2.out; have h2 := HBZ.out; omega) (fun j hj hl => hk3 j (.inl hj) hl))
              have HR7 := hide (HRr.out.heap (w' := W3) (hk3 gs (.inr HSG.out) yl))
              have HZ7 := hide hz3
              clear hJ3 hk3 hz3 y0 y1 y2 y3 y4 y5 yl yf2 HRr HRR hy
              have y5 := HR7.out.cell 5
              have yl := HR7.out.lt
              gi_wp2
              go_wp2_with fail
              go_roundw
              case rel => exact ⟨k + L, pre ++ [⟨e, D, P, k, L⟩], s', hLn, by go_num, HSPL.out, ⟨HJ3.out, HS3.out⟩, HH7.out, by have h1 := HBr2.out; have h2 := HBZ.out; have h3 := HZ7.out; omega, by have h1 := HBr2.out; have h2 := HSZ.out; have h3 := HZ7.out; omega⟩
              case measure => simp [intOf]; omega
            · have HJ4 := hide hJx3
              have HF := hide (show ∃ r, (pre ++ [(⟨e, D, P, k, L⟩ : Rc)]) ++ r = (runs es).map (rc dep) from ⟨_, HSPL.out.symm⟩)
              clear hJx3
              gi_wp2
              go_wp2_with fail
              rw [Exit.noGoto_normal]
              go_end0
              exact .inl ⟨_, rfl, .inr ⟨_, HF.out, HJ4.out⟩⟩
    · obtain rfl : k = n := by omega
      have HF := hide (show pre = (runs es).map (rc dep) from by
        have h := HSP.out
        rw [List.drop_eq_nil_of_le (by rw [HN.out]; exact Nat.le_refl _), runsAt_nil] at h
        simpa using h.symm)
      go_wp2_with fail
      rw [Exit.noGoto_normal]
      go_end0
      exact .inl ⟨_, rfl, .inl ⟨_, s, HF.out, HJk.out⟩⟩
theorem spans_seq (B gp gh n1 : Nat) (dep : Int) (A : Option Addr) (c : Nat) (es : List En) (w : World) (h : HandP w B gp gh dep A c es) (hB : B ≤ w.heap.size) (hl : es.length ≤ 32) (hd0 : 0 ≤ dep) (hd5 : dep ≤ 5) (hc : es.length ≤ c) (hcm : c ≤ 9223372036854775807) :
    Seq6 Try.prog 59 #[.pointer (some ⟨gp, 0, none⟩)] encRv (keptK B gp gh n1) (fun ys => ys = (runs es).map (rc dep)) (fun pre => ∃ r, pre ++ r = (runs es).map (rc dep)) (fun _ => False) [] ((runs es).map (rc dep)).length n1 0 (fun x => x ∈ (runs es).map (rc dep)) w :=
  (spans_seq8 B gp gh n1 dep A c es w h hB hl hd0 hd5 hc hcm).six
end Go.Proofs.Ytjlbnegdiabglaa
