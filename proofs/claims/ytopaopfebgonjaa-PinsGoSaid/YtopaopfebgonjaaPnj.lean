/-
  Pins: ops one behind the other (the program's).
-/
import Derived.Test.YtopaopfebgonjaaPni
set_option linter.unusedSimpArgs false
set_option linter.unusedVariables false
namespace Go.Proofs.Ytopaopfebgonjaa
open Go Go.RowKit
attribute [local go_sem] via_cell via_frozen

def rnE (e : Int) (S : List Int) (l : List (Int × Int × Int)) : Int := if pOk e S = true then (match runP e S 0 l with | none => 2 | some _ => 0) else 230
def rnR (e : Int) (S : List Int) (l : List (Int × Int × Int)) : Int × List Int × Int := if pOk e S = true then (match runP e S 0 l with | none => (0, [], 0) | some r => r) else (0, [], 0)
theorem pOk_u64 {e : Int} {S : List Int} (h : pOk e S = true) (h0 : ∀ s ∈ S, 0 ≤ s) : ∀ s ∈ S, U64 s := fun s hs => by
  have h1 := (pOk_out h).2.2.1
  have h2 := (pOk_out h).2.2.2 s hs
  have h3 := h0 s hs
  exact ⟨h3, by omega⟩
theorem runP_snoc {e : Int} {S : List Int} {n : Int} {l : List (Int × Int × Int)} {r : Int × List Int × Int} (k : Nat) (hk : k < l.length) (h : runP e S n (l.take k) = some r) :
    runP e S n (l.take (k + 1)) = if dE r.1 r.2.1 l[k].1 l[k].2.1 l[k].2.2 = 0 then some (dX r.1 l[k].1, dS r.1 r.2.1 l[k].1 l[k].2.1 l[k].2.2, r.2.2) else if dE r.1 r.2.1 l[k].1 l[k].2.1 l[k].2.2 = 2 then none else some (r.1, r.2.1, r.2.2 + 1) := by
  rw [List.take_succ_eq_append_getElem hk, runP_append, h]
  simp only [Option.bind_some, runP]
theorem runP_none {e : Int} {S : List Int} {n : Int} {l : List (Int × Int × Int)} (k : Nat) (h : runP e S n (l.take k) = none) : runP e S n l = none := by
  have := runP_append e S n (l.take k) (l.drop k)
  rw [List.take_append_drop, h] at this
  exact this

/-- What Run comes to. -/
def RunRes (W : World) (E X : Int) (Y : List Int) (O : Int) (m : Nat) (x : Ending) (W' : World) : Prop :=
  ∃ A' c', x = .returned (.tuple #[.agg #[.int .u64 X, .slice A' m c'], .int .i64 O, .int .i64 E]) ∧ m ≤ c' ∧ c' ≤ 9223372036854775807 ∧ PnOut W A' m Y W' ∧ Below W.heap.size W W'

set_option maxHeartbeats 2000000 in
theorem Run_no (A : Option Addr) (c n : Nat) (e : Int) (S : List Int) (v : Value) (W : World) (h : Rd W W.heap.size 1 A n (Cs encW S)) (hx : S.length = n) (h0 : 0 ≤ e) (hl : n ≤ 4096) (ho : pOk e S = false) :
    Calls Try.prog 16 #[.agg #[.int .u64 e, .slice A n c], v] W (RunRes W 230 0 [] 0 0) := by
  have b3 : Below W.heap.size W ((W.alloc (.cells #[.int .u64 e, .slice A n c] 25)).alloc (.cells #[.int .u64 0, .slice none 0 0] 25)) := ((Below.refl _ _).alloc (Nat.le_refl _) _).alloc (by simp) _
  have r3 : RowAt ((W.alloc (.cells #[.int .u64 e, .slice A n c] 25)).alloc (.cells #[.int .u64 0, .slice none 0 0] 25)) (W.heap.size + 1) 25 #[.int .u64 0, .slice none 0 0] := by
    have h := RowAt.new (W.alloc (.cells #[.int .u64 e, .slice A n c] 25)) 25 #[.int .u64 0, .slice none 0 0]
    rw [World.size_alloc] at h; exact h
  have HC := hide (check_any A c n e S _ ((h.below b3).more b3.size) hx h0 hl 230 (by rw [ho]; rfl))
  have HB := hide b3
  have R3 := hide r3
  clear b3 r3 h hx ho
  go_enter Try.func16, Try.ntmps16
  go_wp2_with fail
  generalize ((W.alloc (.cells #[.int .u64 e, .slice A n c] 25)).alloc (.cells #[.int .u64 0, .slice none 0 0] 25)) = w1 at *
  refine HC.out.mono ?_
  rintro x w2 ⟨rfl, hb⟩
  replace R3 := hide (R3.out.below hb)
  replace HB := hide (HB.out.trans (hb.mono HB.out.size))
  have z0 := row20 R3.out
  have z1 := row21 R3.out
  have f0 := R3.out.frozen 0
  have f1 := R3.out.frozen 1
  have l3 := R3.out.lt
  clear hb HC
  go_wp2_with fail
  have hr4 := (R3.out.set 0 (.int .u64 0)).set 1 (.slice none 0 0)
  have hb4 : Below W.heap.size W ((w2.setCell ⟨W.heap.size + 1, 0, none⟩ (.int .u64 0)).setCell ⟨W.heap.size + 1, 1, none⟩ (.slice none 0 0)) := (HB.out.setCell (p := ⟨W.heap.size + 1, 0, none⟩) (by simp) _).setCell (p := ⟨W.heap.size + 1, 1, none⟩) (by simp) _
  generalize ((w2.setCell ⟨W.heap.size + 1, 0, none⟩ (.int .u64 0)).setCell ⟨W.heap.size + 1, 1, none⟩ (.slice none 0 0)) = wF at *
  have hr5 : RowAt wF (W.heap.size + 1) 25 #[.int .u64 0, .slice none 0 0] := by simpa using hr4
  refine bodyPost_ret (v := .tuple #[.agg #[.int .u64 0, .slice none 0 0], .int .i64 0, .int .i64 230]) (by simp [results, Try.results16, go_sem, row20 hr5, row21 hr5, hr5.lt]) rfl ⟨none, 0, rfl, Nat.le_refl _, by omega, PnOut.none _ _, hb4⟩

set_option maxHeartbeats 2000000 in
theorem Run_yes (A : Option Addr) (c n : Nat) (e : Int) (S : List Int) (A2 : Option Addr) (c2 n2 : Nat) (l : List (Int × Int × Int)) (W : World) (h : Rd W W.heap.size 1 A n (Cs encW S)) (hx : S.length = n) (h2 : Rd W W.heap.size 3 A2 n2 (Cs encO l)) (hx2 : l.length = n2) (hn2 : n2 ≤ 4096) (hb : ∀ o ∈ l, 0 ≤ o.2.2) (h0 : 0 ≤ e) (hS : ∀ s ∈ S, U64 s) (ho : pOk e S = true)
    (E X : Int) (Y : List Int) (O : Int) (m : Nat) (hE : rnE e S l = E) (hR : rnR e S l = (X, Y, O)) (hm : Y.length = m) :
    Calls Try.prog 16 #[.agg #[.int .u64 e, .slice A n c], .slice A2 n2 c2] W (RunRes W E X Y O m) := by
  have hl : n ≤ 8 := by have := (pOk_out ho).2.1; omega
  have hn1 : 1 ≤ n := by have := (pOk_out ho).1; omega
  have b3 : Below W.heap.size W ((W.alloc (.cells #[.int .u64 e, .slice A n c] 25)).alloc (.cells #[.int .u64 0, .slice none 0 0] 25)) := ((Below.refl _ _).alloc (Nat.le_refl _) _).alloc (by simp) _
  have r1 : RowAt ((W.alloc (.cells #[.int .u64 e, .slice A n c] 25)).alloc (.cells #[.int .u64 0, .slice none 0 0] 25)) W.heap.size 25 #[.int .u64 e, .slice A n c] := (RowAt.new W 25 #[.int .u64 e, .slice A n c]).below ((Below.refl _ _).alloc (Nat.le_refl _) _)
  have r3 : RowAt ((W.alloc (.cells #[.int .u64 e, .slice A n c] 25)).alloc (.cells #[.int .u64 0, .slice none 0 0] 25)) (W.heap.size + 1) 25 #[.int .u64 0, .slice none 0 0] := by
    have h := RowAt.new (W.alloc (.cells #[.int .u64 e, .slice A n c] 25)) 25 #[.int .u64 0, .slice none 0 0]
    rw [World.size_alloc] at h; exact h
  have HC := hide (check_any A c n e S _ ((h.below b3).more b3.size) hx h0 (by omega) 0 (by rw [ho]; rfl))
  subst hx2
  have HB := hide b3
  have R1 := hide r1
  have R3 := hide r3
  have HR := hide h
  have HX := hide hx
  have HS := hide hS
  have HP := hide ho
  have H2 := hide h2
  have HBB := hide hb
  have HE := hide hE
  have HRR := hide hR
  have HM := hide hm
  have HOK := hide (fun k r (hr : runP e S 0 (l.take k) = some r) => runP_ok e S 0 (l.take k) r h0 (fun s hs => (hS s hs).1) (fun o ho => hb o (List.mem_of_mem_take ho)) ho hr)
  clear b3 r1 r3 h hx hS ho h2 hb hE hR hm
  go_enter Try.func16, Try.ntmps16
  go_wp2_with fail
  generalize ((W.alloc (.cells #[.int .u64 e, .slice A n c] 25)).alloc (.cells #[.int .u64 0, .slice none 0 0] 25)) = w1 at *
  refine HC.out.mono ?_
  rintro x w2 ⟨rfl, hb⟩
  replace R1 := hide (R1.out.below hb)
  replace R3 := hide (R3.out.below hb)
  replace HB := hide (HB.out.trans (hb.mono HB.out.size))
  have HOW := hide (powns_any A c n e S w2 ((HR.out.below HB.out).more HB.out.size) HX.out hn1 (by omega))
  have y0 := row20 R1.out
  have y1 := row21 R1.out
  have l1 := R1.out.lt
  clear hb HC
  go_wp2_with fail
  refine HOW.out.mono ?_
  rintro x w3 ⟨gh, gs, rfl, hh, hgh, hgs, hb⟩
  have l2' : W.heap.size + 1 < w2.heap.size := R3.out.lt
  replace R3 := hide (R3.out.below hb)
  replace HB := hide (HB.out.trans (hb.mono HB.out.size))
  have HH := hide hh
  clear hb hh y0 y1 l1 HOW R1
  go_wp2_with fail
  go_loopw [9, 22] (fun v i wr => ∃ (j : Nat) (r : Int × List Int × Int), j ≤ l.length ∧ i = .int .i64 j ∧ v = .int .i64 r.2.2 ∧ runP e S 0 (l.take j) = some r ∧ HandP wr gh gs n r.1 r.2.1 ∧ RowAt wr (W.heap.size + 1) 25 #[.int .u64 0, .slice none 0 0] ∧ Below W.heap.size W wr) (fun _ i _ => l.length - (intOf i).toNat)
  case atStart => exact ⟨0, (e, S, 0), Nat.zero_le _, rfl, rfl, rfl, HH.out, R3.out, HB.out⟩
  case round =>
    obtain ⟨j, ⟨x, ys, o⟩, hj, rfl, rfl, hrun, hh, hr3, hbw⟩ := hrel
    replace HH := hide hh
    replace R3 := hide hr3
    replace HB := hide hbw
    have HRUN := hide hrun
    have hno := runP_n _ _ _ _ _ hrun
    dsimp only at hno
    have ho4 : o ≤ 4096 := by have : (l.take j).length ≤ 4096 := by { rw [List.length_take]; omega }; omega
    have ho0 : 0 ≤ o := hno.1
    clear hh hr3 hbw hrun hno
    by_cases hlt : j < l.length
    · obtain ⟨b1, o1, rfl, hb1, hc1⟩ := (H2.out.below HB.out).elem encO_len hlt
      have hd10 := hc1 0 _ (by omega) rfl
      have hd11 := hc1 1 _ (by omega) rfl
      have hd12 := hc1 2 _ (by omega) rfl
      simp only [Nat.add_zero] at hd10
      have hbl1 : b1 < wr.heap.size := by have := HB.out.size; omega
      have HBj := hide (HBB.out _ (List.getElem_mem hlt))
      have HSN := hide (runP_snoc j hlt HRUN.out)
      clear hc1
      generalize l[j] = q at *
      obtain ⟨k, g, b⟩ := q
      dsimp only at hd10 hd11 hd12 HBj HSN
      obtain ⟨o1ok, o2, o3⟩ := HOK.out j _ HRUN.out
      dsimp only at o1ok o2 o3
      have hbn : Below wr.heap.size wr (wr.alloc (.cells #[.int .i64 k, .int .i64 g, .int .u64 b] 32)) := (Below.refl _ _).alloc (Nat.le_refl _) _
      have HDO := hide (does_any gh gs n x ys k g b _ (HH.out.below hbn) o1ok o2 (pOk_u64 o1ok o3) HBj.out)
      replace HH := hide (HH.out.below hbn)
      replace R3 := hide (R3.out.below hbn)
      replace HB := hide (HB.out.trans (hbn.mono HB.out.size))
      have HDN := hide (dS_length x ys k g b)
      clear o1ok o2 o3 hbn
      go_wp2_with fail
      generalize (wr.alloc (.cells #[.int .i64 k, .int .i64 g, .int .u64 b] 32)) = w5 at *
      refine HDO.out.mono ?_
      rintro x2 w6 ⟨rfl, hh, hp⟩
      have r3 : RowAt w6 (W.heap.size + 1) 25 #[.int .u64 0, .slice none 0 0] := (hp.block _ (by omega) (by omega) R3.out.lt).trans R3.out
      have hbW : Below W.heap.size W w6 := ⟨hp.os.trans HB.out.os, hp.tape.trans HB.out.tape, hp.output.trans HB.out.output, by have := hp.size; have := HB.out.size; omega, fun j hj => (hp.block j (by omega) (by omega) (by have := HB.out.size; omega)).trans (HB.out.block j hj)⟩
      obtain ⟨q, hq⟩ : ∃ q, dE x ys k g b = q := ⟨_, rfl⟩
      rw [hq] at HSN hh ⊢
      replace R3 := hide r3
      replace HB := hide hbW
      clear hp r3 hbW HDO hq HH hd10 hd11 hd12
      by_cases q0 : q = 0
      · subst q0
        simp only [if_true] at hh HSN
        replace HH := hide hh
        clear hh
        go_wp2_with fail
        go_roundw
        case rel => exact ⟨j + 1, _, by omega, by go_num, rfl, HSN.out, HH.out, R3.out, HB.out⟩
        case measure => simp [intOf]; omega
      · rw [if_neg q0] at HSN
        rw [if_neg q0, if_neg q0] at hh
        by_cases q2 : q = 2
        · subst q2
          simp only [if_true] at HSN
          have hN := runP_none (j + 1) HSN.out
          have hE2 := HE.out
          have hR2 := HRR.out
          simp only [rnE, rnR, HP.out, if_true, hN] at hE2 hR2
          injection hR2 with hR2 hR3
          injection hR3 with hR3 hR4
          subst hE2 hR2 hR3 hR4
          have hm := HM.out
          simp at hm
          subst hm
          have z0 := row20 R3.out
          have z1 := row21 R3.out
          have f0 := R3.out.frozen 0
          have f1 := R3.out.frozen 1
          have l3 := R3.out.lt
          clear hN hh q0 HE HRR HM HSN
          go_wp2_with fail
          have hr4 := (R3.out.set 0 (.int .u64 0)).set 1 (.slice none 0 0)
          have hb4 : Below W.heap.size W ((w6.setCell ⟨W.heap.size + 1, 0, none⟩ (.int .u64 0)).setCell ⟨W.heap.size + 1, 1, none⟩ (.slice none 0 0)) := (HB.out.setCell (p := ⟨W.heap.size + 1, 0, none⟩) (by simp) _).setCell (p := ⟨W.heap.size + 1, 1, none⟩) (by simp) _
          generalize ((w6.setCell ⟨W.heap.size + 1, 0, none⟩ (.int .u64 0)).setCell ⟨W.heap.size + 1, 1, none⟩ (.slice none 0 0)) = wF at *
          have hr5 : RowAt wF (W.heap.size + 1) 25 #[.int .u64 0, .slice none 0 0] := by simpa using hr4
          refine bodyPost_ret (v := .tuple #[.agg #[.int .u64 0, .slice none 0 0], .int .i64 0, .int .i64 2]) (by simp [results, Try.results16, go_sem, row20 hr5, row21 hr5, hr5.lt]) rfl ⟨none, 0, rfl, Nat.le_refl _, by omega, PnOut.none _ _, hb4⟩
        · rw [if_neg q2] at HSN
          have q0' : (q == 0) = false := by simpa using q0
          have q2' : (q == 2) = false := by simpa using q2
          replace HH := hide hh
          clear hh q0 q2
          go_wp2_with fail
          go_roundw
          case rel => exact ⟨j + 1, _, by omega, by go_num, rfl, HSN.out, HH.out, R3.out, HB.out⟩
          case measure => simp [intOf]; omega
    · have hN := HRUN.out
      rw [List.take_of_length_le (by omega)] at hN
      have hE2 := HE.out
      have hR2 := HRR.out
      simp only [rnE, rnR, HP.out, if_true, hN] at hE2 hR2
      injection hR2 with hR2 hR3
      injection hR3 with hR3 hR4
      subst hE2 hR2 hR3 hR4
      have HMN := hide (show n = m by rw [← HM.out, ← HH.out.len])
      have a0 := row20 HH.out.box
      have a1 := row21 HH.out.box
      have la := HH.out.box.lt
      have z0 := row20 R3.out
      have z1 := row21 R3.out
      have f0 := R3.out.frozen 0
      have f1 := R3.out.frozen 1
      have l3 := R3.out.lt
      clear hN HE HRR HRUN
      go_wp2_with fail
      have hr4 := (R3.out.set 0 (.int .u64 x)).set 1 (.slice (some ⟨gs, 0, none⟩) n n)
      have hb4 : Below W.heap.size W ((wr.setCell ⟨W.heap.size + 1, 0, none⟩ (.int .u64 x)).setCell ⟨W.heap.size + 1, 1, none⟩ (.slice (some ⟨gs, 0, none⟩) n n)) := (HB.out.setCell (p := ⟨W.heap.size + 1, 0, none⟩) (by simp) _).setCell (p := ⟨W.heap.size + 1, 1, none⟩) (by simp) _
      have hrow : RowAt ((wr.setCell ⟨W.heap.size + 1, 0, none⟩ (.int .u64 x)).setCell ⟨W.heap.size + 1, 1, none⟩ (.slice (some ⟨gs, 0, none⟩) n n)) gs 22 (Cs encW ys).toArray := (HH.out.row.setNe (by omega)).setNe (by omega)
      generalize ((wr.setCell ⟨W.heap.size + 1, 0, none⟩ (.int .u64 x)).setCell ⟨W.heap.size + 1, 1, none⟩ (.slice (some ⟨gs, 0, none⟩) n n)) = wF at *
      have hr5 : RowAt wF (W.heap.size + 1) 25 #[.int .u64 x, .slice (some ⟨gs, 0, none⟩) n n] := by simpa using hr4
      refine bodyPost_ret (v := .tuple #[.agg #[.int .u64 x, .slice (some ⟨gs, 0, none⟩) n n], .int .i64 o, .int .i64 0]) (by simp [results, Try.results16, go_sem, row20 hr5, row21 hr5, hr5.lt]) rfl ⟨some ⟨gs, 0, none⟩, n, by rw [HMN.out], by have := HMN.out; omega, by omega, ⟨HM.out, fun _ => ⟨gs, rfl, by omega, hrow⟩⟩, hb4⟩

theorem Run_any (A : Option Addr) (c n : Nat) (e : Int) (S : List Int) (A2 : Option Addr) (c2 n2 : Nat) (l : List (Int × Int × Int)) (W : World) (h : Rd W W.heap.size 1 A n (Cs encW S)) (hx : S.length = n) (hn : n ≤ 4096) (h2 : Rd W W.heap.size 3 A2 n2 (Cs encO l)) (hx2 : l.length = n2) (hn2 : n2 ≤ 4096) (hb : ∀ o ∈ l, 0 ≤ o.2.2) (h0 : 0 ≤ e) (hS : ∀ s ∈ S, U64 s)
    (E X : Int) (Y : List Int) (O : Int) (m : Nat) (hE : rnE e S l = E) (hR : rnR e S l = (X, Y, O)) (hm : Y.length = m) :
    Calls Try.prog 16 #[.agg #[.int .u64 e, .slice A n c], .slice A2 n2 c2] W (RunRes W E X Y O m) := by
  cases hp : pOk e S with
  | false =>
    simp [rnE, rnR, hp] at hE hR
    obtain ⟨rfl, rfl, rfl⟩ := hR
    subst hE
    simp at hm
    subst hm
    exact Run_no A c n e S _ W h hx h0 hn hp
  | true => exact Run_yes A c n e S A2 c2 n2 l W h hx h2 hx2 hn2 hb h0 hS hp E X Y O m hE hR hm
end Go.Proofs.Ytopaopfebgonjaa
