/-
  Limbos that change: one more waits.
-/
import Derived.Test.YthnpcmigphpolaaDoorLix
set_option linter.unusedSimpArgs false
set_option linter.unusedVariables false
namespace Go.Proofs.YthnpcmigphpolaaDoor
open Go Go.RowKit
attribute [local go_sem] via_cell via_frozen

theorem doRet_err2 {l : Lim} {e : Ent} (h : entB e = false) : doRet l e = .error 2 := by unfold doRet; rw [if_pos h]
theorem doRet_err5 {l : Lim} {e : Ent} {k : Nat} (h : entB e = true) (hk : k < 3) (hh : hasB (l.r k) e.1 = true) : doRet l e = .error 5 := by
  unfold doRet
  rw [if_neg (by rw [h]; simp)]
  have : (hasB (l.r 0) e.1 || (hasB (l.r 1) e.1 || hasB (l.r 2) e.1)) = true := by
    match k, hk with
    | 0, _ => simp [hh]
    | 1, _ => simp [hh]
    | 2, _ => simp [hh]
  rw [if_pos this]
theorem doRet_ok {l : Lim} {e : Ent} (h : entB e = true) (hh : ∀ k, k < 3 → hasB (l.r k) e.1 = false) : doRet l e = .ok ⟨l.E, upd l.r (rowN l.E 0) (l.r (rowN l.E 0) ++ [e])⟩ := by
  unfold doRet
  rw [if_neg (by rw [h]; simp), if_neg (by rw [hh 0 (by omega), hh 1 (by omega), hh 2 (by omega)]; simp)]
  rfl
theorem own_block {A : Option Addr} {n c : Nat} {j : Nat} : some j = Value.ownBlock (.slice A n c) ↔ ∃ p, A = some p ∧ p.block = j := by
  cases A with
  | none => simp [Value.ownBlock]
  | some p => simp [Value.ownBlock, eq_comm]
/-- One is appended to a row of the limbo in its box. -/
theorem OpRes.append {w w5 w6 : World} {gx kk : Nat} {l : Lim} {A : Nat → Option Addr} {n c : Nat → Nat} {A2 : Option Addr} {c2 : Nat} {x : Ent} {o : Obj} (H : ChAt w gx (gx + 1) l A n c) (HB : Below w.heap.size w w5) (hk : kk < 3)
    (hg : (w5.drew.alloc o).grownBy w6 (Value.ownBlock (.slice (A kk) (n kk) (c kk))))
    (hown : OwnO w6 (gx + 1) 34 2 (.slice A2 (n kk + 1) c2) (n kk + 1) (Cs encE (l.r kk) ++ encE x))
    (hv : Value.ownBlock (.slice A2 (n kk + 1) c2) = Value.ownBlock (.slice (A kk) (n kk) (c kk)) ∨ Value.ownBlock (.slice A2 (n kk + 1) c2) = some (w5.drew.alloc o).heap.size) :
    OpRes gx A ⟨l.E, upd l.r kk (l.r kk ++ [x])⟩ w (w6.setCell ⟨gx, 1 + kk, none⟩ (.slice A2 (n kk + 1) c2)) := by
  have H5 := H.below HB
  have hs6 := hg.size
  rw [World.size_alloc] at hs6
  have hs6 : w5.heap.size + 1 ≤ w6.heap.size := hs6
  have hgx := H.row.lt
  have hs5 := HB.size
  have hblk : ∀ j, j < w5.heap.size → (∀ p, A kk = some p → p.block ≠ j) → w6.heap[j]? = w5.heap[j]? := fun j hj hn => by
    rw [hg.block j (by rw [World.size_alloc]; exact Nat.lt_succ_of_lt hj) (fun e => by obtain ⟨p, hp, hpj⟩ := own_block.1 e; exact hn p hp hpj), Below.heap_alloc w5.drew _ _ hj]
    rfl
  have hblk2 : ∀ j, j < w5.heap.size → j ≠ gx → (∀ p, A kk = some p → p.block ≠ j) → (w6.setCell ⟨gx, 1 + kk, none⟩ (.slice A2 (n kk + 1) c2)).heap[j]? = w5.heap[j]? := fun j hj hne hn => (heap_setCell_ne _ _ _ _ hne).trans (hblk j hj hn)
  have hA2 : ∀ p, A2 = some p → (∃ q, A kk = some q ∧ q.block = p.block) ∨ p.block = w5.heap.size + 1 := fun p hp => by
    rcases hv with hv | hv
    · obtain ⟨q, hq, he⟩ := own_block.1 ((own_block.2 ⟨p, hp, rfl⟩).trans hv)
      exact .inl ⟨q, hq, he⟩
    · have := (own_block.2 ⟨p, hp, rfl⟩).trans hv
      injection this with this
      exact .inr (by rw [World.size_alloc] at this; exact this)
  have hrow6 : RowAt w6 gx 72 (limC l.E A n c) := (hblk gx (by omega) (fun p hp => by have := ((H.own.own kk hk).fresh hp).1; omega)).trans H5.row
  refine ⟨_, _, _, H5.put hk A2 (n kk + 1) c2 (l.r kk ++ [x]) (hrow6.set _ _) ?_ (by rw [List.length_append, H.own.len kk hk]; rfl) (fun j hj hjk => ?_) (fun j hj hjk p q hp hq => ?_), ⟨?_, ?_, ?_, ?_, fun j hj hne hno => ?_, fun k p hk9 hp => ?_⟩⟩
  · rw [Cs_append, Cs_one]
    exact hown.other fun g h1 _ _ => heap_setCell_ne _ _ _ _ (by show g ≠ gx; omega)
  · refine (H5.own.own j hj).other fun g h1 h2 h3 => hblk2 g h2 (by omega) (fun p hp => ?_)
    obtain ⟨q, hq, hqg⟩ := own_block.1 h3
    rw [← hqg]
    exact H.own.apart kk j hk hj (Ne.symm hjk) p q hp hq
  · rcases hA2 q hq with ⟨q', hq', he⟩ | he
    · rw [← he]; exact H.own.apart j kk hj hk hjk p q' hp hq'
    · have := ((H5.own.own j hj).fresh hp).2
      omega
  · exact hg.os.trans HB.os
  · exact hg.tape.trans HB.tape
  · exact hg.output.trans HB.output
  · simp; omega
  · exact (hblk2 j (by omega) hne (fun p hp => hno kk p hk hp)).trans (HB.block j hj)
  · by_cases hkk : k = kk
    · subst hkk
      simp only [if_pos rfl] at hp
      rcases hA2 p hp with h | h
      · exact .inl h
      · exact .inr (by omega)
    · simp only [if_neg hkk] at hp
      exact .inl ⟨p, hp, rfl⟩
set_option maxHeartbeats 4000000 in
theorem retire_any (gx : Nat) (l : Lim) (A : Nat → Option Addr) (n c : Nat → Nat) (s g : Int) (hg : 0 ≤ g ∧ g < 18446744073709551616) (w : World) (h : ChAt w gx (gx + 1) l A n c) (ho : l.ok = true) :
    Calls Tryd.prog 34 #[.pointer (some ⟨gx, 0, none⟩), .agg #[.int .i64 s, .int .u64 g]] w fun e w' =>
      (e = .returned (.tuple #[]) ∧ ∃ l', doRet l (s, g) = .ok l' ∧ OpRes gx A l' w w') ∨ (∃ k, e = .panicked (errX k) ∧ doRet l (s, g) = .error k ∧ PastK gx gx w w') := by
  have hE := (ok_out ho).1
  have HBN := hide (show Below w.heap.size w (w.alloc (.cells #[.int .i64 s, .int .u64 g] 34)) from (Below.refl _ _).alloc (Nat.le_refl _) _)
  have HRN := hide (RowAt.new w 34 #[.int .i64 s, .int .u64 g])
  have HN := hide (lens_ok ho h.own.len)
  have hgw := h.row.lt
  have H := hide h
  have HE := hide hE
  obtain ⟨q, hq⟩ : ∃ q, entB (s, g) = q := ⟨_, rfl⟩
  have HQ := hide hq
  have HEC := hide (entry_any s g hg (w.alloc (.cells #[.int .i64 s, .int .u64 g] 34)) q hq)
  clear h hE hq hg ho
  go_enter Tryd.func34, Tryd.ntmps34
  go_wp2_with fail
  generalize w.alloc (.cells #[.int .i64 s, .int .u64 g] 34) = w0 at *
  with_reducible refine HEC.out.mono ?_
  rintro e w1 ⟨rfl, hb1⟩
  have HB1 := hide (HBN.out.trans (hb1.mono HBN.out.size))
  have HR1 := hide (HRN.out.below hb1)
  have H1 := hide (H.out.below HB1.out)
  clear hb1 HEC
  cases q with
  | false =>
    have HF := hide (doRet_err2 (l := l) HQ.out)
    go_wp2_with fail
    refine (need_no 2 _).mono ?_
    rintro e w2 ⟨rfl, rfl⟩
    exact ⟨rfl, .inr ⟨2, rfl, HF.out, PastK.of_below HB1.out (by omega)⟩⟩
  | true =>
    have x1 : w1.cell? ⟨gx, 1, none⟩ = some (.slice (A 0) (n 0) (c 0)) := by have := H1.out.row.cell 1; simpa [limC] using this
    have x2 : w1.cell? ⟨gx, 2, none⟩ = some (.slice (A 1) (n 1) (c 1)) := by have := H1.out.row.cell 2; simpa [limC] using this
    have x3 : w1.cell? ⟨gx, 3, none⟩ = some (.slice (A 2) (n 2) (c 2)) := by have := H1.out.row.cell 3; simpa [limC] using this
    have xl := H1.out.row.lt
    go_wp2_with fail
    refine (need_ok 2 _).mono ?_
    rintro e w2 ⟨rfl, rfl⟩
    dsimp only
    go_wp2_with fail
    go_loopw [15] (fun i wr => ∃ (k : Nat), k ≤ 3 ∧ i = .int .i64 (k : Int) ∧ (∀ j, j < k → hasB (l.r j) s = false) ∧ Below w1.heap.size w1 wr) (fun i _ => 3 - (intOf i).toNat)
    case atStart => exact ⟨0, by omega, rfl, fun j hj => absurd hj (Nat.not_lt_zero _), Below.refl _ _⟩
    case round =>
      obtain ⟨k, hk, rfl, hno, hbw⟩ := hrel
      have HNO := hide hno
      have HBW := hide hbw
      have H2 := hide (H1.out.below HBW.out)
      have HR2 := hide (HR1.out.below HBW.out)
      clear hno hbw
      by_cases hlt : k < 3
      · have hki : (k : Int) < 3 := by omega
        have hix := index_rows A n c k hlt
        have HHC := hide (hasF_any wr.heap.size (A k) (c k) (n k) 52 #[.pointer (some ⟨w.heap.size, 0, none⟩)] (enters_of Tryd.func52 (by kernel_rfl) rfl) (fun x => x.1 == s) (l.r k) wr (H2.out.own.rd.rd k hlt) (H2.out.own.len k hlt) (by have := HN.out k hlt; omega) (Nat.le_refl _)
          (fun x _ w' hb => retcl_any w.heap.size s g x w' (HR2.out.below hb)))
        obtain ⟨q3, hq3⟩ : ∃ q3, (l.r k).any (fun x => x.1 == s) = q3 := ⟨_, rfl⟩
        rw [hq3] at HHC
        have HQ3 := hide (show hasB (l.r k) s = q3 from hq3)
        clear hq3
        go_wp2_with fail
        with_reducible refine HHC.out.mono ?_
        rintro e w3 ⟨rfl, hb3⟩
        have HB3 := hide (HBW.out.trans (hb3.mono HBW.out.size))
        clear hb3
        cases q3 with
        | true =>
          have HF := hide (doRet_err5 (l := l) HQ.out hlt HQ3.out)
          go_wp2_with fail
          refine (need_no 5 _).mono ?_
          rintro e w4 ⟨rfl, rfl⟩
          exact ⟨rfl, .inr ⟨5, rfl, HF.out, PastK.of_below (HB1.out.trans (HB3.out.mono HB1.out.size)) (by omega)⟩⟩
        | false =>
          have HNO2 := hide (show ∀ j, j < k + 1 → hasB (l.r j) s = false from fun j hj => by
            by_cases hjk : j = k
            · subst hjk; exact HQ3.out
            · exact HNO.out j (by omega))
          go_wp2_with fail
          refine (need_ok 5 _).mono ?_
          rintro e w4 ⟨rfl, rfl⟩
          dsimp only
          go_wp2_with fail
          go_roundw
          case rel => exact ⟨k + 1, by omega, by go_num, HNO2.out, HB3.out⟩
          case measure => simp [intOf]; omega
      · obtain rfl : k = 3 := by omega
        have HF := hide (doRet_ok (l := l) HQ.out HNO.out)
        have HRC := hide (row0_any gx l.E (.slice (A 0) (n 0) (c 0)) (.slice (A 1) (n 1) (c 1)) (.slice (A 2) (n 2) (c 2)) HE.out wr H2.out.row)
        go_wp2_with fail
        with_reducible refine HRC.out.mono ?_
        rintro e w5 ⟨rfl, hb5⟩
        have H5 := hide (H2.out.below hb5)
        have HR5 := hide (HR2.out.below hb5)
        have HB5 := hide ((HB1.out.trans (HBW.out.mono HB1.out.size)).trans (hb5.mono (by have := HB1.out.size; have := HBW.out.size; omega)))
        have hk3 := rowN_lt l.E 0
        obtain ⟨kk, hkk⟩ : ∃ kk, rowN l.E 0 = kk := ⟨_, rfl⟩
        rw [hkk] at hk3 HF ⊢
        have hc5 := limC_cell H5.out.row hk3
        have hl5 := H5.out.row.lt
        have hf5 := H5.out.row.frozen (1 + kk)
        have HO := hide (H5.out.own.own kk hk3)
        have HLN := hide (H5.out.own.len kk hk3)
        have hmk := HN.out kk hk3
        have t0 := row20 HR5.out
        have t1 := row21 HR5.out
        have tl := HR5.out.lt
        clear hb5 HRC hkk
        clear x1 x2 x3
        have HFAR := hide (fun g (hg : some g = Value.ownBlock (.slice (A kk) (n kk) (c kk))) => HO.out.lt hg)
        have HRD := hide (fun w => Rd.new w #[.int .i64 s, .int .u64 g] 34 2 1 rfl)
        go_wp2_with fail
        go_region_law (refine step_appO elE rfl _ _ rfl rfl (OwnO.keepB HO.out ((Below.refl _ _).drew.alloc (Nat.le_refl _) _)) rfl (HRD.out _) (by simp [Value.oneCell']) (by omega) (by simp; omega) ?_; intro v2 w6 hown6 hb6 hg6 hv6; obtain ⟨A2, c2, rfl, hmc2, hc2m⟩ := hown6.form; have HO6 := hide hown6; have HB6 := hide hb6; have HG6 := hide hg6; have HV6 := hide hv6; have HR6 := hide (row_grown ((H5.out.row.drew).below ((Below.refl _ _).alloc (Nat.le_refl _) _)) hg6 (fun h => by have := HFAR.out _ h; omega)); have q6 := limC_cell HR6.out hk3; have l6 := HR6.out.lt; have f6 := HR6.out.frozen (1 + kk); clear hown6 hb6 hg6 hv6)
        all_goals
          have hop := OpRes.append (x := (s, g)) H.out HB5.out hk3 HG6.out HO6.out HV6.out
          go_end0
          exact .inl ⟨rfl, _, HF.out, hop⟩
end Go.Proofs.YthnpcmigphpolaaDoor
