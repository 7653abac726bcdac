/-
  ArenaOnce, walked.
-/
import Derived.Test.YtejhknboiacgeaaArw
import Derived.Test.YtejhknboiacgeaaAro
import Derived.Test.YtejhknboiacgeaaArg
import Derived.Test.YtejhknboiacgeaaAru
import Derived.Test.YtejhknboiacgeaaHeldT
import Derived.BigQuiet
import Derived.Deep.RegionHeld3
import Derived.Deep.CutRange
import Derived.Deep.CutBlock
set_option linter.unusedSimpArgs false
set_option linter.unusedVariables false
namespace Go.Proofs.Ytejhknboiacgeaa
open Go Go.RowKit
attribute [local go_sem] via_cell via_frozen

def encM (m : Int × Int) : List Value := [.int .i64 m.1, .int .i64 m.2]
theorem encM_len : ∀ m, (encM m).length = 2 := fun _ => rfl
theorem EM.mono {w : World} {g n n' : Nat} {G : Int × Int → Bool} (h : EM w g n G) (hn : n ≤ n') : EM w g n' G := by
  obtain ⟨D, ⟨es, clock, hb, F, hs, hD⟩, h2⟩ := h
  exact ⟨D, ⟨es, clock, hb, F, Nat.le_trans hs hn, hD⟩, h2⟩
theorem EM.obj {w : World} {g n : Nat} {G : Int × Int → Bool} (h : EM w g n G) : ∃ es clock, w.heap[g]? = some (.map es clock) := by
  obtain ⟨D, ⟨es, clock, hb, _⟩, _⟩ := h
  exact ⟨es, clock, hb⟩
theorem EM.ne_row {w : World} {g g2 n : Nat} {G : Int × Int → Bool} {t : TypeId} {cs : Array Value} (h : EM w g n G) (hr : RowAt w g2 t cs) : g2 ≠ g := fun e => by
  obtain ⟨es, clock, hb⟩ := h.obj
  subst e
  have := hb.symm.trans hr
  cases this
/-- A map is written: cells are as they were. -/
theorem EM.cells {w w' : World} {g n n' : Nat} {G G' : Int × Int → Bool} (h : EM w g n G) (h' : EM w' g n' G') (hg : w.grownBy w' (some g)) (p : Addr) (hp : p.block < w.heap.size) : w'.cell? p = w.cell? p := by
  by_cases hpg : p.block = g
  · obtain ⟨es, clock, hb⟩ := h.obj
    obtain ⟨es', clock', hb'⟩ := h'.obj
    unfold World.cell?
    rw [hpg, hb, hb']
  · exact cell_of_heap (hg.block _ hp (fun e => hpg (by injection e)))
theorem rd_map {w w' : World} {g n n' m : Nat} {G G' : Int × Int → Bool} {A : Option Addr} {xs : List Value} (h : EM w g n G) (h' : EM w' g n' G') (hg : w.grownBy w' (some g)) (hr : Rd w w.heap.size 2 A m xs) : Rd w' w'.heap.size 2 A m xs :=
  (hr.keep (fun p hp => h.cells h' hg p hp)).more hg.size
theorem row_map {w w' : World} {g n g2 : Nat} {G : Int × Int → Bool} {t : TypeId} {cs : Array Value} (h : EM w g n G) (hg : w.grownBy w' (some g)) (hr : RowAt w g2 t cs) : RowAt w' g2 t cs :=
  (hg.block g2 hr.lt (fun e => h.ne_row hr (by injection e))).trans hr
theorem below_map {w w' : World} {base g : Nat} (hg : w.grownBy w' (some g)) (hb : base ≤ g) (hw : base ≤ w.heap.size) : Below base w w' :=
  ⟨hg.os, hg.tape, hg.output, hg.size, fun j hj => hg.block j (by omega) (fun e => by injection e with e; omega)⟩
theorem EM.other {w w' : World} {g g2 n : Nat} {G : Int × Int → Bool} (h : EM w g n G) (hg : w.grownBy w' (some g2)) (hne : g ≠ g2) : EM w' g n G := h.heap (hg.block g h.lt (fun e => hne (by injection e)))
theorem EM.setNe {w : World} {g g2 n o : Nat} {v : Value} {G : Int × Int → Bool} (h : EM w g n G) (hne : g ≠ g2) : EM (w.setCell ⟨g2, o, none⟩ v) g n G := h.heap (heap_setCell_ne _ _ _ _ hne)
theorem cell_ltB {w : World} {b o : Nat} {v : Value} (h : w.cell? ⟨b, o, none⟩ = some v) : b < w.heap.size := by
  rcases Nat.lt_or_ge b w.heap.size with hlt | hge
  · exact hlt
  · unfold World.cell? at h; simp only [] at h; rw [Array.getElem?_eq_none hge] at h; cases h
/-- Between two moves. -/
structure OnceI (g5 g9 g10 : Nat) (W : World) (i : Nat) (wr : World) (xs : List Sl) (T G : Sl → Bool) (A : Option Addr) (n c : Nat) : Prop where
  box : RowAt wr g5 24 #[.slice A n c]
  rd : Rd wr wr.heap.size 2 A n (Cs encE xs)
  off : OffB A g5
  len : xs.length = n
  cap : n ≤ c
  inv : Inv xs T G
  given : EM wr g9 i G
  taken : EM wr g10 i T
  below : Below W.heap.size W wr
theorem OnceI.bel {g5 g9 g10 i : Nat} {W w w' : World} {xs : List Sl} {T G : Sl → Bool} {A : Option Addr} {n c : Nat} (h : OnceI g5 g9 g10 W i w xs T G A n c) (hb : Below w.heap.size w w') : OnceI g5 g9 g10 W i w' xs T G A n c :=
  ⟨h.box.below hb, (h.rd.below hb).more hb.size, h.off, h.len, h.cap, h.inv, h.given.below hb, h.taken.below hb, h.below.trans (hb.mono h.below.size)⟩
theorem OnceI.next {g5 g9 g10 i : Nat} {W w : World} {xs : List Sl} {T G : Sl → Bool} {A : Option Addr} {n c : Nat} (h : OnceI g5 g9 g10 W i w xs T G A n c) : OnceI g5 g9 g10 W (i + 1) w xs T G A n c :=
  ⟨h.box, h.rd, h.off, h.len, h.cap, h.inv, h.given.mono (Nat.le_succ _), h.taken.mono (Nat.le_succ _), h.below⟩
theorem OnceI.setO {g5 g9 g10 i : Nat} {W w : World} {xs : List Sl} {T G : Sl → Bool} {A : Option Addr} {n c : Nat} (h : OnceI g5 g9 g10 W i w xs T G A n c) {g : Nat} (o : Nat) (v : Value) (h5 : g5 ≠ g) (h9 : g9 ≠ g) (h10 : g10 ≠ g) (hoff : OffB A g) (hW : W.heap.size ≤ g) : OnceI g5 g9 g10 W i (w.setCell ⟨g, o, none⟩ v) xs T G A n c :=
  ⟨h.box.setNe h5, Rd.setS h.rd hoff o v, h.off, h.len, h.cap, h.inv, h.given.setNe h9, h.taken.setNe h10, h.below.setCell (p := ⟨g, o, none⟩) hW v⟩
theorem OnceI.swap {g5 g9 g10 i : Nat} {W w : World} {xs xs' : List Sl} {T G : Sl → Bool} {A A' : Option Addr} {n c n' c' : Nat} (h : OnceI g5 g9 g10 W i w xs T G A n c) (hr : Rd w w.heap.size 2 A' n' (Cs encE xs')) (ho : OffB A' g5) (hl : xs'.length = n') (hc : n' ≤ c') (hI : Inv xs' T G) (hW : W.heap.size ≤ g5) : OnceI g5 g9 g10 W (i + 1) (w.setCell ⟨g5, 0, none⟩ (.slice A' n' c')) xs' T G A' n' c' :=
  ⟨h.box.set 0 _, Rd.setS hr ho 0 _, ho, hl, hc, hI, (h.given.setNe (Ne.symm (h.given.ne_row h.box))).mono (Nat.le_succ _), (h.taken.setNe (Ne.symm (h.taken.ne_row h.box))).mono (Nat.le_succ _), h.below.setCell (p := ⟨g5, 0, none⟩) hW _⟩
/-- Given back: the box, and the map. -/
theorem OnceI.gave {g5 g9 g10 i : Nat} {W w w' : World} {xs xs' : List Sl} {T G : Sl → Bool} {A A' : Option Addr} {n c n' c' : Nat} {x : Sl} (h : OnceI g5 g9 g10 W i w xs T G A n c) (hr : Rd w w.heap.size 2 A' n' (Cs encE xs')) (ho : OffB A' g5) (hl : xs'.length = n') (hc : n' ≤ c') (hI : Inv xs' T (addG G x)) (hW : W.heap.size ≤ g5) (hW9 : W.heap.size ≤ g9) (hne : g10 ≠ g9)
    (em : EM w' g9 (i + 1) (addG G x)) (hg : (w.setCell ⟨g5, 0, none⟩ (.slice A' n' c')).grownBy w' (some g9)) : OnceI g5 g9 g10 W (i + 1) w' xs' T (addG G x) A' n' c' := by
  have e9 := h.given.setNe (o := 0) (v := .slice A' n' c') (Ne.symm (h.given.ne_row h.box))
  have hb := h.below.setCell (p := ⟨g5, 0, none⟩) hW (.slice A' n' c')
  exact ⟨row_map e9 hg (h.box.set 0 _), rd_map e9 em hg (Rd.setS hr ho 0 _), ho, hl, hc, hI, em, ((h.taken.setNe (Ne.symm (h.taken.ne_row h.box))).other hg hne).mono (Nat.le_succ _), hb.trans (below_map hg hW9 hb.size)⟩
theorem vEn_inj {a b : Int × Int} (h : vEn a = vEn b) : a = b := by
  injection h with h
  simp only [Array.mk.injEq, List.cons.injEq, Value.int.injEq, true_and, and_true] at h
  exact Prod.ext h.1 h.2
theorem grown_below {w w' : World} (hb : Below w.heap.size w w') : w.grownBy w' none := ⟨hb.os, hb.tape, hb.output, hb.size, fun j hj _ => hb.block j hj⟩
theorem ents_bound {xs : List Sl} {T G : Sl → Bool} (h : Inv xs T G) : xs.length ≤ 128 ∧ 2 ≤ xs.length := ⟨(arOk_out h.ok).2.1, (arOk_out h.ok).1⟩
theorem cn_bounds2 (S : List Sl) (t : Int) : 0 ≤ cn S t ∧ cn S t ≤ S.length := by
  unfold cn
  have := ents_length S t
  split <;> omega
theorem many_q (g : Int) {q : Nat} (hq : 0 < q) : ∃ m : Nat, m < q ∧ (IntKind.u64.wrap g).tmod (q : Int) = (m : Int) := by
  have h1 : 0 ≤ IntKind.u64.wrap g := by rw [IntKind.wrap_u64]; exact Int.emod_nonneg _ (by omega)
  have h2 : (IntKind.u64.wrap g).tmod (q : Int) = (IntKind.u64.wrap g) % (q : Int) := Int.tmod_eq_emod_of_nonneg h1
  have h3 := Int.emod_nonneg (IntKind.u64.wrap g) (show (q : Int) ≠ 0 by omega)
  have h4 := Int.emod_lt_of_pos (IntKind.u64.wrap g) (show (0 : Int) < (q : Int) by omega)
  exact ⟨((IntKind.u64.wrap g) % (q : Int)).toNat, by omega, by rw [h2]; omega⟩
theorem many_four (g : Int) : ∃ m : Nat, m < 4 ∧ wrap64 ((IntKind.u64.wrap g).tmod 4) = (m : Int) := by
  have h1 : 0 ≤ IntKind.u64.wrap g := by unfold IntKind.wrap; simp [IntKind.signed, IntKind.bits]; omega
  have h2 : (IntKind.u64.wrap g).tmod 4 = (IntKind.u64.wrap g) % 4 := Int.tmod_eq_emod_of_nonneg h1
  refine ⟨((IntKind.u64.wrap g) % 4).toNat, by omega, ?_⟩
  rw [h2, IntWalk.wrap64_in _ (by omega)]
  omega
set_option maxRecDepth 100000 in
set_option maxHeartbeats 16000000 in
theorem Once_walk (A0 : Option Addr) (c0 n0 : Nat) (xs0 : List Sl) (AM : Option Addr) (cM nM : Nat) (ms : List (Int × Int)) (W : World) (h0 : Rd W W.heap.size 2 A0 n0 (Cs encE xs0)) (hx0 : xs0.length = n0) (hu : ∀ e ∈ xs0, U64 e.2) (hn0 : n0 ≤ c0) (hm0 : c0 ≤ 9223372036854775807)
    (hM : Rd W W.heap.size 2 AM nM (Cs encM ms)) (hMx : ms.length = nM) (hMn : nM ≤ cM) (hMm : cM ≤ 9223372036854775807) :
    Calls Try.prog 5 #[.agg #[.slice A0 n0 c0], .slice AM nM cM] W fun e W' => e = .returned (.bool true) ∧ Below W.heap.size W W' := by
  obtain ⟨m, hm⟩ : ∃ m, min n0 130 = m := ⟨_, rfl⟩
  obtain ⟨S, hS⟩ : ∃ S, xs0.take m = S := ⟨_, rfl⟩
  have hm130 : m ≤ 130 := by omega
  have hSl : S.length = m := by rw [← hS, List.length_take]; omega
  have HSL := hide hSl
  have HNN := hide (show ∀ s ∈ S, 0 ≤ s.2 from fun e he => (hu e (by rw [← hS] at he; exact List.mem_of_mem_take he)).1)
  have HOWN := hide (fun w (hb : Below W.heap.size W w) => own_any A0 c0 n0 xs0 w ((h0.below hb).more hb.size) hx0 hn0 hm0 m hm)
  rw [hS] at HOWN
  have HM := hide hM
  have HMX := hide hMx
  have R2 := hide (RowAt.new W 24 #[.slice A0 n0 c0])
  have HB := hide ((Below.refl _ W).alloc (Nat.le_refl _) (.cells #[.slice A0 n0 c0] 24))
  clear h0 hu hx0 hS hSl hm hM hMx
  go_enter Try.func5, Try.ntmps5
  go_upto_region 1 with (fail)
  generalize W.alloc (.cells #[.slice A0 n0 c0] 24) = w1 at *
  go_wp2_with fail
  with_reducible refine (wakes_any w1).mono ?_
  rintro e w2 ⟨rfl, hb⟩
  replace R2 := hide (R2.out.below hb)
  replace HB := hide (HB.out.trans (hb.mono HB.out.size))
  clear hb
  have q0 := row1 R2.out
  have ql := R2.out.lt
  go_wp2_with fail
  refine (HOWN.out w2 HB.out).mono ?_
  rintro e w3 ⟨A5, c5, rfl, hc5, hcm5, hrd, hfr, hb⟩
  dsimp only
  have hba := (Below.refl _ w3).alloc (Nat.le_refl _) (.cells #[.slice A5 m c5] 24)
  have R5 := hide (RowAt.new w3 24 #[.slice A5 m c5])
  have RD := hide ((hrd.below hba).more hba.size)
  have OFF := hide (show 0 < m → OffB A5 w3.heap.size from fun hm p hp => by
    obtain ⟨b, off, e1, h1, _⟩ := hrd.2 hm
    rw [hp] at e1
    injection e1 with e1
    rw [e1]; exact Nat.ne_of_lt h1)
  have hb2 := hb.trans (hba.mono hb.size)
  replace HB := hide (HB.out.trans (hb2.mono HB.out.size))
  have HG5 := hide (show W.heap.size ≤ w3.heap.size from Nat.le_trans (by have := HB.out.size; have := hb.size; have := R2.out.lt; omega) (Nat.le_refl _))
  clear hb hba hb2 hrd hfr q0 ql HOWN R2
  go_upto_region 4 with (fail)
  generalize hg : w3.heap.size = g5 at *
  clear hg
  generalize w3.alloc (.cells #[.slice A5 m c5] 24) = w4 at *
  obtain ⟨k, hk⟩ : ∃ k, chk S = k := ⟨_, rfl⟩
  have HCK := hide (check_any w4.heap.size A5 c5 m S w4 RD.out HSL.out (Nat.le_refl _) k hk (by omega))
  have HK := hide hk
  clear hk
  have q0 := row1 R5.out
  have ql := R5.out.lt
  go_wp2_with fail
  refine HCK.out.mono ?_
  rintro e w5 ⟨rfl, hb⟩
  dsimp only
  replace R5 := hide (R5.out.below hb)
  replace RD := hide ((RD.out.below hb).more hb.size)
  replace HB := hide (HB.out.trans (hb.mono HB.out.size))
  clear hb q0 ql HCK
  have q0 := row1 R5.out
  have ql := R5.out.lt
  by_cases hok : arOk S = true
  case neg =>
    have hokf : arOk S = false := by simpa using hok
    obtain rfl : 210 = k := by rw [← HK.out]; exact (chk_no hokf).symm
    have HCN := hide (counts_any A5 c5 m S w5 RD.out HSL.out (by omega) 0 0 0 (by simp [cn, hokf]) (by simp [cn, hokf]) (by simp [cn, hokf]))
    clear hok hokf
    go_wp2_with fail
    refine HCN.out.mono ?_
    rintro e w6 ⟨rfl, hb⟩
    dsimp only
    have HF := hide (HB.out.trans (hb.mono HB.out.size))
    clear hb q0 ql
    go_wp2_with fail
    go_ret
    exact ⟨rfl, HF.out⟩
  case pos =>
    obtain rfl : 0 = k := by rw [← HK.out]; exact (chk_ok hok).symm
    obtain ⟨g9, hg9⟩ : ∃ g, w5.heap.size = g := ⟨_, rfl⟩
    have HE9 := hide ((EM.made w5).below ((Below.refl _ (w5.alloc (.map #[] 0))).alloc (Nat.le_refl _) (.map #[] 0)))
    have HE10 := hide (EM.made (w5.alloc (.map #[] 0)))
    have hb6 := ((Below.refl _ w5).alloc (Nat.le_refl _) (.map #[] 0)).alloc (by simp) (.map #[] 0)
    have HI := hide (show OnceI g5 w5.heap.size (w5.alloc (.map #[] 0)).heap.size W 0 ((w5.alloc (.map #[] 0)).alloc (.map #[] 0)) S (fun _ => false) (fun _ => false) A5 m c5 from
      ⟨R5.out.below hb6, (RD.out.below hb6).more hb6.size, OFF.out (by have := (arOk_out hok).1; rw [HSL.out] at this; omega), HSL.out, hc5, inv_start hok HNN.out, HE9.out, HE10.out, HB.out.trans (hb6.mono HB.out.size)⟩)
    rw [World.size_alloc] at HI
    have HGG := hide (show g5 < w5.heap.size ∧ W.heap.size ≤ w5.heap.size from ⟨R5.out.lt, HB.out.size⟩)
    clear hb6 HE9 HE10 hok HK HB R5 RD OFF q0 ql HSL HNN
    have hmm := fun w => run_makeMap (P := Try.prog) 48 w
    go_upto_region 8 with (fail)
    clear hmm
    rw [hg9] at HI HGG
    (try rw [hg9])
    clear hg9
    generalize (w5.alloc (.map #[] 0)).alloc (.map #[] 0) = w6 at *
    go_wp2_with fail
    go_loopw [54] (fun iv wr => ∃ (i : Nat) (xs : List Sl) (T G : Sl → Bool) (A : Option Addr) (n c : Nat), i ≤ nM ∧ i ≤ 60 ∧ iv = .int .i64 i ∧ OnceI g5 g9 (g9 + 1) W i wr xs T G A n c) (fun iv _ => nM - (intOf iv).toNat)
    case atStart => exact ⟨0, S, _, _, A5, m, c5, Nat.zero_le _, Nat.zero_le _, rfl, HI.out⟩
    case round =>
      clear HI
      obtain ⟨i, xs, T, G, A, n, c, hi, hi60, rfl, hI⟩ := hrel
      have HI := hide hI
      clear hI
      by_cases hlt : i < nM
      · have hix : i < ms.length := by rw [HMX.out]; exact hlt
        have hrd := HM.out.below HI.out.below
        rw [← HMX.out] at hrd
        obtain ⟨b, off, hA, hbl, hc⟩ := hrd.elem encM_len hix
        obtain ⟨mv, hmv⟩ : ∃ s, ms[i] = s := ⟨_, rfl⟩
        rw [hmv] at hc
        obtain ⟨mk, mw⟩ := mv
        have d0 := hc 0 _ (by omega) rfl
        have d1 := hc 1 _ (by omega) rfl
        simp only [Nat.add_zero] at d0
        dsimp only at d0 d1
        subst hA
        have hbl2 : b < wr.heap.size := Nat.lt_of_lt_of_le hbl HI.out.below.size
        have hiI : (i : Int) < (nM : Int) := by omega
        have hba := (Below.refl _ wr).alloc (Nat.le_refl _) (.cells #[.int .i64 mk, .int .i64 mw] 50)
        have R12 := hide (RowAt.new wr 50 #[.int .i64 mk, .int .i64 mw])
        replace HI := hide (HI.out.bel hba)
        clear hba hc hrd hbl hmv hix
        by_cases h60 : i = 60
        · have hd60 : ((i : Int) == 60) = true := by rw [h60]; rfl
          clear h60
          go_upto_region 46 with (fail)
          clear d0 d1 hbl2 R12 hd60
          generalize wr.alloc (.cells #[.int .i64 mk, .int .i64 mw] 50) = w7 at *
          have q0 := row1 HI.out.box
          have ql := HI.out.box.lt
          obtain ⟨hl128, hl2⟩ := ents_bound HI.out.inv
          rw [HI.out.len] at hl128 hl2
          obtain ⟨c0', hc0⟩ : ∃ z, cn xs 0 = z := ⟨_, rfl⟩
          obtain ⟨c1', hc1⟩ : ∃ z, cn xs 1 = z := ⟨_, rfl⟩
          obtain ⟨c2', hc2⟩ : ∃ z, cn xs 2 = z := ⟨_, rfl⟩
          have hsum := counts_sum HI.out.inv.ok
          rw [hc0, hc1, hc2, HI.out.len] at hsum
          have b0 := cn_bounds2 xs 0
          have b1 := cn_bounds2 xs 1
          have b2 := cn_bounds2 xs 2
          rw [hc0, HI.out.len] at b0
          rw [hc1, HI.out.len] at b1
          rw [hc2, HI.out.len] at b2
          obtain ⟨b00, b01⟩ := b0
          obtain ⟨b10, b11⟩ := b1
          obtain ⟨b20, b21⟩ := b2
          have HCN := hide (counts_any A c n xs w7 HI.out.rd HI.out.len (by omega) c0' c1' c2' hc0 hc1 hc2)
          clear hc0 hc1 hc2
          go_wp2_with fail
          refine HCN.out.mono ?_
          rintro e w8 ⟨rfl, hb⟩
          dsimp only
          replace HI := hide (HI.out.bel hb)
          clear hb q0 ql HCN
          have q0 := row1 HI.out.box
          have ql := HI.out.box.lt
          have HCK := hide (check_any w8.heap.size A c n xs w8 HI.out.rd HI.out.len (Nat.le_refl _) 0 (chk_ok HI.out.inv.ok) (by omega))
          have hs2 : ((c0' + c1' + c2') == (n : Int)) = true := by rw [hsum]; simp
          have hw1 : IntKind.i64.wrap (c0' + c1') = c0' + c1' := IntWalk.i64_in _ (by omega)
          have hw2 : IntKind.i64.wrap (c0' + c1' + c2') = c0' + c1' + c2' := IntWalk.i64_in _ (by omega)
          go_wp2_with fail
          refine HCK.out.mono ?_
          rintro e w9 ⟨rfl, hb⟩
          dsimp only
          replace HI := hide (HI.out.bel hb)
          clear hb q0 ql HCK
          have q0 := row1 HI.out.box
          have ql := HI.out.box.lt
          go_wp2_with fail
          go_ret
          exact ⟨ret_bool (by simp [hsum]), HI.out.below⟩
        · have hd60 : ((i : Int) == 60) = false := by rw [beq_eq_false_iff_ne]; omega
          have hi61 : i + 1 ≤ 60 := by omega
          clear h60
          obtain ⟨r, hr4, hrk⟩ : ∃ r : Nat, r < 4 ∧ wrap64 ((IntKind.u64.wrap mk).tmod 4) = (r : Int) := many_four mk
          go_upto_region 12 with (fail)
          clear d0 d1 hbl2 hd60
          generalize hg : wr.heap.size = g12 at *
          clear hg
          generalize wr.alloc (.cells #[.int .i64 mk, .int .i64 mw] 50) = w7 at *
          have e0 := row20 R12.out
          have e1 := row21 R12.out
          have el := R12.out.lt
          have q0 := row1 HI.out.box
          have ql := HI.out.box.lt
          obtain ⟨hl128, hl2⟩ := ents_bound HI.out.inv
          rw [HI.out.len] at hl128 hl2
          by_cases hr0 : r = 0
          · subst hr0
            go_upto_region 13 with (fail)
            cases hE : ents xs 0 with
            | nil =>
              have HTK := hide (TakeK A c n 1 xs w7 HI.out.rd HI.out.len (by omega) 6 [] [] 0 0 (by simp [tkE, HI.out.inv.ok, hE]) (by simp [tkA, tkE, HI.out.inv.ok, hE]) (by simp [tkL, tkE, HI.out.inv.ok, hE]) rfl rfl)
              obtain ⟨c1', hc1⟩ : ∃ z, cn xs 1 = z := ⟨_, rfl⟩
              obtain ⟨c2', hc2⟩ : ∃ z, cn xs 2 = z := ⟨_, rfl⟩
              have hc0 : cn xs 0 = 0 := by simp [cn, HI.out.inv.ok, hE]
              go_wp2_with fail
              refine HTK.out.mono ?_
              rintro e w8 ⟨A14, c14, A15, c15, rfl, hc14, hc15, ho14, hr15, hf15, hb⟩
              dsimp only
              have hba := (Below.refl _ w8).alloc (Nat.le_refl _) (.cells #[.slice A14 0 c14] 24)
              replace HI := hide (HI.out.bel (hb.trans (hba.mono hb.size)))
              clear hb hba ho14 hr15 hf15 q0 ql e0 e1 el HTK
              go_upto_region 15 with (fail)
              generalize w8.alloc (.cells #[.slice A14 0 c14] 24) = w9 at *
              have q0 := row1 HI.out.box
              have ql := HI.out.box.lt
              have HCN := hide (counts_any A c n xs w9 HI.out.rd HI.out.len (by omega) 0 c1' c2' hc0 hc1 hc2)
              clear hc0 hc1 hc2
              go_wp2_with fail
              refine HCN.out.mono ?_
              rintro e w10 ⟨rfl, hb⟩
              dsimp only
              replace HI := hide (HI.out.bel hb)
              clear hb q0 ql HCN
              go_wp2_with fail
              go_roundw
              case rel => exact ⟨i + 1, xs, T, G, A, n, c, by omega, hi61, by go_num, HI.out.next⟩
              case measure => simp [intOf]; omega
            | cons x0 rest =>
              have hw := ents_w HI.out.inv (show x0 ∈ ents xs 0 by rw [hE]; simp)
              obtain ⟨hT, hG, hInv⟩ := inv_take HI.out.inv hE
              have HINV := hide hInv
              have hTK0 : tkE xs 1 = 0 := by
                unfold tkE
                rw [if_pos HI.out.inv.ok, if_neg (by omega), if_neg (by rw [hE, List.length_cons]; omega)]
              have HTK := hide (TakeK A c n 1 xs w7 HI.out.rd HI.out.len (by omega) 0 (tk xs 1) [x0] n 1 hTK0 (by unfold tkA; rw [if_pos hTK0]; rfl) (by unfold tkL; rw [if_pos hTK0, hE]; rfl) (by rw [tk_length]; exact HI.out.len) rfl)
              obtain ⟨c0', hc0⟩ : ∃ z, cn xs 0 = z := ⟨_, rfl⟩
              obtain ⟨c1', hc1⟩ : ∃ z, cn xs 1 = z := ⟨_, rfl⟩
              obtain ⟨c2', hc2⟩ : ∃ z, cn xs 2 = z := ⟨_, rfl⟩
              have hc0p : (c0' == 0) = false := by
                rw [beq_eq_false_iff_ne, ← hc0]
                unfold cn
                rw [if_pos HI.out.inv.ok, hE, List.length_cons]
                omega
              have HW := hide hw.1
              clear hInv hw hE
              go_wp2_with fail
              refine HTK.out.mono ?_
              rintro e w8 ⟨A14, c14, A15, c15, rfl, hc14, hc15, ho14, hr15, hf15, hb⟩
              dsimp only
              have hba := (Below.refl _ w8).alloc (Nat.le_refl _) (.cells #[.slice A14 n c14] 24)
              have R14 := hide (RowAt.new w8 24 #[.slice A14 n c14])
              have hb2 := hb.trans (hba.mono hb.size)
              have OFF14 := hide (ho14.off (by omega) HI.out.box.lt)
              have HG7 := hide HI.out.box.lt
              have HG8 := hide (show g5 < w8.heap.size from Nat.lt_of_lt_of_le HI.out.box.lt hb.size)
              have AO14 := hide (ho14.below hba)
              have RD15 := hide ((hr15.below hba).more hba.size)
              replace HI := hide (HI.out.bel hb2)
              have NE145 := hide (show w8.heap.size ≠ g5 from fun e => by have := HG8.out; omega)
              have HF15 := hide (show ∀ p, A15 = some p → g5 < p.block from fun p hp => Nat.lt_of_lt_of_le HG7.out (hf15 p hp))
              clear hb hba hb2 ho14 hr15 hf15 q0 ql e0 e1 el HTK
              go_upto_region 15 with (fail)
              generalize hg : w8.heap.size = g14 at *
              clear hg
              generalize w8.alloc (.cells #[.slice A14 n c14] 24) = w9 at *
              have q0 := row1 HI.out.box
              have ql := HI.out.box.lt
              have HCN := hide (counts_any A c n xs w9 HI.out.rd HI.out.len (by omega) c0' c1' c2' hc0 hc1 hc2)
              clear hc0 hc1 hc2
              go_wp2_with fail
              refine HCN.out.mono ?_
              rintro e w10 ⟨rfl, hb⟩
              dsimp only
              replace HI := hide (HI.out.bel hb)
              replace R14 := hide (R14.out.below hb)
              replace AO14 := hide (AO14.out.below hb)
              replace RD15 := hide ((RD15.out.below hb).more hb.size)
              clear hb q0 ql HCN
              obtain ⟨b15, o15, hA15, hbl15, hcl15⟩ := RD15.out.2 (by omega)
              subst hA15
              have d0 := hcl15 0 _ rfl
              have d1 := hcl15 1 _ rfl
              simp only [Nat.add_zero] at d0
              have hlk1 : ∀ k, (Instr.lookup 48 (.map (some (g9 + 1))) (.agg #[.int .i64 x0.1, .int .u64 x0.2]) false).run Try.prog (w10.drewN k) = .ok (.int .i64 0) (w10.drewN k) := fun k => by
                have h := (HI.out.taken.heap (w' := w10.drewN k) rfl).look HW.out
                rw [hT] at h
                exact h
              have hlk2 : ∀ k, (Instr.lookup 48 (.map (some g9)) (.agg #[.int .i64 x0.1, .int .u64 x0.2]) false).run Try.prog (w10.drewN k) = .ok (.int .i64 0) (w10.drewN k) := fun k => by
                have h := (HI.out.given.heap (w' := w10.drewN k) rfl).look HW.out
                rw [hG] at h
                exact h
              go_upto_region 19 with (fail)
              go_quiet (fail)
              clear hlk1 hlk2 hc0p
              have hbq := below_drewN (Below.refl w10.heap.size w10) nq
              replace HI := hide (HI.out.bel hbq)
              replace R14 := hide (R14.out.below hbq)
              replace AO14 := hide (AO14.out.below hbq)
              replace RD15 := hide ((RD15.out.below hbq).more hbq.size)
              have d0 := kept hbq d0
              have d1 := kept hbq d1
              have hbl15 : b15 < (w10.drewN nq).heap.size := hbl15
              clear hbq
              generalize w10.drewN nq = w11 at *
              go_upto_region 21 with (fail)
              have N5 := hide (HI.out.taken.ne_row HI.out.box)
              have N14 := hide (HI.out.taken.ne_row R14.out)
              have N59 := hide (HI.out.given.ne_row HI.out.box)
              have N145 := hide (show g14 ≠ g5 from NE145.out)
              have hb15 : b15 ≠ g5 := fun e => by have h := HF15.out _ rfl; rw [e] at h; exact Nat.lt_irrefl _ h
              have hb15m : b15 ≠ g9 + 1 := fun e => by
                obtain ⟨es, clock, hbo⟩ := HI.out.taken.obj
                subst e
                unfold World.cell? at d0
                rw [hbo] at d0
                simp at d0
              obtain ⟨v0, st, wE1, r1, gr1, sz1, wE2, r2, em2, gr2, sz2⟩ := ((HI.out.taken.setNe (g2 := g5) (o := 0) (v := .slice A14 n c14) (Ne.symm N5.out)).heap (w' := (w11.setCell ⟨g5, 0, none⟩ (.slice A14 n c14)).drew) rfl).entry (by unfold maxLen; omega) HW.out
              have r2 : (Instr.entryStore 48 (.map (some (g9 + 1))) (.int .i64 (st : Int)) (.int .i64 1)).run Try.prog wE1 = .ok () wE2 := r2
              have q0 := row1 HI.out.box
              have ql := HI.out.box.lt
              have qf := HI.out.box.frozen 0
              have s14 := row1 R14.out
              have HSS := hide (show (w11.setCell ⟨g5, 0, none⟩ (.slice A14 n c14)).drew.cell? ⟨b15, o15, none⟩ = some (.int .i64 x0.1) ∧ (w11.setCell ⟨g5, 0, none⟩ (.slice A14 n c14)).drew.cell? ⟨b15, o15 + 1, none⟩ = some (.int .u64 x0.2) ∧ (w11.setCell ⟨g5, 0, none⟩ (.slice A14 n c14)).drew.cell? ⟨g14, 0, none⟩ = some (.slice A14 n c14) from ⟨(cell_of_heap (p := ⟨b15, o15, none⟩) (heap_setCell_ne _ _ _ _ hb15)).trans d0, (cell_of_heap (p := ⟨b15, o15 + 1, none⟩) (heap_setCell_ne _ _ _ _ hb15)).trans d1, (cell_of_heap (p := ⟨g14, 0, none⟩) (heap_setCell_ne _ _ _ _ N145.out)).trans s14⟩)
              have hlS : ∀ {b o : Nat} {v : Value}, (w11.setCell ⟨g5, 0, none⟩ (.slice A14 n c14)).drew.cell? ⟨b, o, none⟩ = some v → b < (w11.setCell ⟨g5, 0, none⟩ (.slice A14 n c14)).drew.heap.size := fun h => cell_ltB h
              have HSE := hide (show wE1.cell? ⟨b15, o15, none⟩ = some (.int .i64 x0.1) ∧ wE1.cell? ⟨b15, o15 + 1, none⟩ = some (.int .u64 x0.2) ∧ wE1.cell? ⟨g14, 0, none⟩ = some (.slice A14 n c14) from ⟨(cell_of_heap (p := ⟨b15, o15, none⟩) (gr1.block _ (hlS HSS.out.1) (fun e => hb15m (by injection e)))).trans HSS.out.1, (cell_of_heap (p := ⟨b15, o15 + 1, none⟩) (gr1.block _ (hlS HSS.out.1) (fun e => hb15m (by injection e)))).trans HSS.out.2.1, (cell_of_heap (p := ⟨g14, 0, none⟩) (gr1.block _ (hlS HSS.out.2.2) (fun e => N14.out (by injection e)))).trans HSS.out.2.2⟩)
              have HSF := hide (show wE2.cell? ⟨b15, o15, none⟩ = some (.int .i64 x0.1) ∧ wE2.cell? ⟨b15, o15 + 1, none⟩ = some (.int .u64 x0.2) ∧ wE2.cell? ⟨g14, 0, none⟩ = some (.slice A14 n c14) from ⟨(cell_of_heap (p := ⟨b15, o15, none⟩) (gr2.block _ (hlS HSS.out.1) (fun e => hb15m (by injection e)))).trans HSS.out.1, (cell_of_heap (p := ⟨b15, o15 + 1, none⟩) (gr2.block _ (hlS HSS.out.1) (fun e => hb15m (by injection e)))).trans HSS.out.2.1, (cell_of_heap (p := ⟨g14, 0, none⟩) (gr2.block _ (hlS HSS.out.2.2) (fun e => N14.out (by injection e)))).trans HSS.out.2.2⟩)
              have HEM := hide ((HI.out.taken.setNe (g2 := g5) (o := 0) (v := .slice A14 n c14) (Ne.symm N5.out)).heap (w' := (w11.setCell ⟨g5, 0, none⟩ (.slice A14 n c14)).drew) rfl)
              have HIN := hide (show OnceI g5 g9 (g9 + 1) W (i + 1) wE2 (tk xs 1) (addG T x0) G A14 n c14 from
                ⟨row_map HEM.out gr2 (HI.out.box.set 0 (.slice A14 n c14)).drew, rd_map HEM.out em2 gr2 (Rd.setS AO14.out.rd OFF14.out 0 (.slice A14 n c14)).drew, OFF14.out, by rw [tk_length]; exact HI.out.len, hc14, HINV.out,
                 (((HI.out.given.setNe (g2 := g5) (o := 0) (v := .slice A14 n c14) (Ne.symm N59.out)).heap (w' := (w11.setCell ⟨g5, 0, none⟩ (.slice A14 n c14)).drew) rfl).other gr2 (by omega)).mono (Nat.le_succ _), em2,
                 (HI.out.below.setCell (p := ⟨g5, 0, none⟩) HG5.out (.slice A14 n c14)).drew.trans (below_map gr2 (by have := HGG.out; omega) (by show W.heap.size ≤ (w11.setCell _ _).heap.size; simp; exact HI.out.below.size))⟩)
              clear em2 gr1 gr2 sz1 sz2 hlS HEM
              refine wp_region_held_drew (S := fun wX => wX.cell? ⟨b15, o15, none⟩ = some (.int .i64 x0.1) ∧ wX.cell? ⟨b15, o15 + 1, none⟩ = some (.int .u64 x0.2) ∧ wX.cell? ⟨g14, 0, none⟩ = some (.slice A14 n c14)) (by kernel_rfl) (⟨d0, d1, s14⟩) (fun hHeld => ?_)
              (refine wpAnyH_take (i := 0) (v := ?_) rfl (by kernel_rfl) (by kernel_rfl) (by kernel_rfl) (fun _ _ _ h => h) (Or.inl ⟨by rfl, ?_⟩) (by assumption) ?_; rotate_left; (focus (intro w hSw; (try dsimp only at hSw); obtain ⟨kf0, kf1, kf2⟩ := hSw; go_simp; first | done | with_reducible rfl)); (try simp only [Act.put, List.getElem_toArray, List.getElem_cons_succ, List.getElem_cons_zero, List.setIfInBounds_toArray, List.set_cons_zero, List.set_cons_succ]))
              (refine wpAnyH_take (i := 1) (v := ?_) rfl (by kernel_rfl) (by kernel_rfl) (by kernel_rfl) (fun _ _ _ h => h) (Or.inl ⟨by rfl, ?_⟩) (by assumption) ?_; rotate_left; (focus (intro w hSw; (try dsimp only at hSw); obtain ⟨kf0, kf1, kf2⟩ := hSw; go_simp; first | done | with_reducible rfl)); (try simp only [Act.put, List.getElem_toArray, List.getElem_cons_succ, List.getElem_cons_zero, List.setIfInBounds_toArray, List.set_cons_zero, List.set_cons_succ]))
              (refine wpAnyH_take (i := 2) (v := ?_) rfl (by kernel_rfl) (by kernel_rfl) (by kernel_rfl) (fun _ _ _ h => h) (Or.inl ⟨by rfl, ?_⟩) (by assumption) ?_; rotate_left; (focus (intro w hSw; (try dsimp only at hSw); obtain ⟨kf0, kf1, kf2⟩ := hSw; go_simp; first | done | with_reducible rfl)); (try simp only [Act.put, List.getElem_toArray, List.getElem_cons_succ, List.getElem_cons_zero, List.setIfInBounds_toArray, List.set_cons_zero, List.set_cons_succ]))
              (refine wpAnyH_take (i := 3) (v := ?_) rfl (by kernel_rfl) (by kernel_rfl) (by kernel_rfl) (fun _ _ _ h => h) (Or.inl ⟨by rfl, ?_⟩) (by assumption) ?_; rotate_left; (focus (intro w hSw; (try dsimp only at hSw); obtain ⟨kf0, kf1, kf2⟩ := hSw; go_simp; first | done | with_reducible rfl)); (try simp only [Act.put, List.getElem_toArray, List.getElem_cons_succ, List.getElem_cons_zero, List.setIfInBounds_toArray, List.set_cons_zero, List.set_cons_succ]))
              (refine wpAnyH_take (i := 4) (v := ?_) rfl (by kernel_rfl) (by kernel_rfl) (by kernel_rfl) (fun _ _ _ h => h) (Or.inl ⟨by rfl, ?_⟩) (by assumption) ?_; rotate_left; (focus (intro w hSw; (try dsimp only at hSw); obtain ⟨kf0, kf1, kf2⟩ := hSw; go_simp; first | done | with_reducible rfl)); (try simp only [Act.put, List.getElem_toArray, List.getElem_cons_succ, List.getElem_cons_zero, List.setIfInBounds_toArray, List.set_cons_zero, List.set_cons_succ]))
              refine wpAnyH_ready (rs := [5]) (by kernel_rfl) (by simp) ?_
              refine (AllReadyH.cons rfl (fun K0 hK0 => ?_) AllReadyH.nil)
              go_simp
              refine hK0.out _ _ (HSS.out) (fun _ => ?_)
              clear hK0 K0
              (try simp only [Act.put, List.getElem_toArray, List.getElem_cons_succ, List.getElem_cons_zero, List.setIfInBounds_toArray, List.set_cons_zero, List.set_cons_succ])
              refine wpAnyH_ready (rs := [6]) (by kernel_rfl) (by simp) ?_
              refine (AllReadyH.cons rfl (fun K1 hK1 => ?_) AllReadyH.nil)
              go_simp
              refine hK1.out _ _ (HSE.out) (fun _ => ?_)
              clear hK1 K1
              (try simp only [Act.put, List.getElem_toArray, List.getElem_cons_succ, List.getElem_cons_zero, List.setIfInBounds_toArray, List.set_cons_zero, List.set_cons_succ])
              refine wpAnyH_ready (rs := [7]) (by kernel_rfl) (by simp) ?_
              refine (AllReadyH.cons rfl (fun K2 hK2 => ?_) AllReadyH.nil)
              go_simp
              refine hK2.out _ _ (HSE.out) (fun _ => ?_)
              clear hK2 K2
              (try simp only [Act.put, List.getElem_toArray, List.getElem_cons_succ, List.getElem_cons_zero, List.setIfInBounds_toArray, List.set_cons_zero, List.set_cons_succ])
              refine wpAnyH_ready (rs := [8]) (by kernel_rfl) (by simp) ?_
              refine (AllReadyH.cons rfl (fun K3 hK3 => ?_) AllReadyH.nil)
              go_simp
              refine hK3.out _ _ (HSF.out) (fun _ => ?_)
              clear hK3 K3
              (try simp only [Act.put, List.getElem_toArray, List.getElem_cons_succ, List.getElem_cons_zero, List.setIfInBounds_toArray, List.set_cons_zero, List.set_cons_succ])
              refine wpAnyH_done (by kernel_rfl) ?_ _
              go_wp2_with fail
              go_roundw
              case rel => exact ⟨i + 1, tk xs 1, _, G, A14, n, c14, by omega, hi61, by go_num, HIN.out⟩
              case measure => simp [intOf]; omega
          · have hcase : r = 1 ∨ r = 2 ∨ r = 3 := by omega
            clear hr0 hr4
            rcases hcase with hr1 | hr1 | hr1
            · subst hr1
              have hrk : wrap64 ((IntKind.u64.wrap mk).tmod 4) = 1 := hrk
              go_upto_region 13 with (fail)
              clear hrk
              obtain ⟨ys, hys⟩ : ∃ ys, ents xs 1 = ys := ⟨_, rfl⟩
              obtain ⟨q, hq⟩ : ∃ n, ys.length = n := ⟨_, rfl⟩
              have hq128 : q ≤ 128 := by rw [← hq, ← hys]; have := ents_length xs 1; have := HI.out.len; omega
              have HEN := hide (entries_any A c n 1 xs w7 HI.out.rd HI.out.len (by omega) ys (by rw [if_pos HI.out.inv.ok]; exact hys) q hq)
              have HYS := hide hys
              have HQ := hide hq
              clear hys hq
              go_wp2_with fail
              refine HEN.out.mono ?_
              rintro e w8 ⟨A21, c21, rfl, hc21, hcm21, hr21, hb⟩
              dsimp only
              replace HI := hide (HI.out.bel hb)
              replace R12 := hide (R12.out.below hb)
              have RD21 := hide hr21
              clear hb hr21 q0 ql e0 e1 el HEN
              by_cases hq0 : q = 0
              · have hqz : ((q : Int) == 0) = true := by rw [hq0]; rfl
                clear hq0
                go_wp2_with fail
                go_roundw
                case rel => exact ⟨i + 1, xs, T, G, A, n, c, by omega, hi61, by go_num, HI.out.next⟩
                case measure => simp [intOf]; omega
              · have hqz : ((q : Int) == 0) = false := by rw [beq_eq_false_iff_ne]; omega
                obtain ⟨pp, hpq, htm0⟩ : ∃ pp : Nat, pp < q ∧ (IntKind.u64.wrap mw).tmod (q : Int) = (pp : Int) := many_q mw (by omega)
                have HTM := hide htm0
                clear htm0
                have HP1 := hide (show IntKind.i64.wrap (pp : Int) = (pp : Int) from IntWalk.i64_in _ (by omega))
                have HP2 := hide (show wrap64 (pp : Int) = (pp : Int) from IntWalk.wrap64_in _ (by omega))
                have HP3 := hide (show IntKind.u64.wrap (pp : Int) = (pp : Int) from IntWalk.u64_in _ (by omega))
                have HQ3 := hide (show IntKind.u64.wrap (q : Int) = (q : Int) from IntWalk.u64_in _ (by omega))
                have hqn : ¬ ((q : Int) = 0) := by omega
                have hpI : (pp : Int) < (q : Int) := by omega
                have hpx : pp < ys.length := by rw [HQ.out]; exact hpq
                have hrd := RD21.out
                rw [← HQ.out] at hrd
                obtain ⟨b21, o21, hA21, hbl21, hc⟩ := hrd.elem encE_len hpx
                obtain ⟨x, hx⟩ : ∃ x, ys[pp] = x := ⟨_, rfl⟩
                have hxm : x ∈ ents xs 1 := by rw [HYS.out, ← hx]; exact List.getElem_mem hpx
                have hxw := ents_w HI.out.inv hxm
                have HXM := hide hxm
                have HXW := hide hxw
                rw [hx] at hc
                have d0 := hc 0 _ (by omega) rfl
                have d1 := hc 1 _ (by omega) rfl
                simp only [Nat.add_zero] at d0
                try dsimp only at d1
                subst hA21
                have e0 := row20 R12.out
                have e1 := row21 R12.out
                have el := R12.out.lt
                have hba := (Below.refl _ w8).alloc (Nat.le_refl _) (.cells #[.int .i64 x.1, .int .u64 x.2] 31)
                have hbz := (Below.refl _ (w8.alloc (.cells #[.int .i64 x.1, .int .u64 x.2] 31))).alloc (Nat.le_refl _) (.cells #[.slice none 0 0] 24)
                have R22 := hide ((RowAt.new w8 31 #[.int .i64 x.1, .int .u64 x.2]).below hbz)
                have R23 := hide (show RowAt ((w8.alloc (.cells #[.int .i64 x.1, .int .u64 x.2] 31)).alloc (.cells #[.slice none 0 0] 24)) (w8.heap.size + 1) 24 #[.slice none 0 0] from by have h := RowAt.new (w8.alloc (.cells #[.int .i64 x.1, .int .u64 x.2] 31)) 24 #[.slice none 0 0]; rw [World.size_alloc] at h; exact h)
                have HAG := hide (show OffB A (w8.heap.size + 1) from fun p hp => by
                  obtain ⟨b, off, e3, h1, _⟩ := HI.out.rd.2 (by omega)
                  rw [hp] at e3
                  injection e3 with e3
                  have : p.block = b := by rw [e3]
                  omega)
                have HG5L := hide (show g5 < w8.heap.size ∧ g9 + 1 < w8.heap.size from ⟨HI.out.box.lt, HI.out.taken.lt⟩)
                replace HI := hide (HI.out.bel (hba.trans (hbz.mono hba.size)))
                clear hxw hxm hx hrd hc hba hbz RD21
                obtain ⟨g22, hg22⟩ : ∃ g, w8.heap.size = g := ⟨_, rfl⟩
                rw [hg22] at R22 R23 HG5L HAG
                have hpw1 := HP1.out
                have hpw2 := HP2.out
                have hpw3 := HP3.out
                have hqw3 := HQ3.out
                have htm := HTM.out
                go_upto_region 30 with (fail)
                (try rw [hg22])
                clear hg22 d0 d1 e0 e1 el htm hpw1 hpw2 hpw3 hqw3 hqn hpI hqz
                generalize (w8.alloc (.cells #[.int .i64 x.1, .int .u64 x.2] 31)).alloc (.cells #[.slice none 0 0] 24) = w9 at *
                have u0 := row20 R22.out
                have u1 := row21 R22.out
                have ul := R22.out.lt
                have q0 := row1 HI.out.box
                have ql := HI.out.box.lt
                have hba := (Below.refl _ w9).alloc (Nat.le_refl _) (.cells #[.int .i64 x.1, .int .u64 x.2] 31)
                have HBA := hide hba
                have HIA := hide (HI.out.bel hba)
                have HL1 := hide (Rd.new w9 #[.int .i64 x.1, .int .u64 x.2] 31 2 1 rfl)
                clear hba
                have hret := inv_ret HI.out.inv HXM.out
                have HINV := hide hret.2
                have HLEN := hide (show (put1 2 xs x).length = n from by rw [put1_length]; exact HI.out.len)
                have HRT := hide (RetireK A c n (some ⟨w9.heap.size, 0, none⟩) 1 1 xs [x] (w9.alloc (.cells #[.int .i64 x.1, .int .u64 x.2] 31)) HIA.out.rd HIA.out.len (by omega) (HL1.out.more (by simp)) rfl (by omega) 0 (put1 2 xs x) n (by unfold rtE; rw [if_pos HI.out.inv.ok, hret.1]) (by unfold rtA; rw [if_pos HI.out.inv.ok, hret.1]) HLEN.out)
                clear hret
                go_wp2_with fail
                refine HRT.out.mono ?_
                rintro ew w10 ⟨A', c', rfl, hc', ho', hb⟩
                dsimp only
                have HI2 := hide (HIA.out.bel hb)
                have R23b := hide ((R23.out.below HBA.out).below hb)
                have R22b := hide ((R22.out.below HBA.out).below hb)
                have AO := hide ho'
                have OF5 := hide (ho'.off (by omega) (show g5 < (w9.alloc (.cells #[.int .i64 x.1, .int .u64 x.2] 31)).heap.size from by rw [World.size_alloc]; exact Nat.lt_succ_of_lt HI.out.box.lt))
                have OF23 := hide (ho'.off (by omega) (show g22 + 1 < (w9.alloc (.cells #[.int .i64 x.1, .int .u64 x.2] 31)).heap.size from by rw [World.size_alloc]; exact Nat.lt_succ_of_lt R23.out.lt))
                clear hb ho' u0 u1 ul q0 ql HRT HIA HL1 HBA
                have z0 := row1 R23b.out
                have zl := R23b.out.lt
                have zf := R23b.out.frozen 0
                have HI3 := hide (HI2.out.setO (g := g22 + 1) 0 (.slice A' n c') (by have := HG5L.out; omega) (by have := HG5L.out; omega) (by have := HG5L.out; omega) HAG.out (by have := HG5L.out; have := HG5.out; omega))
                have R23n := hide (R23b.out.set 0 (.slice A' n c'))
                have R22n := hide (R22b.out.setNe (g2 := g22 + 1) (o := 0) (v := (.slice A' n c')) (by omega))
                have RDn := hide (Rd.setS AO.out.rd OF23.out 0 (.slice A' n c'))
                go_upto_region 36 with (fail)
                clear z0 zl zf HI2 R23b AO HI
                have R23n : Hid (RowAt (w10.setCell ⟨g22 + 1, 0, none⟩ (.slice A' n c')) (g22 + 1) 24 #[(.slice A' n c')]) := R23n
                generalize w10.setCell ⟨g22 + 1, 0, none⟩ (.slice A' n c') = w11 at *
                have z0 := row1 R23n.out
                have zl := R23n.out.lt
                have q0 := row1 HI3.out.box
                have ql := HI3.out.box.lt
                have qf := HI3.out.box.frozen 0
                have HI := hide (HI3.out.swap RDn.out OF5.out HLEN.out hc' HINV.out HG5.out)
                go_upto_region 39 with (fail)
                clear z0 zl q0 ql qf HI3 RDn R23n
                generalize w11.setCell ⟨g5, 0, none⟩ (.slice A' n c') = w13 at *
                obtain ⟨wX, hwX⟩ : ∃ w, w = w13 := ⟨_, rfl⟩
                subst hwX
                obtain ⟨D, hown, hDm, hDat⟩ := HI.out.given
                have HDAT := hide hDat
                clear hDat
                go_wp2_with (at_range; refine wpList_range_own _ rfl _ 48 rfl 31 3 keyE Try.underlying48 _ g9 (i + 1) _ rfl hown ?_; intro wR hrg hgr hsR)
                have HBR := hide (show Below wX.heap.size wX wR from ⟨hgr.os, hgr.tape, hgr.output, hgr.size, fun j hj => hgr.block j hj (by simp)⟩)
                clear hgr hsR hown
                go_frame
                go_loopw [25, 26, 27] (fun _ _ _ wr => ∃ (left : Lit → Bool) (cnt : Nat), wr.ranges Try.prog 31 (plainElem Try.prog 3) g9 wX.heap.size (i + 1) D left cnt ∧ Below wX.heap.size wX wr) (fun _ _ _ wr => wr.rangeLeft g9 wX.heap.size)
                case atStart => exact ⟨_, _, hrg, HBR.out⟩
                case round =>
                  obtain ⟨left, cnt, hrg2, hb2⟩ := hrel
                  have HB2 := hide hb2
                  clear hb2 hrg HBR
                  go_wp2_with (at_next; refine wpList_next_ranges _ rfl _ rfl 31 keyE (plainElem Try.prog 3) vEn (Value.int .i64) (fun key kl hkey => by obtain ⟨x, rfl, _⟩ := key_inv hkey; exact ⟨x, rfl⟩) (fun v y hv => by obtain ⟨cc, rfl, _⟩ := plainElem_int_inv Try.underlying3 hv; exact ⟨cc, rfl⟩) g9 wX.heap.size (i + 1) D left cnt rfl hrg2 ?_ ?_)
                  · intro _ _
                    replace HI := hide (HI.out.bel HB2.out)
                    go_wp2_with fail
                    go_roundw
                    case rel => exact ⟨i + 1, put1 2 xs x, T, G, A', n, c', by omega, hi61, by go_num, HI.out⟩
                    case measure => simp [intOf]; omega
                  · intro y1 y2 cc kl yd ym wN cnt1 hkey hlk hv hat hrg1 hlt hg1 hs1 hen
                    obtain ⟨y, hyy⟩ : ∃ y : Int × Int, y = (y1, y2) := ⟨_, rfl⟩
                    obtain ⟨e2, he2, hew⟩ := key_inv hkey
                    rw [← hyy] at he2 hkey
                    obtain rfl : y = e2 := vEn_inj he2
                    have hkl : kl = ek y := by rw [ek_eq hew] at hkey; exact (Option.some.inj hkey).symm
                    have hGy : (G) y = true := by
                      by_cases hg : (G) y = true
                      · exact hg
                      · exfalso
                        have h0 := hat (.lit (.int .i64 0))
                        have h1 := hat (.lit (.int .i64 1))
                        rw [hkl, HDAT.out y hew, if_neg hg] at h0 h1
                        rw [← h0] at h1
                        injection h1 with h1
                        injection h1 with _ h1
                        exact absurd h1 (by decide)
                    have HMT := hide (show (arOk (put1 2 xs x) && meantB (put1 2 xs x) y) = false from by rw [inv_tag HI.out.inv hGy, Bool.and_false])
                    rw [hyy] at HMT
                    have hbN : Below wX.heap.size _ wN := ⟨hg1.os, hg1.tape, hg1.output, hg1.size, fun j hj => hg1.block j (Nat.lt_of_lt_of_le hj HB2.out.size) (fun e => by injection e with e; omega)⟩
                    have HBN := hide (HB2.out.trans hbN)
                    have hba := (Below.refl _ wN).alloc (Nat.le_refl _) (.cells #[.int .i64 y1, .int .u64 y2] 31)
                    have HRG := hide (hrg1.alloc (.cells #[.int .i64 y1, .int .u64 y2] 31))
                    have R25 := hide (RowAt.new wN 31 #[.int .i64 y1, .int .u64 y2])
                    have HLT := hide hlt
                    have HLE := hide hrg2.left_eq
                    replace HBN := hide (HBN.out.trans (hba.mono HBN.out.size))
                    clear hba hbN hg1 hs1 hrg1 hat hv hlk hkey hlt hrg2 he2 hew hkl hGy HB2 hyy
                    go_upto_region 42 with (fail)
                    clear hen
                    generalize wN.alloc (.cells #[.int .i64 y1, .int .u64 y2] 31) = wP at *
                    have HIP := hide (HI.out.bel HBN.out)
                    have HTG := hide (tag_any A' c' n y1 y2 (put1 2 xs x) wP HIP.out.rd HIP.out.len (by omega) false HMT.out 0 rfl)
                    have u0 := row20 R25.out
                    have u1 := row21 R25.out
                    have ul := R25.out.lt
                    have q0 := row1 HIP.out.box
                    have ql := HIP.out.box.lt
                    go_wp2_with fail
                    refine HTG.out.mono ?_
                    rintro ew wQ ⟨rfl, hb⟩
                    dsimp only
                    have HRQ := hide (HRG.out.kept (grown_below hb) (by simp) (by simp))
                    have HBQ := hide (HBN.out.trans (hb.mono HBN.out.size))
                    clear hb u0 u1 ul q0 ql HTG HIP R25 HRG
                    go_wp2_with fail
                    go_roundw
                    case rel => exact ⟨_, cnt1, HRQ.out, HBQ.out⟩
                    case measure => rw [HRQ.out.left_eq, HLE.out]; exact HLT.out
            · subst hr1
              have hrk : wrap64 ((IntKind.u64.wrap mk).tmod 4) = 2 := hrk
              go_upto_region 13 with (fail)
              clear hrk
              obtain ⟨ys, hys⟩ : ∃ ys, ents xs 1 = ys := ⟨_, rfl⟩
              obtain ⟨q, hq⟩ : ∃ n, ys.length = n := ⟨_, rfl⟩
              have hq128 : q ≤ 128 := by rw [← hq, ← hys]; have := ents_length xs 1; have := HI.out.len; omega
              have HEN := hide (entries_any A c n 1 xs w7 HI.out.rd HI.out.len (by omega) ys (by rw [if_pos HI.out.inv.ok]; exact hys) q hq)
              have HYS := hide hys
              have HQ := hide hq
              clear hys hq
              go_wp2_with fail
              refine HEN.out.mono ?_
              rintro e w8 ⟨A21, c21, rfl, hc21, hcm21, hr21, hb⟩
              dsimp only
              replace HI := hide (HI.out.bel hb)
              replace R12 := hide (R12.out.below hb)
              have RD21 := hide hr21
              clear hb hr21 q0 ql e0 e1 el HEN
              by_cases hq0 : q = 0
              · have hqz : ((q : Int) == 0) = true := by rw [hq0]; rfl
                clear hq0
                go_wp2_with fail
                go_roundw
                case rel => exact ⟨i + 1, xs, T, G, A, n, c, by omega, hi61, by go_num, HI.out.next⟩
                case measure => simp [intOf]; omega
              · have hqz : ((q : Int) == 0) = false := by rw [beq_eq_false_iff_ne]; omega
                obtain ⟨pp, hpq, htm0⟩ : ∃ pp : Nat, pp < q ∧ (IntKind.u64.wrap mw).tmod (q : Int) = (pp : Int) := many_q mw (by omega)
                have HTM := hide htm0
                clear htm0
                have HP1 := hide (show IntKind.i64.wrap (pp : Int) = (pp : Int) from IntWalk.i64_in _ (by omega))
                have HP2 := hide (show wrap64 (pp : Int) = (pp : Int) from IntWalk.wrap64_in _ (by omega))
                have HP3 := hide (show IntKind.u64.wrap (pp : Int) = (pp : Int) from IntWalk.u64_in _ (by omega))
                have HQ3 := hide (show IntKind.u64.wrap (q : Int) = (q : Int) from IntWalk.u64_in _ (by omega))
                have hqn : ¬ ((q : Int) = 0) := by omega
                have hpI : (pp : Int) < (q : Int) := by omega
                have hpx : pp < ys.length := by rw [HQ.out]; exact hpq
                have hrd := RD21.out
                rw [← HQ.out] at hrd
                obtain ⟨b21, o21, hA21, hbl21, hc⟩ := hrd.elem encE_len hpx
                obtain ⟨x, hx⟩ : ∃ x, ys[pp] = x := ⟨_, rfl⟩
                have hxm : x ∈ ents xs 1 := by rw [HYS.out, ← hx]; exact List.getElem_mem hpx
                have hxw := ents_w HI.out.inv hxm
                have HXM := hide hxm
                have HXW := hide hxw
                rw [hx] at hc
                have d0 := hc 0 _ (by omega) rfl
                have d1 := hc 1 _ (by omega) rfl
                simp only [Nat.add_zero] at d0
                try dsimp only at d1
                subst hA21
                have e0 := row20 R12.out
                have e1 := row21 R12.out
                have el := R12.out.lt
                have hba := (Below.refl _ w8).alloc (Nat.le_refl _) (.cells #[.int .i64 x.1, .int .u64 x.2] 31)
                have hbz := (Below.refl _ (w8.alloc (.cells #[.int .i64 x.1, .int .u64 x.2] 31))).alloc (Nat.le_refl _) (.cells #[.slice none 0 0] 24)
                have R22 := hide ((RowAt.new w8 31 #[.int .i64 x.1, .int .u64 x.2]).below hbz)
                have R23 := hide (show RowAt ((w8.alloc (.cells #[.int .i64 x.1, .int .u64 x.2] 31)).alloc (.cells #[.slice none 0 0] 24)) (w8.heap.size + 1) 24 #[.slice none 0 0] from by have h := RowAt.new (w8.alloc (.cells #[.int .i64 x.1, .int .u64 x.2] 31)) 24 #[.slice none 0 0]; rw [World.size_alloc] at h; exact h)
                have HAG := hide (show OffB A (w8.heap.size + 1) from fun p hp => by
                  obtain ⟨b, off, e3, h1, _⟩ := HI.out.rd.2 (by omega)
                  rw [hp] at e3
                  injection e3 with e3
                  have : p.block = b := by rw [e3]
                  omega)
                have HG5L := hide (show g5 < w8.heap.size ∧ g9 + 1 < w8.heap.size from ⟨HI.out.box.lt, HI.out.taken.lt⟩)
                replace HI := hide (HI.out.bel (hba.trans (hbz.mono hba.size)))
                clear hxw hxm hx hrd hc hba hbz RD21
                obtain ⟨g22, hg22⟩ : ∃ g, w8.heap.size = g := ⟨_, rfl⟩
                rw [hg22] at R22 R23 HG5L HAG
                have hpw1 := HP1.out
                have hpw2 := HP2.out
                have hpw3 := HP3.out
                have hqw3 := HQ3.out
                have htm := HTM.out
                go_upto_region 30 with (fail)
                (try rw [hg22])
                clear hg22 d0 d1 e0 e1 el htm hpw1 hpw2 hpw3 hqw3 hqn hpI hqz
                generalize (w8.alloc (.cells #[.int .i64 x.1, .int .u64 x.2] 31)).alloc (.cells #[.slice none 0 0] 24) = w9 at *
                have u0 := row20 R22.out
                have u1 := row21 R22.out
                have ul := R22.out.lt
                have q0 := row1 HI.out.box
                have ql := HI.out.box.lt
                have hba := (Below.refl _ w9).alloc (Nat.le_refl _) (.cells #[.int .i64 x.1, .int .u64 x.2] 31)
                have HBA := hide hba
                have HIA := hide (HI.out.bel hba)
                have HL1 := hide (Rd.new w9 #[.int .i64 x.1, .int .u64 x.2] 31 2 1 rfl)
                clear hba
                have hgv := inv_giv HI.out.inv (tag := 1) (by decide) HXM.out
                have hux : ∀ e ∈ [x], U64 e.2 := fun e he => by
                  rw [List.mem_singleton] at he
                  subst he
                  exact ⟨HXW.out.2.1, by have := HXW.out.2.2; omega⟩
                by_cases hmx : x.2 < 1099511627775
                · obtain ⟨hgv1, hgv2⟩ := hgv.1 hmx
                  have HINV := hide hgv2
                  have HLEN := hide (show (xs.set x.1.toNat (0, x.2 + 1)).length = n from by rw [List.length_set]; exact HI.out.len)
                  have HRT := hide (GiveK A c n (some ⟨w9.heap.size, 0, none⟩) 1 1 xs [x] (w9.alloc (.cells #[.int .i64 x.1, .int .u64 x.2] 31)) HIA.out.rd HIA.out.len (by omega) (HL1.out.more (by simp)) rfl (by omega) hux 0 (xs.set x.1.toNat (0, x.2 + 1)) n (by unfold gvE; rw [if_pos HI.out.inv.ok, hgv1]) (by unfold gvA; rw [if_pos HI.out.inv.ok, hgv1]) HLEN.out)
                  clear hgv hgv1 hgv2 hux hmx
                  go_wp2_with fail
                  refine HRT.out.mono ?_
                  rintro ew w10 ⟨A', c', rfl, hc', ho', hb⟩
                  dsimp only
                  have HI2 := hide (HIA.out.bel hb)
                  have R23b := hide ((R23.out.below HBA.out).below hb)
                  have R22b := hide ((R22.out.below HBA.out).below hb)
                  have AO := hide ho'
                  have OF5 := hide (ho'.off (by omega) (show g5 < (w9.alloc (.cells #[.int .i64 x.1, .int .u64 x.2] 31)).heap.size from by rw [World.size_alloc]; exact Nat.lt_succ_of_lt HI.out.box.lt))
                  have OF23 := hide (ho'.off (by omega) (show g22 + 1 < (w9.alloc (.cells #[.int .i64 x.1, .int .u64 x.2] 31)).heap.size from by rw [World.size_alloc]; exact Nat.lt_succ_of_lt R23.out.lt))
                  clear hb ho' u0 u1 ul q0 ql HRT HIA HL1 HBA
                  have z0 := row1 R23b.out
                  have zl := R23b.out.lt
                  have zf := R23b.out.frozen 0
                  have HI3 := hide (HI2.out.setO (g := g22 + 1) 0 (.slice A' n c') (by have := HG5L.out; omega) (by have := HG5L.out; omega) (by have := HG5L.out; omega) HAG.out (by have := HG5L.out; have := HG5.out; omega))
                  have R23n := hide (R23b.out.set 0 (.slice A' n c'))
                  have R22n := hide (R22b.out.setNe (g2 := g22 + 1) (o := 0) (v := (.slice A' n c')) (by omega))
                  have RDn := hide (Rd.setS AO.out.rd OF23.out 0 (.slice A' n c'))
                  go_upto_region 36 with (fail)
                  clear z0 zl zf HI2 R23b AO HI
                  have R23n : Hid (RowAt (w10.setCell ⟨g22 + 1, 0, none⟩ (.slice A' n c')) (g22 + 1) 24 #[(.slice A' n c')]) := R23n
                  generalize w10.setCell ⟨g22 + 1, 0, none⟩ (.slice A' n c') = w11 at *
                  have z0 := row1 R23n.out
                  have zl := R23n.out.lt
                  have q0 := row1 HI3.out.box
                  have ql := HI3.out.box.lt
                  have qf := HI3.out.box.frozen 0
                  have R22s := hide (R22n.out.setNe (g2 := g5) (o := 0) (v := (.slice A' n c')) (by have := HG5L.out; omega))
                  obtain ⟨w13, hup, hem, hgr⟩ := (HI3.out.given.setNe (g2 := g5) (o := 0) (v := (.slice A' n c')) (Ne.symm (HI3.out.given.ne_row HI3.out.box))).upd (by unfold maxLen; omega) HXW.out.1
                  have HI := hide (HI3.out.gave RDn.out OF5.out HLEN.out hc' HINV.out HG5.out HGG.out.2 (by omega) hem hgr)
                  have hup : (Instr.mapUpdate 48 (.map (some g9)) (.agg #[.int .i64 x.1, .int .u64 x.2]) (.int .i64 1)).run Try.prog (w11.setCell ⟨g5, 0, none⟩ (.slice A' n c')) = .ok () w13 := hup
                  have u0 := row20 R22s.out
                  have u1 := row21 R22s.out
                  have ul := R22s.out.lt
                  go_upto_region 39 with (fail)
                  clear z0 zl q0 ql qf HI3 RDn R23n hup hem hgr u0 u1 ul R22s R22n R22b
                  obtain ⟨wX, hwX⟩ : ∃ w, w = w13 := ⟨_, rfl⟩
                  subst hwX
                  obtain ⟨D, hown, hDm, hDat⟩ := HI.out.given
                  have HDAT := hide hDat
                  clear hDat
                  go_wp2_with (at_range; refine wpList_range_own _ rfl _ 48 rfl 31 3 keyE Try.underlying48 _ g9 (i + 1) _ rfl hown ?_; intro wR hrg hgr hsR)
                  have HBR := hide (show Below wX.heap.size wX wR from ⟨hgr.os, hgr.tape, hgr.output, hgr.size, fun j hj => hgr.block j hj (by simp)⟩)
                  clear hgr hsR hown
                  go_frame
                  go_loopw [25, 26, 27] (fun _ _ _ wr => ∃ (left : Lit → Bool) (cnt : Nat), wr.ranges Try.prog 31 (plainElem Try.prog 3) g9 wX.heap.size (i + 1) D left cnt ∧ Below wX.heap.size wX wr) (fun _ _ _ wr => wr.rangeLeft g9 wX.heap.size)
                  case atStart => exact ⟨_, _, hrg, HBR.out⟩
                  case round =>
                    obtain ⟨left, cnt, hrg2, hb2⟩ := hrel
                    have HB2 := hide hb2
                    clear hb2 hrg HBR
                    go_wp2_with (at_next; refine wpList_next_ranges _ rfl _ rfl 31 keyE (plainElem Try.prog 3) vEn (Value.int .i64) (fun key kl hkey => by obtain ⟨x, rfl, _⟩ := key_inv hkey; exact ⟨x, rfl⟩) (fun v y hv => by obtain ⟨cc, rfl, _⟩ := plainElem_int_inv Try.underlying3 hv; exact ⟨cc, rfl⟩) g9 wX.heap.size (i + 1) D left cnt rfl hrg2 ?_ ?_)
                    · intro _ _
                      replace HI := hide (HI.out.bel HB2.out)
                      go_wp2_with fail
                      go_roundw
                      case rel => exact ⟨i + 1, xs.set x.1.toNat (0, x.2 + 1), T, addG G x, A', n, c', by omega, hi61, by go_num, HI.out⟩
                      case measure => simp [intOf]; omega
                    · intro y1 y2 cc kl yd ym wN cnt1 hkey hlk hv hat hrg1 hlt hg1 hs1 hen
                      obtain ⟨y, hyy⟩ : ∃ y : Int × Int, y = (y1, y2) := ⟨_, rfl⟩
                      obtain ⟨e2, he2, hew⟩ := key_inv hkey
                      rw [← hyy] at he2 hkey
                      obtain rfl : y = e2 := vEn_inj he2
                      have hkl : kl = ek y := by rw [ek_eq hew] at hkey; exact (Option.some.inj hkey).symm
                      have hGy : (addG G x) y = true := by
                        by_cases hg : (addG G x) y = true
                        · exact hg
                        · exfalso
                          have h0 := hat (.lit (.int .i64 0))
                          have h1 := hat (.lit (.int .i64 1))
                          rw [hkl, HDAT.out y hew, if_neg hg] at h0 h1
                          rw [← h0] at h1
                          injection h1 with h1
                          injection h1 with _ h1
                          exact absurd h1 (by decide)
                      have HMT := hide (show (arOk (xs.set x.1.toNat (0, x.2 + 1)) && meantB (xs.set x.1.toNat (0, x.2 + 1)) y) = false from by rw [inv_tag HI.out.inv hGy, Bool.and_false])
                      rw [hyy] at HMT
                      have hbN : Below wX.heap.size _ wN := ⟨hg1.os, hg1.tape, hg1.output, hg1.size, fun j hj => hg1.block j (Nat.lt_of_lt_of_le hj HB2.out.size) (fun e => by injection e with e; omega)⟩
                      have HBN := hide (HB2.out.trans hbN)
                      have hba := (Below.refl _ wN).alloc (Nat.le_refl _) (.cells #[.int .i64 y1, .int .u64 y2] 31)
                      have HRG := hide (hrg1.alloc (.cells #[.int .i64 y1, .int .u64 y2] 31))
                      have R25 := hide (RowAt.new wN 31 #[.int .i64 y1, .int .u64 y2])
                      have HLT := hide hlt
                      have HLE := hide hrg2.left_eq
                      replace HBN := hide (HBN.out.trans (hba.mono HBN.out.size))
                      clear hba hbN hg1 hs1 hrg1 hat hv hlk hkey hlt hrg2 he2 hew hkl hGy HB2 hyy
                      go_upto_region 42 with (fail)
                      clear hen
                      generalize wN.alloc (.cells #[.int .i64 y1, .int .u64 y2] 31) = wP at *
                      have HIP := hide (HI.out.bel HBN.out)
                      have HTG := hide (tag_any A' c' n y1 y2 (xs.set x.1.toNat (0, x.2 + 1)) wP HIP.out.rd HIP.out.len (by omega) false HMT.out 0 rfl)
                      have u0 := row20 R25.out
                      have u1 := row21 R25.out
                      have ul := R25.out.lt
                      have q0 := row1 HIP.out.box
                      have ql := HIP.out.box.lt
                      go_wp2_with fail
                      refine HTG.out.mono ?_
                      rintro ew wQ ⟨rfl, hb⟩
                      dsimp only
                      have HRQ := hide (HRG.out.kept (grown_below hb) (by simp) (by simp))
                      have HBQ := hide (HBN.out.trans (hb.mono HBN.out.size))
                      clear hb u0 u1 ul q0 ql HTG HIP R25 HRG
                      go_wp2_with fail
                      go_roundw
                      case rel => exact ⟨_, cnt1, HRQ.out, HBQ.out⟩
                      case measure => rw [HRQ.out.left_eq, HLE.out]; exact HLT.out
                · obtain ⟨hgv1, hgv2⟩ := hgv.2 hmx
                  have hmxb : (x.2 != 1099511627775) = false := by rw [bne_eq_false_iff_eq]; exact hgv2
                  have HRT := hide (GiveK A c n (some ⟨w9.heap.size, 0, none⟩) 1 1 xs [x] (w9.alloc (.cells #[.int .i64 x.1, .int .u64 x.2] 31)) HIA.out.rd HIA.out.len (by omega) (HL1.out.more (by simp)) rfl (by omega) hux 6 [] 0 (by unfold gvE; rw [if_pos HI.out.inv.ok, hgv1]) (by unfold gvA; rw [if_pos HI.out.inv.ok, hgv1]) rfl)
                  clear hgv hgv1 hgv2 hux hmx
                  go_wp2_with fail
                  refine HRT.out.mono ?_
                  rintro ew w10 ⟨A', c', rfl, hc', ho', hb⟩
                  dsimp only
                  have HI2 := hide (HIA.out.bel hb)
                  have R23b := hide ((R23.out.below HBA.out).below hb)
                  have R22b := hide ((R22.out.below HBA.out).below hb)
                  clear hb ho' u0 u1 ul q0 ql HRT HIA HL1 HBA
                  have z0 := row1 R23b.out
                  have zl := R23b.out.lt
                  have zf := R23b.out.frozen 0
                  have HI3 := hide (HI2.out.setO (g := g22 + 1) 0 (.slice A' 0 c') (by have := HG5L.out; omega) (by have := HG5L.out; omega) (by have := HG5L.out; omega) HAG.out (by have := HG5L.out; have := HG5.out; omega))
                  have R22n := hide (R22b.out.setNe (g2 := g22 + 1) (o := 0) (v := .slice A' 0 c') (by omega))
                  go_upto_region 33 with (fail)
                  clear z0 zl zf HI2 R23b R22b HI
                  generalize w10.setCell ⟨g22 + 1, 0, none⟩ (.slice A' 0 c') = w11 at *
                  have u0 := row20 R22n.out
                  have u1 := row21 R22n.out
                  have ul := R22n.out.lt
                  go_wp2_with fail
                  go_roundw
                  case rel => exact ⟨i + 1, xs, T, G, A, n, c, by omega, hi61, by go_num, HI3.out.next⟩
                  case measure => simp [intOf]; omega
            · subst hr1
              have hrk : wrap64 ((IntKind.u64.wrap mk).tmod 4) = 3 := hrk
              go_upto_region 13 with (fail)
              clear hrk
              obtain ⟨ys, hys⟩ : ∃ ys, ents xs 2 = ys := ⟨_, rfl⟩
              obtain ⟨q, hq⟩ : ∃ n, ys.length = n := ⟨_, rfl⟩
              have hq128 : q ≤ 128 := by rw [← hq, ← hys]; have := ents_length xs 2; have := HI.out.len; omega
              have HEN := hide (entries_any A c n 2 xs w7 HI.out.rd HI.out.len (by omega) ys (by rw [if_pos HI.out.inv.ok]; exact hys) q hq)
              have HYS := hide hys
              have HQ := hide hq
              clear hys hq
              go_wp2_with fail
              refine HEN.out.mono ?_
              rintro e w8 ⟨A21, c21, rfl, hc21, hcm21, hr21, hb⟩
              dsimp only
              replace HI := hide (HI.out.bel hb)
              replace R12 := hide (R12.out.below hb)
              have RD21 := hide hr21
              clear hb hr21 q0 ql e0 e1 el HEN
              by_cases hq0 : q = 0
              · have hqz : ((q : Int) == 0) = true := by rw [hq0]; rfl
                clear hq0
                go_wp2_with fail
                go_roundw
                case rel => exact ⟨i + 1, xs, T, G, A, n, c, by omega, hi61, by go_num, HI.out.next⟩
                case measure => simp [intOf]; omega
              · have hqz : ((q : Int) == 0) = false := by rw [beq_eq_false_iff_ne]; omega
                obtain ⟨pp, hpq, htm0⟩ : ∃ pp : Nat, pp < q ∧ (IntKind.u64.wrap mw).tmod (q : Int) = (pp : Int) := many_q mw (by omega)
                have HTM := hide htm0
                clear htm0
                have HP1 := hide (show IntKind.i64.wrap (pp : Int) = (pp : Int) from IntWalk.i64_in _ (by omega))
                have HP2 := hide (show wrap64 (pp : Int) = (pp : Int) from IntWalk.wrap64_in _ (by omega))
                have HP3 := hide (show IntKind.u64.wrap (pp : Int) = (pp : Int) from IntWalk.u64_in _ (by omega))
                have HQ3 := hide (show IntKind.u64.wrap (q : Int) = (q : Int) from IntWalk.u64_in _ (by omega))
                have hqn : ¬ ((q : Int) = 0) := by omega
                have hpI : (pp : Int) < (q : Int) := by omega
                have hpx : pp < ys.length := by rw [HQ.out]; exact hpq
                have hrd := RD21.out
                rw [← HQ.out] at hrd
                obtain ⟨b21, o21, hA21, hbl21, hc⟩ := hrd.elem encE_len hpx
                obtain ⟨x, hx⟩ : ∃ x, ys[pp] = x := ⟨_, rfl⟩
                have hxm : x ∈ ents xs 2 := by rw [HYS.out, ← hx]; exact List.getElem_mem hpx
                have hxw := ents_w HI.out.inv hxm
                have HXM := hide hxm
                have HXW := hide hxw
                rw [hx] at hc
                have d0 := hc 0 _ (by omega) rfl
                have d1 := hc 1 _ (by omega) rfl
                simp only [Nat.add_zero] at d0
                try dsimp only at d1
                subst hA21
                have e0 := row20 R12.out
                have e1 := row21 R12.out
                have el := R12.out.lt
                have hba := (Below.refl _ w8).alloc (Nat.le_refl _) (.cells #[.int .i64 x.1, .int .u64 x.2] 31)
                have hbz := (Below.refl _ (w8.alloc (.cells #[.int .i64 x.1, .int .u64 x.2] 31))).alloc (Nat.le_refl _) (.cells #[.slice none 0 0] 24)
                have R22 := hide ((RowAt.new w8 31 #[.int .i64 x.1, .int .u64 x.2]).below hbz)
                have R23 := hide (show RowAt ((w8.alloc (.cells #[.int .i64 x.1, .int .u64 x.2] 31)).alloc (.cells #[.slice none 0 0] 24)) (w8.heap.size + 1) 24 #[.slice none 0 0] from by have h := RowAt.new (w8.alloc (.cells #[.int .i64 x.1, .int .u64 x.2] 31)) 24 #[.slice none 0 0]; rw [World.size_alloc] at h; exact h)
                have HAG := hide (show OffB A (w8.heap.size + 1) from fun p hp => by
                  obtain ⟨b, off, e3, h1, _⟩ := HI.out.rd.2 (by omega)
                  rw [hp] at e3
                  injection e3 with e3
                  have : p.block = b := by rw [e3]
                  omega)
                have HG5L := hide (show g5 < w8.heap.size ∧ g9 + 1 < w8.heap.size from ⟨HI.out.box.lt, HI.out.taken.lt⟩)
                replace HI := hide (HI.out.bel (hba.trans (hbz.mono hba.size)))
                clear hxw hxm hx hrd hc hba hbz RD21
                obtain ⟨g22, hg22⟩ : ∃ g, w8.heap.size = g := ⟨_, rfl⟩
                rw [hg22] at R22 R23 HG5L HAG
                have hpw1 := HP1.out
                have hpw2 := HP2.out
                have hpw3 := HP3.out
                have hqw3 := HQ3.out
                have htm := HTM.out
                go_upto_region 30 with (fail)
                (try rw [hg22])
                clear hg22 d0 d1 e0 e1 el htm hpw1 hpw2 hpw3 hqw3 hqn hpI hqz
                generalize (w8.alloc (.cells #[.int .i64 x.1, .int .u64 x.2] 31)).alloc (.cells #[.slice none 0 0] 24) = w9 at *
                have u0 := row20 R22.out
                have u1 := row21 R22.out
                have ul := R22.out.lt
                have q0 := row1 HI.out.box
                have ql := HI.out.box.lt
                have hba := (Below.refl _ w9).alloc (Nat.le_refl _) (.cells #[.int .i64 x.1, .int .u64 x.2] 31)
                have HBA := hide hba
                have HIA := hide (HI.out.bel hba)
                have HL1 := hide (Rd.new w9 #[.int .i64 x.1, .int .u64 x.2] 31 2 1 rfl)
                clear hba
                have hgv := inv_giv HI.out.inv (tag := 2) (by decide) HXM.out
                have hux : ∀ e ∈ [x], U64 e.2 := fun e he => by
                  rw [List.mem_singleton] at he
                  subst he
                  exact ⟨HXW.out.2.1, by have := HXW.out.2.2; omega⟩
                by_cases hmx : x.2 < 1099511627775
                · obtain ⟨hgv1, hgv2⟩ := hgv.1 hmx
                  have HINV := hide hgv2
                  have HLEN := hide (show (xs.set x.1.toNat (0, x.2 + 1)).length = n from by rw [List.length_set]; exact HI.out.len)
                  have HRT := hide (GiveK A c n (some ⟨w9.heap.size, 0, none⟩) 1 1 xs [x] (w9.alloc (.cells #[.int .i64 x.1, .int .u64 x.2] 31)) HIA.out.rd HIA.out.len (by omega) (HL1.out.more (by simp)) rfl (by omega) hux 0 (xs.set x.1.toNat (0, x.2 + 1)) n (by unfold gvE; rw [if_pos HI.out.inv.ok, hgv1]) (by unfold gvA; rw [if_pos HI.out.inv.ok, hgv1]) HLEN.out)
                  clear hgv hgv1 hgv2 hux hmx
                  go_wp2_with fail
                  refine HRT.out.mono ?_
                  rintro ew w10 ⟨A', c', rfl, hc', ho', hb⟩
                  dsimp only
                  have HI2 := hide (HIA.out.bel hb)
                  have R23b := hide ((R23.out.below HBA.out).below hb)
                  have R22b := hide ((R22.out.below HBA.out).below hb)
                  have AO := hide ho'
                  have OF5 := hide (ho'.off (by omega) (show g5 < (w9.alloc (.cells #[.int .i64 x.1, .int .u64 x.2] 31)).heap.size from by rw [World.size_alloc]; exact Nat.lt_succ_of_lt HI.out.box.lt))
                  have OF23 := hide (ho'.off (by omega) (show g22 + 1 < (w9.alloc (.cells #[.int .i64 x.1, .int .u64 x.2] 31)).heap.size from by rw [World.size_alloc]; exact Nat.lt_succ_of_lt R23.out.lt))
                  clear hb ho' u0 u1 ul q0 ql HRT HIA HL1 HBA
                  have z0 := row1 R23b.out
                  have zl := R23b.out.lt
                  have zf := R23b.out.frozen 0
                  have HI3 := hide (HI2.out.setO (g := g22 + 1) 0 (.slice A' n c') (by have := HG5L.out; omega) (by have := HG5L.out; omega) (by have := HG5L.out; omega) HAG.out (by have := HG5L.out; have := HG5.out; omega))
                  have R23n := hide (R23b.out.set 0 (.slice A' n c'))
                  have R22n := hide (R22b.out.setNe (g2 := g22 + 1) (o := 0) (v := (.slice A' n c')) (by omega))
                  have RDn := hide (Rd.setS AO.out.rd OF23.out 0 (.slice A' n c'))
                  go_upto_region 36 with (fail)
                  clear z0 zl zf HI2 R23b AO HI
                  have R23n : Hid (RowAt (w10.setCell ⟨g22 + 1, 0, none⟩ (.slice A' n c')) (g22 + 1) 24 #[(.slice A' n c')]) := R23n
                  generalize w10.setCell ⟨g22 + 1, 0, none⟩ (.slice A' n c') = w11 at *
                  have z0 := row1 R23n.out
                  have zl := R23n.out.lt
                  have q0 := row1 HI3.out.box
                  have ql := HI3.out.box.lt
                  have qf := HI3.out.box.frozen 0
                  have R22s := hide (R22n.out.setNe (g2 := g5) (o := 0) (v := (.slice A' n c')) (by have := HG5L.out; omega))
                  obtain ⟨w13, hup, hem, hgr⟩ := (HI3.out.given.setNe (g2 := g5) (o := 0) (v := (.slice A' n c')) (Ne.symm (HI3.out.given.ne_row HI3.out.box))).upd (by unfold maxLen; omega) HXW.out.1
                  have HI := hide (HI3.out.gave RDn.out OF5.out HLEN.out hc' HINV.out HG5.out HGG.out.2 (by omega) hem hgr)
                  have hup : (Instr.mapUpdate 48 (.map (some g9)) (.agg #[.int .i64 x.1, .int .u64 x.2]) (.int .i64 1)).run Try.prog (w11.setCell ⟨g5, 0, none⟩ (.slice A' n c')) = .ok () w13 := hup
                  have u0 := row20 R22s.out
                  have u1 := row21 R22s.out
                  have ul := R22s.out.lt
                  go_upto_region 39 with (fail)
                  clear z0 zl q0 ql qf HI3 RDn R23n hup hem hgr u0 u1 ul R22s R22n R22b
                  obtain ⟨wX, hwX⟩ : ∃ w, w = w13 := ⟨_, rfl⟩
                  subst hwX
                  obtain ⟨D, hown, hDm, hDat⟩ := HI.out.given
                  have HDAT := hide hDat
                  clear hDat
                  go_wp2_with (at_range; refine wpList_range_own _ rfl _ 48 rfl 31 3 keyE Try.underlying48 _ g9 (i + 1) _ rfl hown ?_; intro wR hrg hgr hsR)
                  have HBR := hide (show Below wX.heap.size wX wR from ⟨hgr.os, hgr.tape, hgr.output, hgr.size, fun j hj => hgr.block j hj (by simp)⟩)
                  clear hgr hsR hown
                  go_frame
                  go_loopw [25, 26, 27] (fun _ _ _ wr => ∃ (left : Lit → Bool) (cnt : Nat), wr.ranges Try.prog 31 (plainElem Try.prog 3) g9 wX.heap.size (i + 1) D left cnt ∧ Below wX.heap.size wX wr) (fun _ _ _ wr => wr.rangeLeft g9 wX.heap.size)
                  case atStart => exact ⟨_, _, hrg, HBR.out⟩
                  case round =>
                    obtain ⟨left, cnt, hrg2, hb2⟩ := hrel
                    have HB2 := hide hb2
                    clear hb2 hrg HBR
                    go_wp2_with (at_next; refine wpList_next_ranges _ rfl _ rfl 31 keyE (plainElem Try.prog 3) vEn (Value.int .i64) (fun key kl hkey => by obtain ⟨x, rfl, _⟩ := key_inv hkey; exact ⟨x, rfl⟩) (fun v y hv => by obtain ⟨cc, rfl, _⟩ := plainElem_int_inv Try.underlying3 hv; exact ⟨cc, rfl⟩) g9 wX.heap.size (i + 1) D left cnt rfl hrg2 ?_ ?_)
                    · intro _ _
                      replace HI := hide (HI.out.bel HB2.out)
                      go_wp2_with fail
                      go_roundw
                      case rel => exact ⟨i + 1, xs.set x.1.toNat (0, x.2 + 1), T, addG G x, A', n, c', by omega, hi61, by go_num, HI.out⟩
                      case measure => simp [intOf]; omega
                    · intro y1 y2 cc kl yd ym wN cnt1 hkey hlk hv hat hrg1 hlt hg1 hs1 hen
                      obtain ⟨y, hyy⟩ : ∃ y : Int × Int, y = (y1, y2) := ⟨_, rfl⟩
                      obtain ⟨e2, he2, hew⟩ := key_inv hkey
                      rw [← hyy] at he2 hkey
                      obtain rfl : y = e2 := vEn_inj he2
                      have hkl : kl = ek y := by rw [ek_eq hew] at hkey; exact (Option.some.inj hkey).symm
                      have hGy : (addG G x) y = true := by
                        by_cases hg : (addG G x) y = true
                        · exact hg
                        · exfalso
                          have h0 := hat (.lit (.int .i64 0))
                          have h1 := hat (.lit (.int .i64 1))
                          rw [hkl, HDAT.out y hew, if_neg hg] at h0 h1
                          rw [← h0] at h1
                          injection h1 with h1
                          injection h1 with _ h1
                          exact absurd h1 (by decide)
                      have HMT := hide (show (arOk (xs.set x.1.toNat (0, x.2 + 1)) && meantB (xs.set x.1.toNat (0, x.2 + 1)) y) = false from by rw [inv_tag HI.out.inv hGy, Bool.and_false])
                      rw [hyy] at HMT
                      have hbN : Below wX.heap.size _ wN := ⟨hg1.os, hg1.tape, hg1.output, hg1.size, fun j hj => hg1.block j (Nat.lt_of_lt_of_le hj HB2.out.size) (fun e => by injection e with e; omega)⟩
                      have HBN := hide (HB2.out.trans hbN)
                      have hba := (Below.refl _ wN).alloc (Nat.le_refl _) (.cells #[.int .i64 y1, .int .u64 y2] 31)
                      have HRG := hide (hrg1.alloc (.cells #[.int .i64 y1, .int .u64 y2] 31))
                      have R25 := hide (RowAt.new wN 31 #[.int .i64 y1, .int .u64 y2])
                      have HLT := hide hlt
                      have HLE := hide hrg2.left_eq
                      replace HBN := hide (HBN.out.trans (hba.mono HBN.out.size))
                      clear hba hbN hg1 hs1 hrg1 hat hv hlk hkey hlt hrg2 he2 hew hkl hGy HB2 hyy
                      go_upto_region 42 with (fail)
                      clear hen
                      generalize wN.alloc (.cells #[.int .i64 y1, .int .u64 y2] 31) = wP at *
                      have HIP := hide (HI.out.bel HBN.out)
                      have HTG := hide (tag_any A' c' n y1 y2 (xs.set x.1.toNat (0, x.2 + 1)) wP HIP.out.rd HIP.out.len (by omega) false HMT.out 0 rfl)
                      have u0 := row20 R25.out
                      have u1 := row21 R25.out
                      have ul := R25.out.lt
                      have q0 := row1 HIP.out.box
                      have ql := HIP.out.box.lt
                      go_wp2_with fail
                      refine HTG.out.mono ?_
                      rintro ew wQ ⟨rfl, hb⟩
                      dsimp only
                      have HRQ := hide (HRG.out.kept (grown_below hb) (by simp) (by simp))
                      have HBQ := hide (HBN.out.trans (hb.mono HBN.out.size))
                      clear hb u0 u1 ul q0 ql HTG HIP R25 HRG
                      go_wp2_with fail
                      go_roundw
                      case rel => exact ⟨_, cnt1, HRQ.out, HBQ.out⟩
                      case measure => rw [HRQ.out.left_eq, HLE.out]; exact HLT.out
                · obtain ⟨hgv1, hgv2⟩ := hgv.2 hmx
                  have hmxb : (x.2 != 1099511627775) = false := by rw [bne_eq_false_iff_eq]; exact hgv2
                  have HRT := hide (GiveK A c n (some ⟨w9.heap.size, 0, none⟩) 1 1 xs [x] (w9.alloc (.cells #[.int .i64 x.1, .int .u64 x.2] 31)) HIA.out.rd HIA.out.len (by omega) (HL1.out.more (by simp)) rfl (by omega) hux 6 [] 0 (by unfold gvE; rw [if_pos HI.out.inv.ok, hgv1]) (by unfold gvA; rw [if_pos HI.out.inv.ok, hgv1]) rfl)
                  clear hgv hgv1 hgv2 hux hmx
                  go_wp2_with fail
                  refine HRT.out.mono ?_
                  rintro ew w10 ⟨A', c', rfl, hc', ho', hb⟩
                  dsimp only
                  have HI2 := hide (HIA.out.bel hb)
                  have R23b := hide ((R23.out.below HBA.out).below hb)
                  have R22b := hide ((R22.out.below HBA.out).below hb)
                  clear hb ho' u0 u1 ul q0 ql HRT HIA HL1 HBA
                  have z0 := row1 R23b.out
                  have zl := R23b.out.lt
                  have zf := R23b.out.frozen 0
                  have HI3 := hide (HI2.out.setO (g := g22 + 1) 0 (.slice A' 0 c') (by have := HG5L.out; omega) (by have := HG5L.out; omega) (by have := HG5L.out; omega) HAG.out (by have := HG5L.out; have := HG5.out; omega))
                  have R22n := hide (R22b.out.setNe (g2 := g22 + 1) (o := 0) (v := .slice A' 0 c') (by omega))
                  go_upto_region 33 with (fail)
                  clear z0 zl zf HI2 R23b R22b HI
                  generalize w10.setCell ⟨g22 + 1, 0, none⟩ (.slice A' 0 c') = w11 at *
                  have u0 := row20 R22n.out
                  have u1 := row21 R22n.out
                  have ul := R22n.out.lt
                  go_wp2_with fail
                  go_roundw
                  case rel => exact ⟨i + 1, xs, T, G, A, n, c, by omega, hi61, by go_num, HI3.out.next⟩
                  case measure => simp [intOf]; omega
      · obtain rfl : i = nM := by omega
        go_upto_region 46 with (fail)
        obtain ⟨w7, hw7⟩ : ∃ w, w = wr := ⟨_, rfl⟩
        subst hw7
        have q0 := row1 HI.out.box
        have ql := HI.out.box.lt
        obtain ⟨hl128, hl2⟩ := ents_bound HI.out.inv
        rw [HI.out.len] at hl128 hl2
        obtain ⟨c0', hc0⟩ : ∃ z, cn xs 0 = z := ⟨_, rfl⟩
        obtain ⟨c1', hc1⟩ : ∃ z, cn xs 1 = z := ⟨_, rfl⟩
        obtain ⟨c2', hc2⟩ : ∃ z, cn xs 2 = z := ⟨_, rfl⟩
        have hsum := counts_sum HI.out.inv.ok
        rw [hc0, hc1, hc2, HI.out.len] at hsum
        have b0 := cn_bounds2 xs 0
        have b1 := cn_bounds2 xs 1
        have b2 := cn_bounds2 xs 2
        rw [hc0, HI.out.len] at b0
        rw [hc1, HI.out.len] at b1
        rw [hc2, HI.out.len] at b2
        obtain ⟨b00, b01⟩ := b0
        obtain ⟨b10, b11⟩ := b1
        obtain ⟨b20, b21⟩ := b2
        have HCN := hide (counts_any A c n xs w7 HI.out.rd HI.out.len (by omega) c0' c1' c2' hc0 hc1 hc2)
        clear hc0 hc1 hc2
        go_wp2_with fail
        refine HCN.out.mono ?_
        rintro e w8 ⟨rfl, hb⟩
        dsimp only
        replace HI := hide (HI.out.bel hb)
        clear hb q0 ql HCN
        have q0 := row1 HI.out.box
        have ql := HI.out.box.lt
        have HCK := hide (check_any w8.heap.size A c n xs w8 HI.out.rd HI.out.len (Nat.le_refl _) 0 (chk_ok HI.out.inv.ok) (by omega))
        have hs2 : ((c0' + c1' + c2') == (n : Int)) = true := by rw [hsum]; simp
        have hw1 : IntKind.i64.wrap (c0' + c1') = c0' + c1' := IntWalk.i64_in _ (by omega)
        have hw2 : IntKind.i64.wrap (c0' + c1' + c2') = c0' + c1' + c2' := IntWalk.i64_in _ (by omega)
        go_wp2_with fail
        refine HCK.out.mono ?_
        rintro e w9 ⟨rfl, hb⟩
        dsimp only
        replace HI := hide (HI.out.bel hb)
        clear hb q0 ql HCK
        have q0 := row1 HI.out.box
        have ql := HI.out.box.lt
        go_wp2_with fail
        go_ret
        exact ⟨ret_bool (by simp [hsum]), HI.out.below⟩
end Go.Proofs.Ytejhknboiacgeaa
