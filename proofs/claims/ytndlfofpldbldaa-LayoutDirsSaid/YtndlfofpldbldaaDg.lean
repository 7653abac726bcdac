/-
  honeycombref16.ReadDir.
-/
import Derived.Test.YtndlfofpldbldaaDf
set_option linter.unusedSimpArgs false
set_option linter.unusedVariables false
namespace Go.Proofs.Ytndlfofpldbldaa
open Go Go.RowKit

/-- What ReadDir comes to. -/
def RDirRes (W : World) (xs : List Int) (e : Ending) (W' : World) : Prop :=
  Below W.heap.size W W' ∧ ∃ (d : Int) (A : Option Addr) (n c : Nat), e = .returned (.tuple #[.agg #[.int .i64 d, .slice A n c], .bool (okD xs)]) ∧ (okD xs = true → d = depQ xs ∧ n = 2 ^ depQ xs ∧ Rd W' W'.heap.size 2 A n (Cs encE ((entsOf xs).map unp)))

theorem RReadDir_len (A : Option Addr) (n c : Nat) (xs : List Int) (W : World) (hn : n ≠ 40) (hl : xs.length = n) : Calls Try.prog 36 #[.slice A n c] W (RDirRes W xs) := by
  have ht : ((n : Int) != 40) = true := by rw [bne_iff_ne]; omega
  have ho : okD xs = false := by unfold okD; rw [decide_eq_false (fun h => hn (by omega))]; rfl
  have HO := hide ho
  clear ho
  go_enter Try.func36, Try.ntmps36
  go_wp2
  refine bodyPost_ret (v := .tuple #[.agg #[.int .i64 0, .slice none 0 0], .bool false]) (by simp [results, Try.results36, go_sem]) rfl ⟨?_, 0, none, 0, 0, by rw [HO.out], fun h => by rw [HO.out] at h; cases h⟩
  go_grown

theorem RReadDir_num (b off c : Nat) (x0 : Int) (xs : List Int) (W : World) (hl : xs.length = 40) (h0 : W.cell? ⟨b, off, none⟩ = some (.int .u64 x0)) (hb : b < W.heap.size) (hx0 : xs.getD 0 0 = x0) (hx : 5 < x0) : Calls Try.prog 36 #[.slice (some ⟨b, off, none⟩) 40 c] W (RDirRes W xs) := by
  have ho : okD xs = false := by unfold okD; rw [decide_eq_false (fun h => by omega)]; rfl
  have HO := hide ho
  clear ho hx0
  go_enter Try.func36, Try.ntmps36
  go_wp2
  refine bodyPost_ret (v := .tuple #[.agg #[.int .i64 0, .slice none 0 0], .bool false]) (by simp [results, Try.results36, go_sem]) rfl ⟨?_, 0, none, 0, 0, by rw [HO.out], fun h => by rw [HO.out] at h; cases h⟩
  go_grown

set_option maxHeartbeats 2000000 in
theorem RReadDir_go (B b off c : Nat) (xs : List Int) (q : Nat) (W : World) (hl : xs.length = 40) (hr : Rd W B 1 (some ⟨b, off, none⟩) 40 (Cs encW xs)) (hB : B ≤ W.heap.size) (hu : ∀ x ∈ xs, U64 x) (hq : xs.getD 0 0 = (q : Int)) (hq5 : q ≤ 5) :
    Calls Try.prog 36 #[.slice (some ⟨b, off, none⟩) 40 c] W (RDirRes W xs) := by
  obtain ⟨b', off', he, hb, hcell⟩ := hr.2 (by omega)
  injection he with he
  injection he with e1 e2
  subst e1 e2
  have hdq : depQ xs = q := by unfold depQ; rw [hq]; rfl
  obtain ⟨m, hm⟩ : ∃ m : Nat, m = 2 ^ q := ⟨_, rfl⟩
  have hm1 : 1 ≤ m := by rw [hm]; exact Nat.one_le_two_pow
  have hm2 : m ≤ 32 := by rw [hm]; exact Nat.pow_le_pow_right (by omega) hq5
  obtain ⟨ws, hws⟩ : ∃ ws, entsOf xs = ws := ⟨_, rfl⟩
  have hwl : ws.length = m := by rw [← hws]; unfold entsOf; rw [hdq, ← hm]; simp; omega
  have hwx : ∀ k (h : k < ws.length), W.cell? ⟨b, off + (1 + k), none⟩ = some (.int .u64 ws[k]) := by
    intro k hk
    have h1 : ws[k]? = xs[1 + k]? := by
      rw [← hws]; unfold entsOf
      rw [List.getElem?_take, if_pos (by rw [hdq, ← hm]; omega), List.getElem?_drop]
    rw [List.getElem?_eq_getElem hk, List.getElem?_eq_getElem (by omega)] at h1
    injection h1 with h1
    rw [h1]
    exact hcell (1 + k) _ (by rw [Cs_mapW]; simp)
  have hwu : ∀ x ∈ ws, U64 x := fun x hx => hu x (by rw [← hws] at hx; exact List.mem_of_mem_drop (List.mem_of_mem_take hx))
  have h0 : W.cell? ⟨b, off, none⟩ = some (.int .u64 (q : Int)) := by
    have h := hcell 0 (.int .u64 (q : Int)) (by rw [Cs_mapW, ← hq, getD_at xs 0 (by omega)]; simp)
    simpa using h
  have hbW : b < W.heap.size := by omega
  have hle : (q : Int) ≤ 5 := by omega
  have HPW := hide (fun w => power_any w q (by omega))
  rw [← hm] at HPW
  have hRD := hide (show Rd W W.heap.size 1 (some ⟨b, off, none⟩) 40 (Cs encW xs) from hr.more hB)
  have hok : okD xs = (ws.all okW && decide (xs = dirInts q (ws.map unp))) := by
    rw [Bool.eq_iff_iff, Bool.and_eq_true, decide_eq_true_iff]
    constructor
    · intro h
      obtain ⟨_, _, _, _, t5, _⟩ := read_dir xs h hu
      refine ⟨?_, ?_⟩
      · unfold okD at h
        rw [Bool.and_eq_true, Bool.and_eq_true] at h
        rw [← hws]; exact h.1.2
      · rw [← hdq, ← hws]; exact t5.symm
    · rintro ⟨ha, hx⟩
      have he : entsOk (ws.map unp) = true := by
        unfold entsOk
        rw [List.all_eq_true]
        intro e hm'
        obtain ⟨w, hw, rfl⟩ := List.mem_map.1 hm'
        exact (unp_pack w (List.all_eq_true.1 ha w hw) (hwu w hw)).2.1
      have hs : dirShape (q : Int) (ws.map unp).length = true := by
        rw [List.length_map, hwl, hm]; unfold dirShape; simp; omega
      have := (dir_back (q : Int) (ws.map unp) hs he (fun e hm' => by
        obtain ⟨w, hw, rfl⟩ := List.mem_map.1 hm'
        exact (unp_pack w (List.all_eq_true.1 ha w hw) (hwu w hw)).2.2)).1
      rw [← hx] at this; exact this
  have HOK := hide hok
  have HWX := hide hwx
  have HWU := hide hwu
  have HDQ := hide hdq
  have HWS := hide hws
  have HM := hide hm
  clear hr hcell hu hq hok hwx hwu hdq hws hm
  go_enter Try.func36, Try.ntmps36
  go_wp2_with (go_at_call 37; refine (HPW.out _).mono ?_; rintro e w1 ⟨rfl, rfl⟩)
  have hb0 : Below W.heap.size W ((W.alloc (.cells #[.int .i64 0, .slice none 0 0] 49)).alloc (.cells #[.int .i64 q, .slice none 0 0] 49)) := ((Below.refl _ _).alloc (Nat.le_refl _) _).alloc (by simp) _
  have hr1 : RowAt ((W.alloc (.cells #[.int .i64 0, .slice none 0 0] 49)).alloc (.cells #[.int .i64 q, .slice none 0 0] 49)) W.heap.size 49 #[.int .i64 0, .slice none 0 0] := (RowAt.new W 49 _).below ((Below.refl _ _).alloc (Nat.le_refl _) _)
  have hr2 : RowAt ((W.alloc (.cells #[.int .i64 0, .slice none 0 0] 49)).alloc (.cells #[.int .i64 q, .slice none 0 0] 49)) (W.heap.size + 1) 49 #[.int .i64 q, .slice none 0 0] := by
    have h := RowAt.new (W.alloc (.cells #[.int .i64 0, .slice none 0 0] 49)) 49 #[.int .i64 q, .slice none 0 0]
    rw [World.size_alloc] at h; exact h
  have hs0 : ((W.alloc (.cells #[.int .i64 0, .slice none 0 0] 49)).alloc (.cells #[.int .i64 q, .slice none 0 0] 49)).heap.size = W.heap.size + 1 + 1 := by simp
  generalize ((W.alloc (.cells #[.int .i64 0, .slice none 0 0] 49)).alloc (.cells #[.int .i64 q, .slice none 0 0] 49)) = w0 at *
  have H0 := hide hb0
  have H1 := hide hr1
  have H2 := hide hr2
  clear hb0 hr1 hr2
  go_loopw [27] (fun i wr => ∃ k : Nat, k ≤ m ∧ i = .int .i64 k ∧ (ws.take k).all okW = true ∧ RowAt wr W.heap.size 49 #[.int .i64 0, .slice none 0 0] ∧ (∃ v, RowAt wr (W.heap.size + 1) 49 #[.int .i64 q, v] ∧ wr.ownsRow (W.heap.size + 1 + 1) 36 2 v k (Cs encE ((ws.take k).map unp))) ∧ Below W.heap.size W wr) (fun i _ => m - (intOf i).toNat)
  case atStart => exact ⟨0, Nat.zero_le _, rfl, rfl, H1.out, ⟨_, H2.out, World.ownsRow_nil _ _ _ _⟩, H0.out⟩
  case round =>
    obtain ⟨k, hk, rfl, hall, hrz, ⟨v, hrd, hown⟩, hbw⟩ := hrel
    have HA := hide hall
    have HZ := hide hrz
    have HD := hide hrd
    have HO := hide hown
    have HB := hide hbw
    have hsz : W.heap.size + 1 < wr.heap.size := hrd.lt
    clear hall hrz hown hbw hrd
    by_cases hlt : k < m
    · have hd : wr.cell? ⟨b, off + (1 + k), none⟩ = some (.int .u64 (ws[k]'(by omega))) := (HB.out.cell (by show b < _; omega)).trans (HWX.out k (by omega))
      have hux := hide (HWU.out (ws[k]'(by omega)) (List.getElem_mem _))
      have HT := hide (show ws.take (k + 1) = ws.take k ++ [ws[k]'(by omega)] from List.take_succ_eq_append_getElem (by omega))
      have HMem := hide (show ws[k]'(by omega) ∈ ws from List.getElem_mem _)
      generalize ws[k]'(by omega) = x at *
      obtain ⟨r, hr⟩ : ∃ r, okW x = r := ⟨_, rfl⟩
      have HR := hide hr
      clear hr
      have i1 : IntKind.i64.wrap (1 + (k : Int)) = 1 + k := IntWalk.i64_in _ (by omega)
      have i2 : (1 + (k : Int)).toNat = 1 + k := by omega
      have i3 : 1 + (k : Int) < 40 := by omega
      have i4 : (0 : Int) ≤ 1 + (k : Int) := by omega
      have HUN := hide (RUnpack_any wr x r hux.out.1 hux.out.2 HR.out)
      have d0 := HD.out.cell 0
      have d1 := HD.out.cell 1
      have z0 := HZ.out.cell 0
      have z1 := HZ.out.cell 1
      simp only [List.getElem?_toArray, List.getElem?_cons_succ, List.getElem?_cons_zero] at d0 d1 z0 z1
      cases r
      · go_wp2_with fail
        refine HUN.out.mono ?_
        rintro e w1 ⟨rfl, hb1⟩
        have y0 := kept hb1 z0
        have y1 := kept hb1 z1
        have g0 := (HZ.out.below hb1).frozen 0
        have g1 := (HZ.out.below hb1).frozen 1
        have hs1 := hb1.size
        have hsw1 : W.heap.size < w1.heap.size := by omega
        have HBX := hide (HB.out.trans (hb1.mono HB.out.size))
        have HOF : Hid (okD xs = false) := hide (by
          rw [HOK.out, Bool.and_eq_false_iff]
          left
          rw [Bool.eq_false_iff]; intro h
          have := List.all_eq_true.1 h x HMem.out
          rw [HR.out] at this; cases this)
        clear hb1 z0 z1 d0 d1
        go_wp2_with fail
        refine bodyPost_ret (v := .tuple #[.agg #[.int .i64 0, .slice none 0 0], .bool false]) (by simp [results, Try.results36, go_sem, y0, y1, hsw1]) rfl ⟨?_, 0, none, 0, 0, by rw [HOF.out], fun h => by rw [HOF.out] at h; cases h⟩
        exact (((HBX.out.setCell (p := ⟨W.heap.size, 0, none⟩) (Nat.le_refl _) _).setCell (p := ⟨W.heap.size, 1, none⟩) (Nat.le_refl _) _).alloc (by simp; omega) _)
      · go_wp2_with fail
        refine HUN.out.mono ?_
        rintro e w1 ⟨rfl, hb1⟩
        have HR1 := hide (HD.out.below hb1)
        have HZ1 := hide (HZ.out.below hb1)
        have hown1 := own_keepB HO.out hb1
        have HB1 := hide (HB.out.trans (hb1.mono HB.out.size))
        have q1 := kept hb1 d1
        have hs1 := hb1.size
        have hsw2 : W.heap.size + 1 < w1.heap.size := by omega
        have hform : ∃ A c, v = .slice A k c := by obtain ⟨A, c, h, _⟩ := own_form HO.out; exact ⟨A, c, h⟩
        obtain ⟨A6, c6, rfl⟩ := hform
        have hrn := Rd.new (w1.alloc (.cells #[.int .i64 (x % 65536 - 1), .int .u64 (x / 65536)] 36)) #[.int .i64 (x % 65536 - 1), .int .u64 (x / 65536)] 36 2 1 rfl
        rw [World.size_alloc] at hrn
        have HRN := hide hrn
        clear hrn
        clear hb1 z0 z1 d0 d1
        go_wp2_with (at_builtin; refine wpList_app elE rfl _ _ rfl rfl ((hown1.alloc _).alloc _) rfl HRN.out (by simp [Value.oneCell']) (by omega) (by simp; omega) ?_; intro v2 w2 hown2 hb3 _ _; obtain ⟨g2, cap2, rfl, hg2, hgl2⟩ := hown2.form (by omega); have hb4 : Below (W.heap.size + 1 + 1) w1 w2 := (((Below.refl _ w1).alloc (by omega) _).alloc (by simp; omega) _).trans hb3; have hr4 : RowAt w2 (W.heap.size + 1) 49 #[.int .i64 q, .slice A6 k c6] := (hb4.block _ (by omega)).trans HR1.out; have hz4 : RowAt w2 W.heap.size 49 #[.int .i64 0, .slice none 0 0] := (hb4.block _ (by omega)).trans HZ1.out; have HR4 := hide hr4; have HZ4 := hide hz4; have HB4 := hide hb4; have m1 := hr4.cell 1; have n1 := hr4.frozen 1; simp only [List.getElem?_toArray, List.getElem?_cons_succ, List.getElem?_cons_zero] at m1; clear hr4 hz4 hb4)
        go_roundw
        case rel =>
          refine ⟨k + 1, by omega, by go_num, by rw [HT.out, List.all_append, HA.out]; simp [HR.out], ?_, ⟨_, HR4.out.set 1 _, ?_⟩, ?_⟩
          · exact (heap_setCell_ne _ _ _ _ (by simp)).trans HZ4.out
          · rw [HT.out, List.map_append, Cs_append]
            exact own_other hown2 (fun g hg => heap_setCell_ne _ _ _ _ (by show g ≠ W.heap.size + 1; omega))
          · exact (HB1.out.trans (HB4.out.mono (by omega))).setCell (p := ⟨W.heap.size + 1, 1, none⟩) (by simp) _
        case measure => simp [intOf]; omega
    · obtain rfl : k = m := by omega
      rw [List.take_of_length_le (by omega)] at HA HO
      obtain ⟨A5, c5, rfl, hc5⟩ := own_form HO.out
      have d0 := HD.out.cell 0
      have d1 := HD.out.cell 1
      have z0 := HZ.out.cell 0
      have z1 := HZ.out.cell 1
      have zf0 := HZ.out.frozen 0
      have zf1 := HZ.out.frozen 1
      simp only [List.getElem?_toArray, List.getElem?_cons_succ, List.getElem?_cons_zero] at d0 d1 z0 z1
      have hen : (ws.map unp).length = k := by rw [List.length_map, hwl]
      have heok : entsOk (ws.map unp) = true := by
        unfold entsOk
        rw [List.all_eq_true]
        intro e hm'
        obtain ⟨w, hw, rfl⟩ := List.mem_map.1 hm'
        exact (unp_pack w (List.all_eq_true.1 HA.out w hw) (HWU.out w hw)).2.1
      have heu : ∀ e ∈ ws.map unp, U64 e.2 := by
        intro e hm'
        obtain ⟨w, hw, rfl⟩ := List.mem_map.1 hm'
        exact (unp_pack w (List.all_eq_true.1 HA.out w hw) (HWU.out w hw)).2.2
      have hdl : (dirInts (q : Int) (ws.map unp)).length = 40 := by simp [dirInts]; omega
      have hrdE := Rd.of_own HO.out
      have HDW : Hid (Calls Try.prog 32 #[.agg #[.int .i64 q, .slice A5 k c5]] wr.drew fun e W' => ∃ g cap, e = .returned (.slice (some ⟨g, 0, none⟩) 40 cap) ∧ Rd W' W'.heap.size 1 (some ⟨g, 0, none⟩) 40 (Cs encW (dirInts q (ws.map unp))) ∧ Below wr.heap.size wr W') := hide (by
        have h := RDirWords_any wr.heap.size A5 c5 q (ws.map unp) wr.drew (by rw [hen]; exact hrdE) (Nat.le_refl _) heu (by omega) hle (by omega) heok
        rw [hen] at h
        exact h.mono fun e W' ⟨g, cap, h1, h2, h3⟩ => ⟨g, cap, h1, h2, (Below.refl _ wr).drew.trans h3⟩)
      have HOKD : Hid (okD xs = decide (xs = dirInts q (ws.map unp))) := hide (by rw [HOK.out, HA.out, Bool.true_and])
      obtain ⟨r, hr⟩ : ∃ r, decide (xs = dirInts q (ws.map unp)) = r := ⟨_, rfl⟩
      have HR := hide hr
      have HRE := hide hrdE
      have hbwr : b < wr.heap.size := by omega
      have hsz0 : W.heap.size < wr.heap.size := by omega
      clear heok heu hr hrdE
      go_wp2_with fail
      go_region_held3 (fun wX => wX.cell? ⟨W.heap.size + 1, 0, none⟩ = some (.int .i64 q) ∧ wX.cell? ⟨W.heap.size + 1, 1, none⟩ = some (.slice A5 k c5)) (first | go_keep | exact ⟨kept hb3 d0, kept hb3 d1⟩ | exact ⟨kept hb4 (kept hb3 d0), kept hb4 (kept hb3 d1)⟩) (first
        | (go_at_call 32; with_reducible refine HDW.out.mono ?_; rintro e w3 ⟨g3, cap3, rfl, hrd3, hb3⟩)
        | (go_at_call 49; refine (Same40 wr.heap.size w3.heap.size (some ⟨b, off, none⟩) (some ⟨g3, 0, none⟩) c cap3 xs (dirInts q (ws.map unp)) w3 hl hdl (((hRD.out.below HB.out).more HB.out.size).below hb3) hrd3 hb3.size (Nat.le_refl _) r HR.out).mono ?_; rintro e w4 ⟨rfl, hb4⟩; have y0 := kept hb4 (kept hb3 z0); have y1 := kept hb4 (kept hb3 z1); have yf0 := keptF hb4 (by have := hb3.size; omega) (keptF hb3 hsz0 zf0); have yf1 := keptF hb4 (by have := hb3.size; omega) (keptF hb3 hsz0 zf1)))
      go_wp2
      have hB4 : Below wr.heap.size wr w4 := hb3.trans (hb4.mono hb3.size)
      refine bodyPost_ret (v := .tuple #[.agg #[.int .i64 q, .slice A5 k c5], .bool r]) (by simp [results, Try.results36, go_sem, y0, y1]) rfl ⟨?_, (q : Int), A5, k, c5, by rw [HOKD.out, HR.out], fun _ => ⟨by rw [HDQ.out], by rw [HDQ.out, HM.out], ?_⟩⟩
      · exact (((HB.out.trans (hB4.mono HB.out.size)).setCell (p := ⟨W.heap.size, 0, none⟩) (Nat.le_refl _) _).setCell (p := ⟨W.heap.size, 1, none⟩) (Nat.le_refl _) _)
      · rw [HWS.out]
        have h := own_keepB HO.out hB4
        have h2 := own_other (w' := (w4.setCell ⟨W.heap.size, 0, none⟩ (.int .i64 q)).setCell ⟨W.heap.size, 1, none⟩ (.slice A5 k c5)) h (fun g hg => by
          rw [heap_setCell_ne _ _ _ _ (by show g ≠ W.heap.size; omega), heap_setCell_ne _ _ _ _ (by show g ≠ W.heap.size; omega)])
        exact Rd.of_own h2

theorem RReadDir_any (B : Nat) (A : Option Addr) (n c : Nat) (xs : List Int) (W : World) (hr : Rd W B 1 A n (Cs encW xs)) (hl : xs.length = n) (hB : B ≤ W.heap.size) (hu : ∀ x ∈ xs, U64 x) :
    Calls Try.prog 36 #[.slice A n c] W (RDirRes W xs) := by
  by_cases hn : n = 40
  · subst hn
    obtain ⟨b, off, rfl, hb, hcell⟩ := hr.2 (by omega)
    have u0 := hu _ (List.getElem_mem (show 0 < xs.length by omega))
    rw [← getD_at xs 0 (by omega)] at u0
    by_cases h5 : xs.getD 0 0 ≤ 5
    · exact RReadDir_go B b off c xs (depQ xs) W hl hr hB hu (by have := u0.1; unfold depQ; omega) (by have := u0.1; unfold depQ; omega)
    · have h0 : W.cell? ⟨b, off, none⟩ = some (.int .u64 (xs.getD 0 0)) := by
        have h := hcell 0 (.int .u64 (xs.getD 0 0)) (by rw [Cs_mapW, getD_at xs 0 (by omega)]; simp)
        simpa using h
      exact RReadDir_num b off c _ xs W hl h0 (by omega) rfl (by omega)
  · exact RReadDir_len A n c xs W hn hl
end Go.Proofs.Ytndlfofpldbldaa
