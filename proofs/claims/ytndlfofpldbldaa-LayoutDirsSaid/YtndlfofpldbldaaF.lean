/-
  Contracts of the directory's words: DirWords, At, Has.
-/
import Derived.Test.YtndlfofpldbldaaD
import Derived.Test.YtndlfofpldbldaaE
namespace Go.Proofs.Ytndlfofpldbldaa
open Go Go.RowKit
attribute [local go_sem] via_cell via_frozen
set_option linter.unusedSimpArgs false
set_option linter.unusedVariables false

def packW (e : Int × Int) : Int := e.1 + 1 + 65536 * e.2
def entsOk (es : List (Int × Int)) : Bool := es.all fun e => okEnt e.1 e.2
def dirWords (dep : Int) (es : List (Int × Int)) : List Value := [.int .u64 dep] ++ Cs encW (es.map packW) ++ List.replicate (40 - (1 + es.length)) (.int .u64 0)

/-- What DirWords comes to, where the depth and the number of entries fit. -/
def DirPost (W : World) (dep : Int) (es : List (Int × Int)) (e : Ending) (W' : World) : Prop :=
  (entsOk es = true ∧ ∃ v, e = .returned (.tuple #[v, .int .i64 0]) ∧ W'.ownsRow W.heap.size 34 1 v 40 (dirWords dep es) ∧ Below W.heap.size W W') ∨
  (entsOk es = false ∧ e = .returned (.tuple #[.slice none 0 0, .int .i64 261]) ∧ Below W.heap.size W W')

theorem entsOk_take (es : List (Int × Int)) (k : Nat) (h : k < es.length) : entsOk (es.take (k + 1)) = (entsOk (es.take k) && okEnt es[k].1 es[k].2) := by
  rw [List.take_succ_eq_append_getElem h]
  simp only [entsOk, List.all_append, List.all_cons, List.all_nil, Bool.and_true]
theorem entsOk_no (es : List (Int × Int)) (k : Nat) (h : k < es.length) (hn : okEnt es[k].1 es[k].2 = false) : entsOk es = false := by
  rw [entsOk, List.all_eq_false]
  exact ⟨es[k], List.getElem_mem h, by simp [hn]⟩
theorem packs_succ (es : List (Int × Int)) (k : Nat) (h : k < es.length) : Cs encW ((es.take (k + 1)).map packW) = Cs encW ((es.take k).map packW) ++ [.int .u64 (packW es[k])] := by
  rw [List.take_succ_eq_append_getElem h]
  simp only [List.map_append, List.map_cons, List.map_nil, Cs_append, Cs_one, encW]

set_option maxHeartbeats 1000000 in
theorem DirWords_any (B : Nat) (A : Option Addr) (c : Nat) (dep : Int) (es : List (Int × Int)) (W : World) (h : Rd W B 2 A es.length (Cs encE es)) (hB : B ≤ W.heap.size) (hu : ∀ e ∈ es, U64 e.2)
    (hd0 : 0 ≤ dep) (hd1 : dep ≤ 5) (hn : (es.length : Int) = 2 ^ dep.toNat) (hl : es.length ≤ 32) :
    Calls Try.prog 31 #[.agg #[.int .i64 dep, .slice A es.length c]] W (DirPost W dep es) := by
  have HU := hide hu
  clear hu
  have hw : IntKind.i64.wrap (2 ^ dep.toNat) = 2 ^ dep.toNat := IntWalk.i64_in _ (by rw [← hn]; omega)
  have ht : ((es.length : Int) != 2 ^ dep.toNat) = false := by rw [bne_eq_false_iff_eq]; exact hn
  clear hn
  go_enter Try.func31, Try.ntmps31
  go_wp2_with fail
  go_quiet (fail)
  go_wp2_with fail
  have hbox := World.ownsRow_lit (base := W.heap.size) (e := 34) (size := 1) ((W.alloc (.cells #[.int .i64 dep, .slice A es.length c] 49)).drewN nq) #[.int .u64 dep] 1 (by simp) (by simp [maxLen]) rfl
  go_loopw [4, 33] (fun v i wr => ∃ k : Nat, k ≤ es.length ∧ i = .int .i64 k ∧ entsOk (es.take k) = true ∧ wr.ownsRow W.heap.size 34 1 v (1 + k) ([.int .u64 dep] ++ Cs encW ((es.take k).map packW)) ∧ Below W.heap.size W wr) (fun _ i _ => es.length - (intOf i).toNat)
  case atStart => exact ⟨0, Nat.zero_le _, rfl, rfl, by simpa [Cs] using hbox, (below_drewN ((Below.refl _ _).alloc (Nat.le_refl _) _) nq).alloc (by simp) _⟩
  case round =>
    obtain ⟨k, hk, rfl, hall, hown, hbw⟩ := hrel
    have HA := hide hall
    clear hall
    by_cases hlt : k < es.length
    · obtain ⟨b, off, rfl, hb, hc⟩ := (h.below (hbw.mono hB)).elem encE_len hlt
      have hd0 := hc 0 _ (by omega) rfl
      have hd1 := hc 1 _ (by omega) rfl
      simp only [Nat.add_zero] at hd0
      clear hc
      have hux := hide (HU.out es[k] (List.getElem_mem hlt))
      have HS := hide (packs_succ es k hlt)
      have HT := hide (entsOk_take es k hlt)
      have HN := hide (entsOk_no es k hlt)
      have hbs : b < wr.heap.size := by have := hbw.size; omega
      generalize hx : es[k] = x at *
      clear hx
      obtain ⟨bb, hbb⟩ : ∃ bb, okEnt x.1 x.2 = bb := ⟨_, rfl⟩
      have HO := hide hbb
      clear hbb
      cases bb
      · go_wp2_with fail
        refine (Pack_no _ _ _ hux.out.1 hux.out.2 (okEnt_no HO.out)).mono ?_
        rintro e w1 ⟨rfl, hb1⟩
        go_wp2_with fail
        go_ret2
        exact .inr ⟨HN.out HO.out, rfl, (hbw.alloc hbw.size _).trans (hb1.mono (by have := hbw.size; simp; omega))⟩
      · obtain ⟨ho1, ho2, ho3⟩ := okEnt_out HO.out
        go_wp2_with fail
        refine (Pack_ok _ _ _ ho1 ho2 hux.out.1 ho3).mono ?_
        rintro e w1 ⟨rfl, hb1⟩
        have hb2 : Below W.heap.size W w1 := (hbw.alloc hbw.size _).trans (hb1.mono (by have := hbw.size; simp; omega))
        have hown1 := own_keepB (hown.alloc (.cells #[.int .i64 x.1, .int .u64 x.2] 36)) hb1
        go_wp2_with (at_builtin; refine wpList_app elW rfl _ _ rfl rfl (hown1.alloc _) rfl (Rd.new w1 #[.int .u64 (x.1 + 1 + 65536 * x.2)] 34 1 1 rfl) (by simp [Value.oneCell']) (by omega) (by have := hb2.size; simp; omega) ?_; intro v2 w2 hown2 hb3 _ _)
        go_roundw
        case rel => exact ⟨k + 1, by omega, by go_num, by rw [HT.out, HA.out, HO.out]; rfl, by rw [HS.out, ← List.append_assoc]; exact hown2, (hb2.alloc hb2.size _).trans hb3⟩
        case measure => simp [intOf]; omega
    · obtain rfl : k = es.length := by omega
      rw [List.take_length] at hown HA
      have HZ := hide (show es.length = es.length from rfl)
      have hform : ∃ A c, u4 = .slice A (1 + es.length) c := by
        obtain ⟨g, cap, hv, _⟩ := hown.form (by omega)
        exact ⟨_, _, hv⟩
      obtain ⟨A', c', hv⟩ := hform
      subst hv
      have hp := hide (padded_any A' (1 + es.length) c' _ wr W.heap.size hown (by omega) hbw.size)
      go_wp2_with fail
      refine hp.out.mono ?_
      rintro e w1 ⟨v1, rfl, ho1, hb1⟩
      go_wp2_with fail
      go_ret2
      exact .inl ⟨HA.out, v1, rfl, ho1, hbw.trans hb1⟩

/-- The shape of a directory: its depth, and as many entries as there are prefixes. -/
def dirShape (dep : Int) (n : Nat) : Bool := decide ((0 ≤ dep ∧ dep ≤ 5) ∧ (n : Int) = 2 ^ dep.toNat)

theorem pow_small (dep : Int) (h0 : 0 ≤ dep) (h1 : dep ≤ 5) : (1 : Int) ≤ 2 ^ dep.toNat ∧ (2 : Int) ^ dep.toNat ≤ 32 := by
  have h4 : dep.toNat = 0 ∨ dep.toNat = 1 ∨ dep.toNat = 2 ∨ dep.toNat = 3 ∨ dep.toNat = 4 ∨ dep.toNat = 5 := by omega
  rcases h4 with h | h | h | h | h | h <;> rw [h] <;> decide

set_option maxHeartbeats 1000000 in
theorem DirWords_bad (A : Option Addr) (n c : Nat) (dep : Int) (W : World) (h : dirShape dep n = false) :
    Calls Try.prog 31 #[.agg #[.int .i64 dep, .slice A n c]] W fun e W' => e = .returned (.tuple #[.slice none 0 0, .int .i64 261]) ∧ Below W.heap.size W W' := by
  have HS := hide h
  clear h
  by_cases h0 : 0 ≤ dep
  · by_cases h1 : dep ≤ 5
    · obtain ⟨p1, p2⟩ := pow_small dep h0 h1
      have hw : IntKind.i64.wrap (2 ^ dep.toNat) = 2 ^ dep.toNat := IntWalk.i64_in _ (by omega)
      have ht : ((n : Int) != 2 ^ dep.toNat) = true := by
        rw [bne_iff_ne]; intro he
        have := HS.out
        simp [dirShape, h0, h1, he] at this
      clear p1 p2
      go_enter Try.func31, Try.ntmps31
      go_wp2_with fail
      go_quiet (fail)
      go_wp2_with fail
      go_ret2
      exact ⟨rfl, below_drewN ((Below.refl _ _).alloc (Nat.le_refl _) _) _⟩
    · have hd : decide (5 < dep) = true := by simp; omega
      go_enter Try.func31, Try.ntmps31
      go_wp2_with fail
      go_quiet (fail)
      go_wp2_with fail
      go_ret2
      exact ⟨rfl, below_drewN ((Below.refl _ _).alloc (Nat.le_refl _) _) _⟩
  · have hd : decide (dep < 0) = true := by simp; omega
    go_enter Try.func31, Try.ntmps31
    go_wp2_with fail
    go_quiet (fail)
    go_wp2_with fail
    go_ret2
    exact ⟨rfl, below_drewN ((Below.refl _ _).alloc (Nat.le_refl _) _) _⟩

set_option maxHeartbeats 1000000 in
theorem At_no (B : Nat) (A : Option Addr) (c : Nat) (dep h : Int) (es : List (Int × Int)) (W : World) (hr : Rd W B 2 A es.length (Cs encE es)) (hB : B ≤ W.heap.size) (hu : ∀ e ∈ es, U64 e.2)
    (hno : (dirShape dep es.length && entsOk es) = false) :
    Calls Try.prog 19 #[.agg #[.int .i64 dep, .slice A es.length c], .int .u64 h] W fun e W' => e = .returned (.tuple #[.int .i64 0, .int .i64 261]) ∧ Below W.heap.size W W' := by
  have hcall : ∀ w : World, Rd w B 2 A es.length (Cs encE es) → B ≤ w.heap.size → Calls Try.prog 31 #[.agg #[.int .i64 dep, .slice A es.length c]] w fun e W' => e = .returned (.tuple #[.slice none 0 0, .int .i64 261]) ∧ Below w.heap.size w W' := by
    intro w hr hB
    by_cases hs : dirShape dep es.length = true
    · have he : entsOk es = false := by simpa [hs] using hno
      simp [dirShape] at hs
      obtain ⟨⟨h0, h1⟩, h2⟩ := hs
      have := (pow_small dep h0 h1).2
      refine (DirWords_any B A c dep es w hr hB hu h0 h1 h2 (by omega)).mono ?_
      rintro e W' (⟨h, _⟩ | ⟨_, h⟩)
      · rw [he] at h; cases h
      · exact h
    · exact DirWords_bad A es.length c dep w (by simpa using hs)
  have HC := hide (hcall (W.alloc (.cells #[.int .i64 dep, .slice A es.length c] 49)) (hr.alloc hB _) (by simp; omega))
  clear hcall hu hno
  go_enter Try.func19, Try.ntmps19
  go_wp2_with (go_at_call 31; refine HC.out.mono ?_; rintro e w1 ⟨rfl, hb1⟩)
  go_ret2
  exact ⟨rfl, ((Below.refl _ _).alloc (Nat.le_refl _) _).trans (hb1.mono (by simp))⟩

theorem topZ_lt (h dep : Int) (h0 : 0 ≤ h) (h1 : h < 18446744073709551616) (hd0 : 0 ≤ dep) (hd1 : dep ≤ 5) : 0 ≤ topZ h dep ∧ topZ h dep < 32 := by
  have h4 : dep = 0 ∨ dep = 1 ∨ dep = 2 ∨ dep = 3 ∨ dep = 4 ∨ dep = 5 := by omega
  rcases h4 with rfl | rfl | rfl | rfl | rfl | rfl <;> simp [topZ] <;> omega

set_option maxHeartbeats 1000000 in
theorem At_ok (B : Nat) (A : Option Addr) (c : Nat) (dep h : Int) (es : List (Int × Int)) (W : World) (hr : Rd W B 2 A es.length (Cs encE es)) (hB : B ≤ W.heap.size) (hu : ∀ e ∈ es, U64 e.2) (hh : U64 h)
    (hs : dirShape dep es.length = true) (he : entsOk es = true) :
    Calls Try.prog 19 #[.agg #[.int .i64 dep, .slice A es.length c], .int .u64 h] W fun e W' => e = .returned (.tuple #[.int .i64 (topZ h dep), .int .i64 0]) ∧ Below W.heap.size W W' := by
  simp [dirShape] at hs
  obtain ⟨⟨h0, h1⟩, h2⟩ := hs
  have hp2 := (pow_small dep h0 h1).2
  have HC := hide (DirWords_any B A c dep es (W.alloc (.cells #[.int .i64 dep, .slice A es.length c] 49)) (hr.alloc hB _) (by simp; omega) hu h0 h1 h2 (by omega))
  obtain ⟨t0, t1⟩ := topZ_lt h dep hh.1 hh.2 h0 h1
  have HT := hide (fun w => top_any h dep w hh.1 hh.2 h0 (by omega))
  have HE := hide he
  clear hu hp2 h2 hh he
  go_enter Try.func19, Try.ntmps19
  go_wp2_with fail
  refine HC.out.mono ?_
  rintro e w1 (⟨_, v1, rfl, ho1, hb1⟩ | ⟨hf, _⟩)
  · have e0 : w1.cell? ⟨W.heap.size, 0, none⟩ = some (.int .i64 dep) := by rw [hb1.cell (by simp)]; simp
    generalize hq : topZ h dep = q at *
    have HQ := hide hq
    clear hq
    go_wp2_with (go_at_call 38; refine (HT.out _).mono ?_; rintro e w2 ⟨rfl, rfl⟩)
    go_ret2
    exact ⟨by rw [HQ.out]; rfl, ((Below.refl _ _).alloc (Nat.le_refl _) _).trans (hb1.mono (by simp))⟩
  · rw [HE.out] at hf; cases hf
end Go.Proofs.Ytndlfofpldbldaa
