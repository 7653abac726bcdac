/-
  What Run and Back come to, in one form; rows compared; rows cut short and copied.
-/
import Derived.Test.YtadgihmokmfejaaCey
set_option linter.unusedSimpArgs false
set_option linter.unusedVariables false
namespace Go.Proofs.Ytadgihmokmfejaa
open Go Go.RowKit

def backE (X : List Int) (ms : List Mk) : Int := if X.length < 1 then 120 else if (backX X ms).isSome then 0 else 2
def backV (X : List Int) (ms : List Mk) : List Int := if X.length < 1 then [] else (backX X ms).getD []
def BackU (W : World) (Y : List Int) (e : Int) (k : Nat) (x : Ending) (W' : World) : Prop :=
  ∃ A c, x = .returned (.tuple #[.slice A k c, .int .i64 e]) ∧ k ≤ c ∧ c ≤ 9223372036854775807 ∧ Rd W' W'.heap.size 1 A k (Cs encW Y) ∧ Below W.heap.size W W'
theorem backV_length (X : List Int) (ms : List Mk) : (backV X ms).length ≤ X.length := by
  unfold backV
  split
  · simp
  · cases h : backX X ms with
    | none => simp
    | some Y => unfold backX at h; simp [backR_length h]

theorem pback_u (A Am : Option Addr) (c n cm m : Nat) (X : List Int) (ms : List Mk) (W : World) (h : Rd W W.heap.size 1 A n (Cs encW X)) (hx : X.length = n) (hn : n ≤ 4096) (hl : Rd W W.heap.size 4 Am m (Cs encM ms)) (hm : ms.length = m) (hm2 : m ≤ 1000) (Y : List Int) (e : Int) (k : Nat) (hY : backV X ms = Y) (he : backE X ms = e) (hk : Y.length = k) :
    Calls Try.prog 27 #[.slice A n c, .slice Am m cm] W (BackU W Y e k) := by
  subst hk hY he
  by_cases h0 : n < 1
  · obtain rfl : n = 0 := by omega
    refine (pback_zero A Am c cm m W).mono ?_
    rintro x w ⟨rfl, hb⟩
    have h1 : backV X ms = [] := by unfold backV; rw [if_pos (by omega)]
    have h2 : backE X ms = 120 := by unfold backE; rw [if_pos (by omega)]
    rw [h1, h2]
    exact ⟨none, 0, rfl, Nat.le_refl _, by omega, Rd.none_, hb⟩
  · refine (pback_any A Am c n cm m X ms W h hx (by omega) (by omega) hl hm hm2 _ rfl).mono ?_
    rintro x w ⟨hb, ⟨hY, rfl⟩ | ⟨Y, g, hY, rfl, hg, hr⟩⟩
    · have h1 : backV X ms = [] := by unfold backV; rw [if_neg (by omega), hY]; rfl
      have h2 : backE X ms = 2 := by unfold backE; rw [if_neg (by omega), hY]; rfl
      rw [h1, h2]
      exact ⟨none, 0, rfl, Nat.le_refl _, by omega, Rd.none_, hb⟩
    · have h1 : backV X ms = Y := by unfold backV; rw [if_neg (by omega), hY]; rfl
      have h2 : backE X ms = 0 := by unfold backE; rw [if_neg (by omega), hY]; rfl
      have h3 : Y.length = n := by rw [← hx]; unfold backX at hY; exact backR_length hY
      rw [h1, h2, h3]
      exact ⟨_, n, rfl, Nat.le_refl _, by omega, hr.rd h3, hb⟩

theorem rback_u (A Am : Option Addr) (c n cm m : Nat) (X : List Int) (ms : List Mk) (W : World) (h : Rd W W.heap.size 1 A n (Cs encW X)) (hx : X.length = n) (hc : n ≤ c) (hcm : c ≤ 9223372036854775807) (hn : n ≤ 4096) (hl : Rd W W.heap.size 4 Am m (Cs encM ms)) (hm : ms.length = m) (hm2 : m ≤ 1000) (Y : List Int) (e : Int) (k : Nat) (hY : backV X ms = Y) (he : backE X ms = e) (hk : Y.length = k) :
    Calls Try.prog 28 #[.slice A n c, .slice Am m cm] W (BackU W Y e k) := by
  subst hk hY he
  by_cases h0 : n < 1
  · obtain rfl : n = 0 := by omega
    refine (rback_zero A Am c cm m W).mono ?_
    rintro x w ⟨rfl, hb⟩
    have h1 : backV X ms = [] := by unfold backV; rw [if_pos (by omega)]
    have h2 : backE X ms = 120 := by unfold backE; rw [if_pos (by omega)]
    rw [h1, h2]
    exact ⟨none, 0, rfl, Nat.le_refl _, by omega, Rd.none_, hb⟩
  · refine (rback_any A Am c n cm m X ms W h hx hc hcm (by omega) (by omega) hl hm hm2 _ rfl).mono ?_
    rintro x w ⟨hb, ⟨hY, rfl⟩ | ⟨Y, A2, c2, hY, rfl, hc2, hcm2, hr⟩⟩
    · have h1 : backV X ms = [] := by unfold backV; rw [if_neg (by omega), hY]; rfl
      have h2 : backE X ms = 2 := by unfold backE; rw [if_neg (by omega), hY]; rfl
      rw [h1, h2]
      exact ⟨none, 0, rfl, Nat.le_refl _, by omega, Rd.none_, hb⟩
    · have h1 : backV X ms = Y := by unfold backV; rw [if_neg (by omega), hY]; rfl
      have h2 : backE X ms = 0 := by unfold backE; rw [if_neg (by omega), hY]; rfl
      have h3 : Y.length = n := by rw [← hx]; unfold backX at hY; exact backR_length hY
      rw [h1, h2, h3]
      exact ⟨A2, c2, rfl, hc2, hcm2, hr, hb⟩

def runV (X : List Int) (l : List Acc) : List Int := if runE X.length l = 0 then runX X l else []
def runSV (X : List Int) (l : List Acc) : List (Int × Bool) := if runE X.length l = 0 then runS X l else []
def runMV (X : List Int) (l : List Acc) : List Mk := if runE X.length l = 0 then runM 0 X l else []
def RunU (W : World) (Y : List Int) (S : List (Int × Bool)) (M : List Mk) (e : Int) (kY kS kM : Nat) (x : Ending) (W' : World) : Prop :=
  ∃ A1 c1 A2 c2 A3 c3, x = .returned (.tuple #[.slice A1 kY c1, .slice A2 kS c2, .slice A3 kM c3, .int .i64 e]) ∧ (kY ≤ c1 ∧ c1 ≤ 9223372036854775807) ∧ Rd W' W'.heap.size 1 A1 kY (Cs encW Y) ∧ Rd W' W'.heap.size 2 A2 kS (Cs encS S) ∧ Rd W' W'.heap.size 4 A3 kM (Cs encM M) ∧ Below W.heap.size W W'
theorem prun_u (A Al : Option Addr) (c n cl m : Nat) (X : List Int) (l : List Acc) (W : World) (h : Rd W W.heap.size 1 A n (Cs encW X)) (hx : X.length = n) (hn : n ≤ 8192) (hl : Rd W W.heap.size 5 Al m (Cs encA l)) (hm : l.length = m) (hm2 : m ≤ 1000) (e : Int) (Y : List Int) (S : List (Int × Bool)) (M : List Mk) (kY kS kM : Nat)
    (he : runE n l = e) (hY : runV X l = Y) (hS : runSV X l = S) (hM : runMV X l = M) (hkY : Y.length = kY) (hkS : S.length = kS) (hkM : M.length = kM) : Calls Try.prog 18 #[.slice A n c, .slice Al m cl] W (RunU W Y S M e kY kS kM) := by
  refine (prun_any A Al c n cl m X l W h hx hn hl hm hm2 e he).mono ?_
  subst hkY hkS hkM hY hS hM
  rintro x w ⟨hb, ⟨h0, rfl⟩ | ⟨h0, g, va, vm, rfl, hg, hri⟩⟩
  · have h1 : runV X l = [] := by unfold runV; rw [if_neg (by rw [hx, he]; exact h0)]
    have h2 : runSV X l = [] := by unfold runSV; rw [if_neg (by rw [hx, he]; exact h0)]
    have h3 : runMV X l = [] := by unfold runMV; rw [if_neg (by rw [hx, he]; exact h0)]
    rw [h1, h2, h3]
    exact ⟨none, 0, none, 0, none, 0, rfl, ⟨Nat.le_refl _, by omega⟩, Rd.none_, Rd.none_, Rd.none_, hb⟩
  · have h1 : runV X l = runX X l := by unfold runV; rw [if_pos (by rw [hx, he]; exact h0)]
    have h2 : runSV X l = runS X l := by unfold runSV; rw [if_pos (by rw [hx, he]; exact h0)]
    have h3 : runMV X l = runM 0 X l := by unfold runMV; rw [if_pos (by rw [hx, he]; exact h0)]
    have hk : (runX X l).length = n := by rw [runX_length, hx]
    rw [h1, h2, h3, hk, runS_length]
    obtain ⟨A2, c2, rfl, _, _⟩ := own_form2 hri.sn
    obtain ⟨A3, c3, rfl, _, _⟩ := own_form2 hri.mks
    subst h0
    exact ⟨_, n, A2, c2, A3, c3, rfl, ⟨Nat.le_refl _, by omega⟩, hri.row.rd hk, Rd.of_own hri.sn, Rd.of_own hri.mks, hb⟩
theorem rrun_u (A Al : Option Addr) (c n cl m : Nat) (X : List Int) (l : List Acc) (W : World) (h : Rd W W.heap.size 1 A n (Cs encW X)) (hx : X.length = n) (hc : n ≤ c) (hcm : c ≤ 9223372036854775807) (hn : n ≤ 4096) (hw : Ws X) (hl : Rd W W.heap.size 5 Al m (Cs encA l)) (hu : ∀ a ∈ l, U64 a.2.2.2.2) (hm : l.length = m) (hm2 : m ≤ 1000) (e : Int) (Y : List Int) (S : List (Int × Bool)) (M : List Mk) (kY kS kM : Nat)
    (he : runE n l = e) (hY : runV X l = Y) (hS : runSV X l = S) (hM : runMV X l = M) (hkY : Y.length = kY) (hkS : S.length = kS) (hkM : M.length = kM) : Calls Try.prog 23 #[.slice A n c, .slice Al m cl] W (RunU W Y S M e kY kS kM) := by
  by_cases hn0 : n < 1
  · obtain rfl : n = 0 := by omega
    have h120 : runE 0 l = 120 := runE_out (.inl (by omega)) l
    refine (rrun_zero A Al c cl m W).mono ?_
    subst hkY hkS hkM hY hS hM he
    rintro x w ⟨rfl, hb⟩
    have h1 : runV X l = [] := by unfold runV; rw [if_neg (by rw [hx, h120]; decide)]
    have h2 : runSV X l = [] := by unfold runSV; rw [if_neg (by rw [hx, h120]; decide)]
    have h3 : runMV X l = [] := by unfold runMV; rw [if_neg (by rw [hx, h120]; decide)]
    rw [h1, h2, h3, h120]
    exact ⟨none, 0, none, 0, none, 0, rfl, ⟨Nat.le_refl _, by omega⟩, Rd.none_, Rd.none_, Rd.none_, hb⟩
  · refine (rrun_any A Al c n cl m X l W h hx hc hcm (by omega) hn hw hl hu hm hm2 e he).mono ?_
    subst hkY hkS hkM hY hS hM
    rintro x w ⟨hb, ⟨h0, rfl⟩ | ⟨h0, A1, c1, va, vm, rfl, hc1, hcm1, hri⟩⟩
    · have h1 : runV X l = [] := by unfold runV; rw [if_neg (by rw [hx, he]; exact h0)]
      have h2 : runSV X l = [] := by unfold runSV; rw [if_neg (by rw [hx, he]; exact h0)]
      have h3 : runMV X l = [] := by unfold runMV; rw [if_neg (by rw [hx, he]; exact h0)]
      rw [h1, h2, h3]
      exact ⟨none, 0, none, 0, none, 0, rfl, ⟨Nat.le_refl _, by omega⟩, Rd.none_, Rd.none_, Rd.none_, hb⟩
    · have h1 : runV X l = runX X l := by unfold runV; rw [if_pos (by rw [hx, he]; exact h0)]
      have h2 : runSV X l = runS X l := by unfold runSV; rw [if_pos (by rw [hx, he]; exact h0)]
      have h3 : runMV X l = runM 0 X l := by unfold runMV; rw [if_pos (by rw [hx, he]; exact h0)]
      have hk : (runX X l).length = n := by rw [runX_length, hx]
      rw [h1, h2, h3, hk, runS_length]
      obtain ⟨A2, c2, rfl, _, _⟩ := own_form2 hri.sn
      obtain ⟨A3, c3, rfl, _, _⟩ := own_form2 hri.mks
      subst h0
      exact ⟨A1, c1, A2, c2, A3, c3, rfl, ⟨hc1, hcm1⟩, hri.rd, Rd.of_own hri.sn, Rd.of_own hri.mks, hb⟩

theorem rsame_n (B1 B2 : Nat) (A1 A2 : Option Addr) (c1 c2 n m : Nat) (xs ys : List Int) (W : World) (hn : xs.length = n) (hm : ys.length = m) (h1 : Rd W B1 1 A1 n (Cs encW xs)) (h2 : Rd W B2 1 A2 m (Cs encW ys)) (hB1 : B1 ≤ W.heap.size) (hB2 : B2 ≤ W.heap.size)
    (hl1 : n ≤ 8192) (hl2 : m ≤ 8192) (r : Bool) (hr : decide (xs = ys) = r) :
    Calls Try.prog 17 #[.slice A1 n c1, .slice A2 m c2] W fun e W' => e = .returned (.bool r) ∧ Below W.heap.size W W' := by
  subst hn hm
  exact rsame_any B1 B2 A1 A2 c1 c2 xs ys W h1 h2 hB1 hB2 hl1 hl2 r hr
theorem EqualSn (B1 B2 : Nat) (A1 A2 : Option Addr) (c1 c2 n m : Nat) (xs ys : List (Int × Bool)) (W : World) (hn : xs.length = n) (hm : ys.length = m) (h1 : Rd W B1 2 A1 n (Cs encS xs)) (h2 : Rd W B2 2 A2 m (Cs encS ys)) (hB1 : B1 ≤ W.heap.size) (hB2 : B2 ≤ W.heap.size)
    (hl1 : n ≤ 4096) (hl2 : m ≤ 4096) (r : Bool) (hr : decide (xs = ys) = r) :
    Calls Try.prog 24 #[.slice A1 n c1, .slice A2 m c2] W fun e W' => e = .returned (.bool r) ∧ Below W.heap.size W W' := by
  subst hn hm
  exact EqualS B1 B2 A1 A2 c1 c2 xs ys W h1 h2 hB1 hB2 hl1 hl2 r hr
theorem EqualMn (B1 B2 : Nat) (A1 A2 : Option Addr) (c1 c2 n m : Nat) (xs ys : List Mk) (W : World) (hn : xs.length = n) (hm : ys.length = m) (h1 : Rd W B1 4 A1 n (Cs encM xs)) (h2 : Rd W B2 4 A2 m (Cs encM ys)) (hB1 : B1 ≤ W.heap.size) (hB2 : B2 ≤ W.heap.size)
    (hl1 : n ≤ 4096) (hl2 : m ≤ 4096) (r : Bool) (hr : decide (xs = ys) = r) :
    Calls Try.prog 25 #[.slice A1 n c1, .slice A2 m c2] W fun e W' => e = .returned (.bool r) ∧ Below W.heap.size W W' := by
  subst hn hm
  exact EqualM B1 B2 A1 A2 c1 c2 xs ys W h1 h2 hB1 hB2 hl1 hl2 r hr
end Go.Proofs.Ytadgihmokmfejaa
