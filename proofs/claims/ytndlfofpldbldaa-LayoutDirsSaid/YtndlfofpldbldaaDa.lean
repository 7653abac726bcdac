/-
  layout.Dir: the iterator over entries.
-/
import Derived.Test.YtndlfofpldbldaaRange
import Derived.Test.YtndlfofpldbldaaL
set_option linter.unusedSimpArgs false
set_option linter.unusedVariables false
namespace Go.Proofs.Ytndlfofpldbldaa
open Go Go.RowKit
attribute [local go_sem] Oper.semAt_some

def unp (w : Int) : Int × Int := (w % 65536 - 1, w / 65536)
def okW (w : Int) : Bool := okEnt (w % 65536 - 1) (w / 65536)
def encEv (x : Int × Int) : Array Value := #[.agg #[.int .i64 x.1, .int .u64 x.2]]

theorem entries_seq (kb n₀ b off c : Nat) (ws : List Int) (w : World) (hk : w.cell? ⟨kb, 0, none⟩ = some (.slice (some ⟨b, off, none⟩) ws.length c)) (hkl : kb < w.heap.size) (hb : b < n₀) (hn : n₀ ≤ w.heap.size) (hu : ∀ x ∈ ws, U64 x) (hl : ws.length ≤ 4096)
    (hc : ∀ j u, (Cs encW ws)[j]? = some u → w.cell? ⟨b, off + j, none⟩ = some u) :
    Seq3 Try.prog 59 #[.pointer (some ⟨kb, 0, none⟩)] encEv (fun j => j < n₀) (fun xs => xs = ws.map unp ∧ ws.all okW = true) (fun _ => True)
      (fun pre => ∃ k, k < ws.length ∧ pre = (ws.take k).map unp ∧ okW (ws.getD k 0) = false) wrongX ws.length w := by
  intro l J Jx W hbW hJ hJx hY h0
  have HU := hide hu
  have HC := hide hc
  have hkW := kept hbW hk
  have hbw : b < w.heap.size := by omega
  have hcW : ∀ j, j < n₀ → W.heap[j]? = w.heap[j]? := fun j hj => hbW.block j (by omega)
  have HCW := hide hcW
  have HJ := hide hJ
  have HY := hide hY
  have H0 := hide h0
  clear hu hc hk hcW hJ hJx hY h0
  refine (callsIn_wide (n := 4)).1 (callsIn_of_wp Try.func59 rfl trivial ?_ rfl)
  simp only [Try.ntmps59, List.size_toArray, List.length_cons, List.length_nil, Nat.reduceAdd, Nat.reduceSub, Array.replicate_succ, Array.replicate_zero, List.push_toArray, List.append_toArray, List.nil_append, List.cons_append]
  gi_wp2
  gi_loopw [9] (fun i wr => ∃ k : Nat, k ≤ ws.length ∧ i = .int .i64 k ∧ (ws.take k).all okW = true ∧ J ((ws.take k).map unp) wr ∧ (∀ j, j < n₀ → wr.heap[j]? = W.heap[j]?)) (fun i _ => ws.length - (intOf i).toNat)
  case atStart => exact ⟨0, Nat.zero_le _, rfl, rfl, H0.out, fun _ _ => rfl⟩
  case round =>
    obtain ⟨k, hk, rfl, hall, hj, hkeep⟩ := hrel
    have HA := hide hall
    have HKP := hide hkeep
    have HJk := hide hj
    clear hall hkeep hj
    by_cases hlt : k < ws.length
    · have hd : wr.cell? ⟨b, off + k, none⟩ = some (.int .u64 ws[k]) := by
        have h1 := HC.out k (.int .u64 ws[k]) (by rw [Cs_mapW]; simp [hlt])
        have h2 : wr.heap[b]? = w.heap[b]? := (HKP.out b hb).trans (HCW.out b hb)
        rw [← h1]; unfold World.cell?; simp only [h2]
      have hux := hide (HU.out ws[k] (List.getElem_mem hlt))
      have HG := hide (show ws.getD k 0 = ws[k] from by rw [List.getD_eq_getElem?_getD, List.getElem?_eq_getElem hlt]; rfl)
      have HT := hide (show ws.take (k + 1) = ws.take k ++ [ws[k]] from List.take_succ_eq_append_getElem hlt)
      generalize ws[k] = x at *
      obtain ⟨r, hr⟩ : ∃ r, okW x = r := ⟨_, rfl⟩
      have HR := hide hr
      clear hr
      cases r
      · gi_wp2
        refine ⟨trivial, (callsIn_wide.2 (Unpack_no _ x hux.out.1 hux.out.2 HR.out)).mono ?_⟩
        rintro e w1 ⟨rfl, hb1⟩
        gi_wp2
        refine ⟨trivial, (callsIn_wide.2 (need_no _)).mono ?_⟩
        rintro e w2 ⟨rfl, rfl⟩
        gi_wp2
        refine ⟨rfl, .inr ⟨rfl, (ws.take k).map unp, ⟨k, hlt, rfl, by rw [HG.out]; exact HR.out⟩, ?_⟩⟩
        have hJ1 := HJ.out _ _ _ HJk.out hb1
        exact HJ.out _ _ _ hJ1 ((Below.refl _ _).alloc (Nat.le_refl _) _)
      · gi_wp2
        refine ⟨trivial, (callsIn_wide.2 (Unpack_ok _ x hux.out.1 hux.out.2 HR.out)).mono ?_⟩
        rintro e w1 ⟨rfl, hb1⟩
        have hJ1 : J ((ws.take k).map unp) (w1.alloc (.cells #[.int .i64 (x % 65536 - 1), .int .u64 (x / 65536)] 36)) := HJ.out _ _ _ (HJ.out _ _ _ HJk.out hb1) ((Below.refl _ _).alloc (Nat.le_refl _) _)
        obtain ⟨fn, tmps, assign, body, hy, hR⟩ := HY.out ((ws.take k).map unp) (unp x) _ hJ1 (by simp; omega)
        dsimp only [encEv, unp] at hy
        have hk1 : ∀ j, j < n₀ → (w1.alloc (.cells #[.int .i64 (x % 65536 - 1), .int .u64 (x / 65536)] 36)).heap[j]? = W.heap[j]? := fun j hj => by
          have hjw : j < wr.heap.size := by
            have h2 := HKP.out b hb
            have h3 := (HKP.out j hj).trans (HCW.out j hj)
            have : j < w.heap.size := by omega
            rw [Array.getElem?_eq_getElem this] at h3
            exact (Array.getElem?_eq_some_iff.1 h3).1
          rw [Below.heap_alloc _ _ _ (by have := hb1.size; omega), hb1.block j hjw]; exact HKP.out j hj
        have HK1 := hide hk1
        have HA1 := hide (show (ws.take (k + 1)).all okW = true by rw [HT.out, List.all_append, HA.out]; simp [HR.out])
        have HM1 := hide (show (ws.take k).map unp ++ [unp x] = (ws.take (k + 1)).map unp by rw [HT.out]; simp)
        clear hk1 hJ1
        gi_wp2
        refine ⟨trivial, (callsIn_wide.2 (need_ok _)).mono ?_⟩
        rintro e w2 ⟨rfl, rfl⟩
        gi_wp2
        refine hR.mono ?_
        rintro e W3 (⟨rfl, hJ3, hk3⟩ | ⟨rfl, hJx3⟩)
        · rw [HM1.out] at hJ3
          have HJ3 := hide hJ3
          have HK3 : Hid (∀ j, j < n₀ → W3.heap[j]? = W.heap[j]?) := hide (fun j hj => (hk3 j hj).trans (HK1.out j hj))
          clear hJ3 hk3
          gi_wp2
          go_roundw
          case rel => exact ⟨k + 1, by omega, by go_num, HA1.out, HJ3.out, HK3.out⟩
          case measure => simp [intOf]; omega
        · gi_wp2
          refine bodyPost_ret (results_none rfl _ _ _) rfl ?_
          exact .inl ⟨_, rfl, .inr ⟨_, trivial, hJx3⟩⟩
    · gi_wp2
      go_end0
      obtain rfl : k = ws.length := by omega
      have h1 := HJk.out
      have h2 := HA.out
      rw [List.take_length] at h1 h2
      exact .inl ⟨_, rfl, .inl ⟨_, ⟨rfl, h2⟩, h1⟩⟩
end Go.Proofs.Ytndlfofpldbldaa
