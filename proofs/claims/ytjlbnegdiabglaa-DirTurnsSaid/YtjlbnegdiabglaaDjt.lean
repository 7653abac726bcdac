/-
  A directory split, plainly: what it is then, and which is finer.
-/
import Derived.Test.YtjlbnegdiabglaaDjs
set_option linter.unusedSimpArgs false
set_option linter.unusedVariables false
namespace Go.Proofs.Ytjlbnegdiabglaa
open Go Go.RowKit

theorem spl_mem (low high : En) (f half : Nat) : ∀ (i : Nat) (es : List En) (y : En), y ∈ spl low high f half i es → y ∈ es ∨ y = low ∨ y = high
  | 0, es, y, h => .inl h
  | i + 1, es, y, h => by
    unfold spl at h
    rcases List.mem_or_eq_of_mem_set h with h | h
    · rcases List.mem_or_eq_of_mem_set h with h | h
      · exact spl_mem low high f half i es y h
      · exact .inr (.inl h)
    · exact .inr (.inr h)
theorem apartB_out {low high x : En} (h : apartB low high x = true) : x.1 ≠ low.1 ∧ x.1 ≠ high.1 := by
  unfold apartB at h
  simpa using h
theorem log_dbl {half : Nat} (h : 1 ≤ half) : Nat.log2 (2 * half) = Nat.log2 half + 1 := log2_two h
theorem core {dep : Int} {es : List En} {low high : En} (h : mayB dep es = true) {pre post : List Rn} {r : Rn} {half : Nat} (hr : runs es = pre ++ r :: post) (hm : r.many = 2 * half) (h1 : 1 ≤ half)
    (hl : okEnt low.1 low.2 = true) (hh : okEnt high.1 high.2 = true) (hne : low.1 ≠ high.1) (hal : es.all (apartB low high) = true) :
    runs (spl low high r.at_ half half es) = pre ++ ⟨r.at_, half, low⟩ :: ⟨r.at_ + half, half, high⟩ :: post ∧ mayB dep (spl low high r.at_ half half es) = true ∧
    rc dep ⟨r.at_, half, low⟩ = ⟨low, (rc dep r).dep + 1, 2 * (rc dep r).pre, r.at_, half⟩ ∧ rc dep ⟨r.at_ + half, half, high⟩ = ⟨high, (rc dep r).dep + 1, 2 * (rc dep r).pre + 1, (r.at_ : Int) + half, half⟩ := by
  have hap : ∀ x ∈ es, x.1 ≠ low.1 ∧ x.1 ≠ high.1 := fun x hx => apartB_out (List.all_eq_true.1 hal x hx)
  have hru := runs_spl hr hm h1 (low := low) (high := high) (fun e => hne (by rw [e])) (fun x hx e => (hap x hx).1 (by rw [e])) (fun x hx e => (hap x hx).2 (by rw [e]))
  have hrm : r ∈ runs es := by rw [hr]; simp
  obtain ⟨m1, m2, m3, m4⟩ := runs_mem hrm
  obtain ⟨hd0, hd5, hl32, hl1, -, hlen⟩ := may_shape h
  have hok : okRun r = true := by
    unfold mayB at h
    simp only [Bool.and_eq_true] at h
    exact List.all_eq_true.1 h.1.2 r hrm
  unfold okRun at hok
  simp only [Bool.and_eq_true, decide_eq_true_eq] at hok
  obtain ⟨ok1, ok2⟩ := hok
  rw [hm] at ok1 ok2
  have hlg := log_dbl h1
  have hp := (pow_small32 (show 1 ≤ 2 * half by omega) (by omega)).1 ok1
  rw [hlg, Nat.pow_succ] at hp
  have hp2 : half &&& (half - 1) = 0 := (pow_small32 h1 (by omega)).2 (by omega)
  obtain ⟨q, hq⟩ : ∃ q, r.at_ = 2 * half * q := ⟨r.at_ / (2 * half), by have := Nat.div_add_mod r.at_ (2 * half); omega⟩
  have hq2 : r.at_ = half * (2 * q) := by rw [hq, Nat.mul_comm 2 half, Nat.mul_assoc]
  have hq3 : r.at_ + half = half * (2 * q + 1) := by rw [hq2, Nat.mul_add, Nat.mul_one]
  have d1 : r.at_ / (2 * half) = q := by rw [hq]; exact Nat.mul_div_cancel_left _ (by omega)
  have d2 : r.at_ / half = 2 * q := by rw [hq2]; exact Nat.mul_div_cancel_left _ (by omega)
  have d3 : (r.at_ + half) / half = 2 * q + 1 := by rw [hq3]; exact Nat.mul_div_cancel_left _ (by omega)
  refine ⟨hru, ?_, ?_, ?_⟩
  · unfold mayB at h ⊢
    simp only [Bool.and_eq_true] at h ⊢
    obtain ⟨⟨⟨a1, a2⟩, a3⟩, a4⟩ := h
    rw [spl_length, hru]
    refine ⟨⟨⟨a1, ?_⟩, ?_⟩, ?_⟩
    · unfold entsOk
      rw [List.all_eq_true]
      intro x hx
      rcases spl_mem _ _ _ _ _ _ _ hx with hx | rfl | rfl
      · exact entsOk_mem a2 hx
      · exact hl
      · exact hh
    · rw [List.all_eq_true]
      intro x hx
      rw [hr] at a3
      have ha := List.all_eq_true.1 a3
      have o1 : okRun ⟨r.at_, half, low⟩ = true := by
        unfold okRun
        simp only [Bool.and_eq_true, decide_eq_true_eq]
        exact ⟨hp2, by rw [hq2]; exact Nat.mul_mod_right _ _⟩
      have o2 : okRun ⟨r.at_ + half, half, high⟩ = true := by
        unfold okRun
        simp only [Bool.and_eq_true, decide_eq_true_eq]
        exact ⟨hp2, by rw [hq3]; exact Nat.mul_mod_right _ _⟩
      simp only [List.mem_append, List.mem_cons] at hx
      rcases hx with hx | rfl | rfl | hx
      · exact ha x (by simp [hx])
      · exact o1
      · exact o2
      · exact ha x (by simp [hx])
    · rw [decide_eq_true_eq] at a4 ⊢
      rw [hr] at a4
      have hs : ∀ x ∈ runs es, x.e.1 ≠ low.1 ∧ x.e.1 ≠ high.1 := fun x hx => hap _ (runs_ent hx)
      rw [hr] at hs
      unfold slabsOf at a4 ⊢
      simp only [List.map_append, List.map_cons] at a4 ⊢
      rw [List.nodup_append] at a4 ⊢
      obtain ⟨b1, b2, b3⟩ := a4
      rw [List.nodup_cons] at b2
      refine ⟨b1, ?_, ?_⟩
      · rw [List.nodup_cons, List.nodup_cons]
        refine ⟨?_, ?_, b2.2⟩
        · intro hx
          rcases List.mem_cons.1 hx with hx | hx
          · exact hne hx
          · obtain ⟨y, hy, e⟩ := List.mem_map.1 hx
            exact (hs y (by simp [hy])).1 e
        · intro hx
          obtain ⟨y, hy, e⟩ := List.mem_map.1 hx
          exact (hs y (by simp [hy])).2 e
      · intro a ha b hb
        obtain ⟨y, hy, rfl⟩ := List.mem_map.1 ha
        rcases List.mem_cons.1 hb with rfl | hb
        · exact (hs y (by simp [hy])).1
        · rcases List.mem_cons.1 hb with rfl | hb
          · exact (hs y (by simp [hy])).2
          · exact b3 _ ha b (List.mem_cons_of_mem _ hb)
  · simp only [rc, hm, hlg, d1, d2]
    congr 1 <;> omega
  · simp only [rc, hm, hlg, d1, d3]
    congr 1 <;> omega
/-- No run lies within another one. -/
theorem in_same {dep : Int} {es : List En} (h : mayB dep es = true) {r q : Rn} (hr : r ∈ runs es) (hq : q ∈ runs es) (hi : inB (rc dep r) (rc dep q) = true) : q.e = r.e := by
  obtain ⟨hd0, hd5, hl32, hl1, -, hlen⟩ := may_shape h
  unfold mayB at h
  simp only [Bool.and_eq_true] at h
  have ha := List.all_eq_true.1 h.1.2
  have okr := ha r hr
  have okq := ha q hq
  obtain ⟨r1, r2, r3, r4⟩ := runs_mem hr
  obtain ⟨q1, q2, q3, q4⟩ := runs_mem hq
  unfold okRun at okr okq
  simp only [Bool.and_eq_true, decide_eq_true_eq] at okr okq
  have pr := (pow_small32 r1 (by omega)).1 okr.1
  have pq := (pow_small32 q1 (by omega)).1 okq.1
  unfold inB at hi
  rw [Bool.and_eq_true, decide_eq_true_eq, decide_eq_true_eq] at hi
  obtain ⟨i1, i2⟩ := hi
  have i1 : dep - (Nat.log2 q.many : Nat) ≤ dep - (Nat.log2 r.many : Nat) := i1
  have i2 : ((r.at_ / r.many : Nat) : Int) / 2 ^ (dep - (Nat.log2 r.many : Nat) - (dep - (Nat.log2 q.many : Nat))).toNat = ((q.at_ / q.many : Nat) : Int) := i2
  obtain ⟨d, hd⟩ : ∃ d, Nat.log2 q.many = Nat.log2 r.many + d := ⟨Nat.log2 q.many - Nat.log2 r.many, by omega⟩
  rw [show (dep - (Nat.log2 r.many : Nat) - (dep - (Nat.log2 q.many : Nat))).toNat = d by omega] at i2
  have i3 : r.at_ / r.many / 2 ^ d = q.at_ / q.many := by exact_mod_cast i2
  rw [Nat.div_div_eq_div_mul] at i3
  have e1 : r.many * 2 ^ d = q.many := by rw [← pq, hd, Nat.pow_add, pr]
  rw [e1] at i3
  have b1 := Nat.div_add_mod r.at_ q.many
  have b2 := Nat.div_add_mod q.at_ q.many
  have b3 := Nat.mod_lt r.at_ (show 0 < q.many by omega)
  rw [i3] at b1
  have c1 : q.at_ ≤ r.at_ := by omega
  have c2 : r.at_ < q.at_ + q.many := by omega
  rw [q3, r3]
  exact (run_same es (by omega) c1 (by rw [q4] at c2; exact c2)).symm
/-- The one's runs and the other's, split. -/
structure Parted (was is : List Rc) (e low high : En) (pre : List Rc) (x : Rc) (post : List Rc) (g : Rc → Rc) (lo hi : Rc) : Prop where
  keep : ∀ y, (g y).e = y.e ∧ (g y).dep = y.dep ∧ (g y).pre = y.pre
  was : was = pre ++ x :: post
  fst : ∀ y ∈ pre, y.e ≠ e
  at_ : x.e = e
  is : is = pre.map g ++ lo :: hi :: post.map g
  low : lo.e = low
  high : hi.e = high
  dlo : lo.dep = x.dep + 1
  dhi : hi.dep = x.dep + 1
  plo : lo.pre = 2 * x.pre
  phi : hi.pre = 2 * x.pre + 1
  not : ∀ y ∈ pre ++ post, inB x y = false
theorem Parted.finer {was is : List Rc} {e low high : En} {pre : List Rc} {x : Rc} {post : List Rc} {g : Rc → Rc} {lo hi : Rc} (h : Parted was is e low high pre x post g lo hi) : finerX is was = true ∧ finerX was is = false ∧ is.length = was.length + 1 := by
  have hx : x ∈ was := by rw [h.was]; simp
  refine ⟨?_, ?_, ?_⟩
  · unfold finerX
    simp only [Bool.and_eq_true, decide_eq_true_eq, List.all_eq_true, List.any_eq_true]
    refine ⟨⟨by rw [h.is, List.length_append, List.length_cons]; omega, List.length_pos_of_mem hx⟩, fun s hs => ?_⟩
    rw [h.is] at hs
    simp only [List.mem_append, List.mem_cons] at hs
    have hg : ∀ y ∈ was, ∃ t, t ∈ was ∧ inB (g y) t = true := fun y hy => ⟨y, hy, inB_same (h.keep y).2.1 (h.keep y).2.2⟩
    rcases hs with hs | rfl | rfl | hs
    · obtain ⟨y, hy, rfl⟩ := List.mem_map.1 hs
      exact hg y (by rw [h.was]; simp [hy])
    · refine ⟨x, hx, ?_⟩
      unfold inB
      rw [h.dlo, h.plo, show (x.dep + 1 - x.dep).toNat = 1 by omega]
      simp only [Bool.and_eq_true, decide_eq_true_eq]
      omega
    · refine ⟨x, hx, ?_⟩
      unfold inB
      rw [h.dhi, h.phi, show (x.dep + 1 - x.dep).toNat = 1 by omega]
      simp only [Bool.and_eq_true, decide_eq_true_eq]
      omega
    · obtain ⟨y, hy, rfl⟩ := List.mem_map.1 hs
      exact hg y (by rw [h.was]; simp [hy])
  · rw [Bool.eq_false_iff]
    intro hf
    unfold finerX at hf
    simp only [Bool.and_eq_true, decide_eq_true_eq, List.all_eq_true, List.any_eq_true] at hf
    obtain ⟨t, ht, hi⟩ := hf.2 x hx
    rw [h.is] at ht
    simp only [List.mem_append, List.mem_cons] at ht
    have hg : ∀ y, y ∈ pre ++ post → inB x (g y) = true → False := fun y hy hh => by
      have h1 := h.not y hy
      unfold inB at h1 hh
      rw [(h.keep y).2.1, (h.keep y).2.2, h1] at hh
      cases hh
    rcases ht with ht | rfl | rfl | ht
    · obtain ⟨y, hy, rfl⟩ := List.mem_map.1 ht
      exact hg y (by simp [hy]) hi
    · unfold inB at hi
      rw [h.dlo] at hi
      simp only [Bool.and_eq_true, decide_eq_true_eq] at hi
      omega
    · unfold inB at hi
      rw [h.dhi] at hi
      simp only [Bool.and_eq_true, decide_eq_true_eq] at hi
      omega
    · obtain ⟨y, hy, rfl⟩ := List.mem_map.1 ht
      exact hg y (by simp [hy]) hi
  · rw [h.is, h.was]
    simp
    omega
theorem Parted.first {was is : List Rc} {e low high : En} {pre : List Rc} {x : Rc} {post : List Rc} {g : Rc → Rc} {lo hi : Rc} (h : Parted was is e low high pre x post g lo hi) {i : Int} (hf : FirstP ⟨(0, 0), 0, 0, 0, 0⟩ (fun t => decide (t.e = e)) was i) : i = pre.length := by
  have hx : x ∈ was := by rw [h.was]; simp
  have hgx : was.getD pre.length ⟨(0, 0), 0, 0, 0, 0⟩ = x := by rw [h.was, List.getD_eq_getElem?_getD, List.getElem?_append_right (Nat.le_refl _), Nat.sub_self]; rfl
  rcases hf with ⟨rfl, hn⟩ | ⟨k, hk, rfl, hp, hj⟩
  · have := hn x hx
    rw [decide_eq_false_iff_not] at this
    exact absurd h.at_ this
  · rcases Nat.lt_trichotomy k pre.length with hlt | rfl | hlt
    · exfalso
      have hg : was.getD k ⟨(0, 0), 0, 0, 0, 0⟩ = pre[k] := by rw [h.was, List.getD_eq_getElem?_getD, List.getElem?_append_left hlt, List.getElem?_eq_getElem hlt]; rfl
      rw [hg, decide_eq_true_eq] at hp
      exact h.fst _ (List.getElem_mem hlt) hp
    · rfl
    · exfalso
      have := hj _ hlt
      rw [hgx, decide_eq_false_iff_not] at this
      exact this h.at_
theorem find_map {dep : Int} {e : En} {s : Rc} : ∀ {rs : List Rn}, (rs.map (rc dep)).find? (fun x => decide (x.e = e)) = some s → ∃ pre r post, rs = pre ++ r :: post ∧ s = rc dep r ∧ r.e = e ∧ ∀ y ∈ pre, y.e ≠ e
  | [], h => by cases h
  | r :: rs, h => by
    rw [List.map_cons, List.find?_cons] at h
    by_cases hr : r.e = e
    · have : decide ((rc dep r).e = e) = true := decide_eq_true hr
      rw [this] at h
      exact ⟨[], r, rs, rfl, (Option.some.inj h).symm, hr, fun y hy => by cases hy⟩
    · have : decide ((rc dep r).e = e) = false := decide_eq_false hr
      rw [this] at h
      obtain ⟨pre, q, post, h1, h2, h3, h4⟩ := find_map (rs := rs) h
      refine ⟨r :: pre, q, post, by rw [h1]; rfl, h2, h3, ?_⟩
      intro y hy
      rcases List.mem_cons.1 hy with rfl | hy
      · exact hr
      · exact h4 y hy
theorem map_find {dep : Int} {e : En} : ∀ {pre : List Rn} {r : Rn} {post : List Rn}, (∀ y ∈ pre, y.e ≠ e) → r.e = e → ((pre ++ r :: post).map (rc dep)).find? (fun x => decide (x.e = e)) = some (rc dep r)
  | [], r, post, _, hr => by
    have : decide ((rc dep r).e = e) = true := decide_eq_true hr
    rw [List.nil_append, List.map_cons, List.find?_cons, this]
  | y :: pre, r, post, h, hr => by
    have : decide ((rc dep y).e = e) = false := decide_eq_false (h y (List.mem_cons_self ..))
    rw [List.cons_append, List.map_cons, List.find?_cons, this]
    exact map_find (fun z hz => h z (List.mem_cons_of_mem _ hz)) hr
theorem not_in {dep : Int} {es : List En} (h : mayB dep es = true) {pre post : List Rn} {r : Rn} (hr : runs es = pre ++ r :: post) : ∀ y ∈ pre ++ post, inB (rc dep r) (rc dep y) = false := by
  intro y hy
  have hy2 : y ∈ runs es := by
    rw [hr]
    rcases List.mem_append.1 hy with hy | hy
    · simp [hy]
    · simp [hy]
  have hrm : r ∈ runs es := by rw [hr]; simp
  rw [Bool.eq_false_iff]
  intro hi
  have he := in_same h hrm hy2 hi
  unfold mayB at h
  simp only [Bool.and_eq_true, decide_eq_true_eq] at h
  have hn := h.2
  rw [hr] at hn
  unfold slabsOf at hn
  rw [List.map_append, List.map_cons, List.nodup_append] at hn
  obtain ⟨n1, n2, n3⟩ := hn
  rcases List.mem_append.1 hy with hy | hy
  · exact n3 _ (List.mem_map_of_mem hy) _ (List.mem_cons_self ..) (by rw [he])
  · exact (List.nodup_cons.1 n2).1 (List.mem_map.2 ⟨y, hy, by rw [he]⟩)
theorem even_many {dep : Int} {es : List En} (h : mayB dep es = true) {r : Rn} (hr : r ∈ runs es) (h1 : r.many ≠ 1) : r.many = 2 * (r.many / 2) ∧ 1 ≤ r.many / 2 := by
  obtain ⟨hd0, hd5, hl32, hl1, -, hlen⟩ := may_shape h
  unfold mayB at h
  simp only [Bool.and_eq_true] at h
  have ok := List.all_eq_true.1 h.1.2 r hr
  obtain ⟨r1, r2, r3, r4⟩ := runs_mem hr
  unfold okRun at ok
  simp only [Bool.and_eq_true, decide_eq_true_eq] at ok
  have pr := (pow_small32 r1 (by omega)).1 ok.1
  have h2 := log2_half (show 1 < r.many by omega)
  rw [h2, Nat.pow_succ] at pr
  have : 1 ≤ 2 ^ Nat.log2 (r.many / 2) := Nat.one_le_two_pow
  omega
/-- What comes of a split that is right. -/
theorem split_plain {dep dep' : Int} {es es' : List En} {e low high : En} (h : mayB dep es = true) (hs : splitO dep es e low high = .ok (dep', es')) :
    ∃ pre x post g lo hi, Parted (spansX dep es) (spansX dep' es') e low high pre x post g lo hi ∧ mayB dep' es' = true ∧ ∀ y ∈ es', y ∈ es ∨ y = low ∨ y = high := by
  unfold splitO at hs
  split at hs
  · cases hs
  rename_i s hfs
  obtain ⟨pre, r, post, h1, rfl, h3, h4⟩ := find_map hfs
  have hrm : r ∈ runs es := by rw [h1]; simp
  by_cases c1 : (okEnt low.1 low.2 && okEnt high.1 high.2 && !decide (low.1 = high.1)) = false
  · rw [if_pos c1] at hs; cases hs
  rw [if_neg c1] at hs
  by_cases c2 : es.all (apartB low high) = false
  · rw [if_pos c2] at hs; cases hs
  rw [if_neg c2] at hs
  simp only [Bool.not_eq_false, Bool.and_eq_true, Bool.not_eq_true', decide_eq_false_iff_not] at c1 c2
  obtain ⟨⟨k1, k2⟩, k3⟩ := c1
  have hno := not_in h h1
  by_cases c3 : (rc dep r).many = 1
  · rw [if_pos c3] at hs
    have c3 : r.many = 1 := by have : ((r.many : Nat) : Int) = 1 := c3; omega
    by_cases c4 : dep < 5
    · rw [if_pos c4] at hs
      have hm2 := may_dbl h c4
      have hr2 : runs (dbl es) = pre.map R2 ++ R2 r :: post.map R2 := by rw [runs_dbl, h1, List.map_append, List.map_cons]
      have hf2 : ((runs (dbl es)).map (rc (dep + 1))).find? (fun x => decide (x.e = e)) = some (rc (dep + 1) (R2 r)) := by
        rw [hr2]
        exact map_find (fun y hy => by obtain ⟨z, hz, rfl⟩ := List.mem_map.1 hy; exact h4 z hz) h3
      rw [hf2] at hs
      dsimp only at hs
      have hal2 : (dbl es).all (apartB low high) = true := by
        rw [List.all_eq_true]
        intro x hx
        obtain ⟨y, hy, hxy⟩ := List.mem_flatMap.1 hx
        have : x = y := by simpa using hxy
        subst this
        exact List.all_eq_true.1 c2 _ hy
      obtain ⟨g1, g2, g3, g4⟩ := core hm2 hr2 (half := 1) (by show 2 * r.many = 2 * 1; omega) (Nat.le_refl _) k1 k2 k3 hal2
      have e1 : (rc (dep + 1) (R2 r)).at_.toNat = (R2 r).at_ := rfl
      have e2 : (rc (dep + 1) (R2 r)).many.toNat / 2 = 1 := by show 2 * r.many / 2 = 1; omega
      rw [e1, e2] at hs
      injection hs with hs
      injection hs with hs1 hs2
      subst hs1 hs2
      have hm1 : ∀ y ∈ runs es, rc (dep + 1) (R2 y) = ⟨y.e, (rc dep y).dep, (rc dep y).pre, 2 * (y.at_ : Int), 2 * (y.many : Int)⟩ := fun y hy => rc_R2 dep (runs_mem hy).1
      have hmr := hm1 r hrm
      rw [hmr] at g3 g4
      refine ⟨pre.map (rc dep), rc dep r, post.map (rc dep), fun y => ⟨y.e, y.dep, y.pre, 2 * y.at_, 2 * y.many⟩, rc (dep + 1) ⟨(R2 r).at_, 1, low⟩, rc (dep + 1) ⟨(R2 r).at_ + 1, 1, high⟩, ⟨fun y => ⟨rfl, rfl, rfl⟩, by unfold spansX; rw [if_pos h, h1, List.map_append, List.map_cons], ?_, h3, ?_, rfl, rfl, ?_, ?_, ?_, ?_, ?_⟩, g2, ?_⟩
      rotate_left 1
      · unfold spansX
        rw [if_pos g2, g1, List.map_append, List.map_cons, List.map_cons, List.map_map, List.map_map, List.map_map, List.map_map]
        congr 1
        · apply List.map_congr_left
          intro y hy
          exact hm1 y (by rw [h1]; simp [hy])
        · congr 2
          apply List.map_congr_left
          intro y hy
          exact hm1 y (by rw [h1]; simp [hy])
      · rw [g3]
      · rw [g4]
      · rw [g3]
      · rw [g4]
      · intro y hy
        rw [← List.map_append] at hy
        obtain ⟨z, hz, rfl⟩ := List.mem_map.1 hy
        exact hno z hz
      · intro y hy
        rcases spl_mem _ _ _ _ _ _ _ hy with hy | hy
        · obtain ⟨z, hz, hxy⟩ := List.mem_flatMap.1 hy
          have : y = z := by simpa using hxy
          subst this
          exact .inl hz
        · exact .inr hy
      · intro y hy
        obtain ⟨z, hz, rfl⟩ := List.mem_map.1 hy
        exact h4 z hz
    · rw [if_neg c4] at hs; cases hs
  · rw [if_neg c3] at hs
    have c3 : r.many ≠ 1 := fun hh => c3 (by show ((r.many : Nat) : Int) = 1; omega)
    obtain ⟨v1, v2⟩ := even_many h hrm c3
    obtain ⟨g1, g2, g3, g4⟩ := core h h1 v1 v2 k1 k2 k3 c2
    have e1 : (rc dep r).at_.toNat = r.at_ := rfl
    have e2 : (rc dep r).many.toNat / 2 = r.many / 2 := rfl
    rw [e1, e2] at hs
    injection hs with hs
    injection hs with hs1 hs2
    subst hs1 hs2
    refine ⟨pre.map (rc dep), rc dep r, post.map (rc dep), id, rc dep ⟨r.at_, r.many / 2, low⟩, rc dep ⟨r.at_ + r.many / 2, r.many / 2, high⟩, ⟨fun y => ⟨rfl, rfl, rfl⟩, by unfold spansX; rw [if_pos h, h1, List.map_append, List.map_cons], ?_, h3, ?_, rfl, rfl, ?_, ?_, ?_, ?_, ?_⟩, g2, ?_⟩
    rotate_left 1
    · unfold spansX
      rw [if_pos g2, g1, List.map_append, List.map_cons, List.map_cons, List.map_id, List.map_id]
    · rw [g3]
    · rw [g4]
    · rw [g3]
    · rw [g4]
    · intro y hy
      rw [← List.map_append] at hy
      obtain ⟨z, hz, rfl⟩ := List.mem_map.1 hy
      exact hno z hz
    · intro y hy
      exact spl_mem _ _ _ _ _ _ _ hy
    · intro y hy
      obtain ⟨z, hz, rfl⟩ := List.mem_map.1 hy
      exact h4 z hz
end Go.Proofs.Ytjlbnegdiabglaa
