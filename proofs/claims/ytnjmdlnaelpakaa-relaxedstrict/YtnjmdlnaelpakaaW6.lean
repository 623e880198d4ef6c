/- RelaxedStrict answers true for every input that can be read, and leaves the input as it was. Part 6. -/
import Derived.Test.YtnjmdlnaelpakaaW5
set_option linter.unusedVariables false
set_option linter.unusedSimpArgs false
set_option linter.unusedVariables false
set_option linter.unusedSimpArgs false
namespace Go.Proofs.P7
open Go Go.Sx Go.RowKit
structure CsrQ (c : Csr) : Prop extends CsrP c where
  capb : ∀ a, a < c.Head.length → c.Back.getD a false = true → c.Cap.getD a 0 = 0
  noself : ∀ a : Nat, a < c.Head.length → tailOf c a ≠ c.Head.getD a 0
theorem make_q {n : Net} (h : Small n) : CsrQ (makeC n) where
  toCsrP := make_p h
  capb := fun a ha hb => by
    rw [make_head] at ha
    have hb' : ((rows n).map Row.back).getD a false = true := hb
    rw [getD_back] at hb'
    show ((rows n).map Row.cap).getD a 0 = 0
    rw [getD_cap]
    obtain ⟨k, hk, hne, hc⟩ := row_cases h.toNetOK ha
    rcases hc with e | e <;> rw [e] at hb' ⊢
    cases hb'
  noself := fun a ha => by
    rw [make_head] at ha
    rw [tail_end h ha]
    show _ ≠ ((rows n).map Row.hd).getD a 0
    rw [getD_hd]
    obtain ⟨k, hk, hne, hc⟩ := row_cases h.toNetOK ha
    rcases hc with e | e <;> rw [e] <;> simp [endOf, Row.key] <;> simp [List.getD] at hne <;> first | exact hne | exact fun q => hne q.symm
structure BegS (c : Csr) (k : Nat) : Prop where
  pairs : pairsP c (begK c k).Res
  ex : ∀ v : Nat, v < c.N.toNat → (begK c k).Ex.getD v 0 = exOf c (begK c k).Res v
  pos : ∀ v : Nat, v < c.N.toNat → (v : Int) ≠ c.S → 0 ≤ (begK c k).Ex.getD v 0
  hh : (begK c k).H = (begK c 0).H
  full : ∀ a : Nat, a < c.Head.length → tailOf c a = c.S → (a : Int) < c.First.getD c.S.toNat 0 + k → (begK c k).Res.getD a 0 = 0
theorem exK_zero {c : Csr} (hb : ∀ a, a < c.Head.length → c.Back.getD a false = true → c.Cap.getD a 0 = 0) (v : Int) : ∀ k, k ≤ c.Head.length → exK c c.Cap k v = 0
  | 0, _ => rfl
  | k + 1, hk => by
    simp only [exK]
    rw [exK_zero hb v k (by omega)]
    by_cases q : c.Back.getD k false = true
    · rw [if_pos q, hb k (by omega) q]; split <;> split <;> rfl
    · rw [if_neg q]; rfl
theorem beg_step {c : Csr} (h : CsrQ c) {k : Nat} (hk : k < manyOf c c.S) (hI : BegS c k) : MoveIn c (begK c k) (c.First.getD c.S.toNat 0 + k) ((begK c k).Res.getD (c.First.getD c.S.toNat 0 + k).toNat 0) ∧ BegS c (k + 1) := by
  have hn := h.n
  have hS := h.s
  have hl := begK_len h.toCsrLen k
  obtain ⟨t1, t2, t3⟩ := many_arc h.toCsrT hS hk
  obtain ⟨A, hA⟩ : ∃ A : Nat, c.First.getD c.S.toNat 0 + (k : Int) = (A : Int) := ⟨_, (Int.toNat_of_nonneg t1).symm⟩
  rw [hA] at t1 t2 t3
  have hAl : A < c.Head.length := by omega
  have hr := h.rv A hAl
  have hne := h.rne A hAl
  have hrr := h.rrv A hAl
  have htl := h.rtl A hAl
  have hns := h.noself A hAl
  have hd1 := h.hd A hAl
  have hpr := hI.pairs A hAl
  have hpr2 := hI.pairs (c.Rev.getD A 0).toNat (by omega)
  have hcv := h.capv A hAl
  have hcv2 := h.capv (c.Rev.getD A 0).toNat (by omega)
  have hl1 := hl.res
  have hl2 := hl.ex
  have hex : ∀ v : Nat, v < c.N.toNat → -2305843009213693952 ≤ (begK c k).Ex.getD v 0 ∧ (begK c k).Ex.getD v 0 ≤ 2305843009213693952 := fun v hv => by
    rw [hI.ex v hv]
    exact exK_in h.toCsrT (fun a ha => ⟨(hI.pairs a ha).1, (hI.pairs a ha).2.1⟩) (Nat.le_refl _) v
  have hxS := hex c.S.toNat (by omega)
  have hxH := hex (c.Head.getD A 0).toNat (by omega)
  rw [t3] at htl hns
  rw [hA, Int.toNat_natCast]
  have hres : ∀ b : Nat, (moveP c (begK c k) A ((begK c k).Res.getD A 0)).Res.getD b 0 = (begK c k).Res.getD b 0 + (if (c.Rev.getD A 0).toNat = b then (begK c k).Res.getD A 0 else 0) - (if A = b then (begK c k).Res.getD A 0 else 0) := fun b => by
    unfold moveP addAt subAt
    dsimp only
    rw [Int.toNat_natCast, show ∀ A d : Int, A - d = A + -d from fun A d => by omega, two_set (by omega) (by omega)]
    split <;> split <;> omega
  have hexm : ∀ v : Nat, v < c.N.toNat → (moveP c (begK c k) A ((begK c k).Res.getD A 0)).Ex.getD v 0 = (begK c k).Ex.getD v 0 - (if c.S = (v : Int) then (begK c k).Res.getD A 0 else 0) + (if c.Head.getD A 0 = (v : Int) then (begK c k).Res.getD A 0 else 0) := fun v hv => by
    unfold moveP addAt subAt
    dsimp only
    rw [Int.toNat_natCast, ← htl, show ∀ A d : Int, A - d = A + -d from fun A d => by omega, two_set (by omega) (by omega)]
    have e1 : (c.S.toNat = v) ↔ (c.S = (v : Int)) := by omega
    have e2 : ((c.Head.getD A 0).toNat = v) ↔ (c.Head.getD A 0 = (v : Int)) := by omega
    simp only [e1, e2]
    split <;> split <;> omega
  have hbk : begK c (k + 1) = moveP c (begK c k) A ((begK c k).Res.getD A 0) := by
    show moveP c (begK c k) (c.First.getD c.S.toNat 0 + k) ((begK c k).Res.getD (c.First.getD c.S.toNat 0 + k).toNat 0) = _
    rw [hA, Int.toNat_natCast]
  constructor
  · refine ⟨?_, ?_, ?_, ?_⟩
    · unfold In1; rw [Int.toNat_natCast]; omega
    · unfold In1 subAt; rw [Int.toNat_natCast]
      rcases getD_set_le (begK c k).Res A (c.Rev.getD A 0).toNat ((begK c k).Res.getD A 0 - (begK c k).Res.getD A 0) with e | e <;> rw [e] <;> omega
    · unfold In1; rw [Int.toNat_natCast, ← htl]; omega
    · unfold In1 subAt; rw [Int.toNat_natCast, ← htl]
      rcases getD_set_le (begK c k).Ex c.S.toNat (c.Head.getD A 0).toNat ((begK c k).Ex.getD c.S.toNat 0 - (begK c k).Res.getD A 0) with e | e <;> rw [e] <;> omega
  · refine ⟨fun b hb => ?_, fun v hv => ?_, fun v hv hvS => ?_, ?_, fun b hb hbt hlt => ?_⟩
    · rw [hbk]
      have hq := hI.pairs b hb
      have hrb := h.rrv b hb
      have hrvb := h.rv b hb
      have hmr := most_rev h.toCsrG hAl
      rw [hres, hres]
      by_cases h1 : (c.Rev.getD A 0).toNat = b
      · have hb2 : (c.Rev.getD b 0).toNat = A := by rw [← h1, hrr, Int.toNat_natCast]
        rw [h1] at hmr
        rw [hb2] at hq ⊢
        rw [if_pos h1, if_neg (show ¬ A = b by omega), if_neg hne, if_pos rfl]
        omega
      · by_cases h2 : A = b
        · subst h2
          rw [if_neg hne, if_pos rfl, if_pos rfl, if_neg (Ne.symm hne)]
          omega
        · rw [if_neg h1, if_neg h2, if_neg (fun q => ?_), if_neg (fun q => ?_)]
          · omega
          · rw [← q] at hrb; exact h1 (by omega)
          · rw [← q, hrr] at hrb; omega
    · rw [hbk, hexm v hv]
      have := ex_push h.toCsrG hl1 (a := (A : Int)) ⟨t1, t2⟩ ((begK c k).Res.getD A 0) (v : Int)
      have hR : (moveP c (begK c k) A ((begK c k).Res.getD A 0)).Res = addAt (subAt (begK c k).Res A ((begK c k).Res.getD A 0)) (c.Rev.getD ((A : Int)).toNat 0) ((begK c k).Res.getD A 0) := rfl
      rw [hR, this, t3, Int.toNat_natCast, ← hI.ex v hv]
    · rw [hbk, hexm v hv, if_neg (fun q => hvS q.symm)]
      have := hI.pos v hv hvS
      split <;> omega
    · rw [hbk]; exact hI.hh
    · rw [hbk, hres]
      have hrb : (c.Rev.getD A 0).toNat ≠ b := fun q => by
        have := h.rtl b hb
        rw [hbt, ← q, hrr, Int.toNat_natCast] at this
        exact hns this
      rw [if_neg hrb]
      by_cases h2 : A = b
      · subst h2; rw [if_pos rfl]; omega
      · rw [if_neg h2]
        have := hI.full b hb hbt (by omega)
        omega
theorem beg_all {c : Csr} (h : CsrQ c) : ∀ k, k ≤ manyOf c c.S → BegS c k
  | 0, _ => by
    have hn := h.n
    have hx0 : ∀ v : Nat, v < c.N.toNat → (begK c 0).Ex.getD v 0 = 0 := fun v hv => by simp [begK, List.getD, hv]
    refine ⟨fun a ha => ?_, fun v hv => ?_, fun v hv _ => by rw [hx0 v hv]; omega, rfl, fun a ha ht hlt => ?_⟩
    · have h1 := h.cp a ha
      have hr := h.rv a ha
      have h2 := h.cp (c.Rev.getD a 0).toNat (by omega)
      have hm : mostOf c a = c.Cap.getD a 0 + c.Cap.getD (c.Rev.getD a 0).toNat 0 := rfl
      show 0 ≤ c.Cap.getD a 0 ∧ c.Cap.getD a 0 ≤ mostOf c a ∧ c.Cap.getD (c.Rev.getD a 0).toNat 0 = mostOf c a - c.Cap.getD a 0
      omega
    · rw [hx0 v hv]; exact (exK_zero h.capb v _ (Nat.le_refl _)).symm
    · exfalso
      have hS := h.s
      obtain ⟨j, j1, j2⟩ := arc_many h.toCsrT ha ht
      omega
  | k + 1, hk => (beg_step h (by omega) (beg_all h k (by omega))).2
theorem beg_in_all {c : Csr} (h : CsrQ c) : BegIn c := fun k hk => (beg_step h hk (beg_all h k (by have : manyOf c c.S = (c.First.getD (c.S + 1).toNat 0 - c.First.getD c.S.toNat 0).toNat := rfl; omega))).1
/-- The first state may be. -/
theorem beg_ref {c : Csr} (h : CsrQ c) : refR c (begC c) := by
  have hn := h.n
  have hS := h.s
  have hT := h.t
  have hst := h.st
  have hI : BegS c (manyOf c c.S) := beg_all h _ (Nat.le_refl _)
  have hl := begK_len h.toCsrLen (manyOf c c.S)
  have hbc : begC c = begK c (manyOf c c.S) := rfl
  rw [hbc]
  have hH : ∀ v : Nat, v < c.N.toNat → (begK c (manyOf c c.S)).H.getD v 0 = if c.S.toNat = v then c.N else 0 := fun v hv => by
    rw [hI.hh]
    show ((List.replicate c.N.toNat (0 : Int)).set c.S.toNat c.N).getD v 0 = _
    rw [getD_set _ _ _ _ (by simp; omega)]
    split
    · rfl
    · simp [List.getD, hv]
  refine (refR_iff h.toCsrG _).2 ⟨⟨⟨hl.res, hl.ex, hl.h⟩, ⟨fun v hv => ?_, ?_, ?_⟩, hI.pairs, fun v hv => ⟨hI.ex v hv, hI.pos v hv⟩⟩, fun v hv => ?_, fun a ha hs => ?_⟩
  · rw [hH v hv]; split <;> omega
  · rw [hH _ (by omega), if_pos rfl]
  · rw [hH _ (by omega), if_neg (by omega)]
  · rw [hH v hv]; split <;> omega
  · obtain ⟨s1, s2⟩ := hs
    rw [Int.toNat_natCast] at s1 s2
    obtain ⟨v, hv, -, ht, -⟩ := h.toCsrT.tail_at (a := (a : Int)) (by omega) (by omega)
    have hd := h.hd a ha
    by_cases q : tailOf c (a : Int) = c.S
    · obtain ⟨j, j1, j2⟩ := arc_many h.toCsrT ha q
      have := hI.full a ha q (by omega)
      omega
    · rw [hH _ (by omega), hH _ (by omega), if_neg (by omega)] at s2
      split at s2 <;> omega
end Go.Proofs.P7

set_option linter.unusedVariables false
set_option linter.unusedSimpArgs false
namespace Go.Proofs.P7
open Go Go.Sx Go.RowKit
theorem selK_mem {q : Int → Bool} {x : Int} : ∀ {k : Nat}, x ∈ selK q k → (0 ≤ x ∧ x < k) ∧ q x = true
  | 0, h => by simp [selK] at h
  | k + 1, h => by
    by_cases hq : q k = true
    · rw [selK_one hq, List.mem_append] at h
      rcases h with h | h
      · have := selK_mem h; exact ⟨by omega, this.2⟩
      · rw [List.mem_singleton] at h; subst h; exact ⟨by omega, hq⟩
    · rw [selK_none hq] at h
      have := selK_mem h; exact ⟨by omega, this.2⟩
theorem push_at {c : Csr} {p : Pre} {i : Nat} (h : i < (pushL c p).length) : (0 ≤ (pushL c p).getD i 0 ∧ (pushL c p).getD i 0 < c.Head.length) ∧ pushesP c p ((pushL c p).getD i 0) := by
  have := selK_mem (getD_mem 0 h)
  exact ⟨this.1, of_decide_eq_true this.2⟩
theorem stuck_at {c : Csr} (hn : 0 ≤ c.N) {p : Pre} {i : Nat} (h : i < (stuckL c p).length) : (0 ≤ (stuckL c p).getD i 0 ∧ (stuckL c p).getD i 0 < c.N) ∧ stuckP c p ((stuckL c p).getD i 0) := by
  have := selK_mem (getD_mem 0 h)
  unfold stuckL
  exact ⟨by omega, of_decide_eq_true this.2⟩
theorem wrap_small {x : Int} (h : 0 ≤ x ∧ x < 9223372036854775808) : IntKind.i64.wrap x = x := by
  exact in64 (by omega) (by omega)
theorem step_push {c : Csr} (h : CsrG c) {p : Pre} (hp : refR c p) {a : Int} (ha : 0 ≤ a ∧ a < c.Head.length) (hq : pushesP c p a) : refR c (pushR c p a).1 := by
  unfold pushR; rw [if_pos ha, if_pos hq]; exact push_right h hp ha hq
theorem step_lift {c : Csr} (h : CsrG c) {p : Pre} (hp : refR c p) {u : Int} (hu : 0 ≤ u ∧ u < c.N) (hq : stuckP c p u) : refR c (liftR c p u).1 := by
  unfold liftR; rw [if_pos hu, if_pos hq]; exact lift_right h hp hu hq
theorem walk_push {c : Csr} (h : CsrG c) {p : Pre} (hp : refR c p) {i : Nat} (hi : i < (pushL c p).length) : refR c (pushR c p ((pushL c p).getD i 0)).1 := step_push h hp (push_at hi).1 (push_at hi).2
theorem walk_lift {c : Csr} (h : CsrG c) {p : Pre} (hp : refR c p) {i : Nat} (hi : i < (stuckL c p).length) : refR c (liftR c p ((stuckL c p).getD i 0)).1 := step_lift h hp (stuck_at (by have := h.n; omega) hi).1 (stuck_at (by have := h.n; omega) hi).2
end Go.Proofs.P7

set_option linter.unusedVariables false
set_option linter.unusedSimpArgs false
namespace Go.Proofs.P7
open Go Go.Sx Go.RowKit
theorem least_low {c : Csr} {p : Pre} {a0 m : Int} (hm : ∀ v, p.H.getD v 0 < m) : ∀ k : Nat, ((leastK c p a0 k).2 = true → lowL c p a0 m k = (leastK c p a0 k).1) ∧ ((leastK c p a0 k).2 = false → lowL c p a0 m k = m)
  | 0 => ⟨fun h => by simp [leastK] at h, fun _ => rfl⟩
  | k + 1 => by
    have ih := least_low (c := c) (a0 := a0) hm k
    have hv := hm (c.Head.getD (a0 + k).toNat 0).toNat
    unfold leastK lowL
    by_cases hr : p.Res.getD (a0 + k).toNat 0 > 0
    · cases hb : (leastK c p a0 k).2 with
      | true =>
        have e := ih.1 hb
        rw [if_pos hr, e]
        by_cases hlt : p.H.getD (c.Head.getD (a0 + k).toNat 0).toNat 0 < (leastK c p a0 k).1
        · rw [if_pos ⟨hr, .inr hlt⟩, if_pos hlt]
          exact ⟨fun _ => rfl, fun h => by cases h⟩
        · rw [if_neg (fun w => w.2.elim (fun q => q rfl) hlt), if_neg hlt]
          exact ⟨fun _ => rfl, fun h => by rw [hb] at h; cases h⟩
      | false =>
        have e := ih.2 hb
        rw [if_pos hr, e, if_pos hv, if_pos ⟨hr, .inl (by simp)⟩]
        exact ⟨fun _ => rfl, fun h => by cases h⟩
    · rw [if_neg hr, if_neg (fun q => hr q.1)]
      exact ih
theorem least_some {c : Csr} {p : Pre} {a0 m : Int} (hm : ∀ v, p.H.getD v 0 < m) {k : Nat} (h : lowL c p a0 m k < m) : (leastK c p a0 k).2 = true := by
  cases hb : (leastK c p a0 k).2 with
  | true => rfl
  | false => have := (least_low hm k).2 hb; omega
theorem high_all {c : Csr} (h : CsrG c) {p : Pre} (hp : refR c p) (v : Nat) : p.H.getD v 0 < 2 * c.N := by
  have hn := h.n
  rcases Nat.lt_or_ge v c.N.toNat with hv | hv
  · have g := hp.1.1.2 v hv; unfold okV at g; omega
  · have hl := (refR_in h hp).h
    have e : p.H.getD v 0 = 0 := by simp [List.getD, List.getElem?_eq_none (show p.H.length ≤ v by omega)]
    omega
/-- A strict move of a state that may be comes to one. -/
theorem strict_right {c : Csr} (h : CsrG c) {p : Pre} (hp : refR c p) {e : Event} (hs : strictP c p e) : refR c (doesP c p e) := by
  obtain ⟨hl, hs⟩ := hs
  obtain ⟨hw, hu0, hu1, hus, hut⟩ := legal_u hl
  by_cases h1 : e.what = 1
  · rw [if_pos h1] at hs
    obtain ⟨q1, q2, q3, q4, q5, -⟩ := legal_push hl (by omega)
    obtain ⟨a1, a2, a3⟩ := tail_of_arc h.toCsrT ⟨hu0, hu1⟩ q1 q2
    have hq : pushesP c p e.arc := ⟨⟨by rw [a3]; exact ⟨hus, hut⟩, by rw [a3]; omega⟩, by omega, by rw [a3]; omega⟩
    have hd : pushD c p e.arc = e.d := by unfold pushD; rw [a3]; exact hs.2.symm
    have hmv : doesP c p e = moveP c p e.arc (pushD c p e.arc) := by
      have htl := G_tail h ⟨a1, a2⟩
      unfold doesP moveP
      rw [if_neg (by omega), hd, ← htl, a3]
    rw [hmv]; exact push_right h hp ⟨a1, a2⟩ hq
  · rw [if_neg h1] at hs
    have hm := high_all h hp
    have hlow := (least_low (c := c) (a0 := c.First.getD e.u.toNat 0) hm (manyOf c e.u)).1 hs.1
    have hst : stuckP c p e.u := by
      refine ⟨fun j hj hadm => ?_, ⟨hus, hut⟩, hs.2.1⟩
      have := lowL_le (c := c) (p := p) (a0 := c.First.getD e.u.toNat 0) (m := 2 * c.N) hj hadm.1
      have hadm2 := hadm.2
      have e1 : leastOf c p e.u = leastK c p (c.First.getD e.u.toNat 0) (manyOf c e.u) := rfl
      rw [e1] at hs
      omega
    have hdo : doesP c p e = ⟨p.Res, p.Ex, p.H.set e.u.toNat (leastL c p e.u + 1)⟩ := by
      unfold doesP leastL
      rw [if_pos (by omega), hlow, hs.2.2.2]; rfl
    rw [hdo]; exact lift_right h hp ⟨hu0, hu1⟩ hst
def pushEv (c : Csr) (p : Pre) (a : Int) : Event := ⟨0, 1, tailOf c a, a, (pushR c p a).2.1, p.H.getD (tailOf c a).toNat 0, p.H.getD (tailOf c a).toNat 0 - 1⟩
def liftEv (c : Csr) (p : Pre) (u : Int) : Event := ⟨0, 2, u, 0, 0, (liftR c p u).1.H.getD u.toNat 0, 0⟩
theorem push_strict {c : Csr} (h : CsrG c) {p : Pre} (hp : refR c p) {a : Int} (ha : 0 ≤ a ∧ a < c.Head.length) (hq : pushesP c p a) : strictP c p (pushEv c p a) ∧ doesP c p (pushEv c p a) = (pushR c p a).1 := by
  have hq' := hq
  obtain ⟨⟨⟨q1, q2⟩, q3⟩, q4, q5⟩ := hq'
  have htl := G_tail h ha
  obtain ⟨v, hv, ⟨t1, t2⟩, t3, -⟩ := h.toCsrT.tail_at ha.1 ha.2
  have e1 : pushR c p a = (moveP c p a (pushD c p a), pushD c p a, 0) := by unfold pushR; rw [if_pos ha, if_pos hq]
  have hd : 1 ≤ pushD c p a ∧ pushD c p a ≤ p.Res.getD a.toNat 0 ∧ pushD c p a ≤ p.Ex.getD (tailOf c a).toNat 0 := by unfold pushD; split <;> omega
  have hlegal : legalE c p (pushEv c p a) = 0 := by
    unfold legalE pushEv
    dsimp only
    rw [e1, if_neg (by omega), if_neg (by omega)]
    unfold pushE
    dsimp only
    rw [t3, Int.toNat_natCast, show ((v : Int) + 1).toNat = v + 1 by omega]
    rw [t3, Int.toNat_natCast] at hd
    rw [if_neg (by omega), if_neg (by omega)]
  refine ⟨⟨hlegal, ?_⟩, ?_⟩
  · unfold pushEv
    dsimp only
    rw [if_pos rfl]
    refine ⟨by omega, ?_⟩
    rw [e1]; rfl
  · rw [e1]
    unfold doesP pushEv moveP
    dsimp only
    rw [if_neg (by decide), e1, ← htl]
theorem lift_strict {c : Csr} (h : CsrG c) {p : Pre} (hp : refR c p) {u : Int} (hu : 0 ≤ u ∧ u < c.N) (hs : stuckP c p u) : strictP c p (liftEv c p u) ∧ doesP c p (liftEv c p u) = (liftR c p u).1 := by
  have h1 := lift_high h hp hu hs
  have h2 := lift_low h hp hu hs
  have hm := high_all h hp
  have hn := h.n
  have hl3 := (refR_in h hp).h
  have hlo := hs.2.1
  have e1 : liftR c p u = (⟨p.Res, p.Ex, p.H.set u.toNat (leastL c p u + 1)⟩, 0) := by unfold liftR; rw [if_pos hu, if_pos hs]
  have hH : (liftR c p u).1.H.getD u.toNat 0 = leastL c p u + 1 := by rw [e1]; simp [List.getD, show u.toNat < p.H.length by omega]
  have hsome : (leastK c p (c.First.getD u.toNat 0) (manyOf c u)).2 = true := least_some hm (by unfold leastL at h2; omega)
  have hlow : leastL c p u = (leastOf c p u).1 := (least_low hm (manyOf c u)).1 hsome
  have hlegal : legalE c p (liftEv c p u) = 0 := by
    unfold legalE liftEv
    dsimp only
    rw [if_neg (by omega), if_pos rfl]
    unfold liftE
    dsimp only
    rw [hH, if_neg (by omega)]
  refine ⟨⟨hlegal, ?_⟩, ?_⟩
  · unfold liftEv
    dsimp only
    rw [if_neg (by decide)]
    exact ⟨hsome, hs.2.2, by omega, by rw [hH, hlow]⟩
  · unfold doesP liftEv
    dsimp only
    rw [if_pos rfl, hH, e1]
end Go.Proofs.P7

set_option linter.unusedVariables false
set_option linter.unusedSimpArgs false
namespace Go.Proofs.P7
open Go Go.Sx Go.RowKit
theorem tmod_in {x n : Int} (hx : 0 ≤ x) (hn : 0 < n) : 0 ≤ x.tmod n ∧ x.tmod n < n := by
  rw [Int.tmod_eq_emod_of_nonneg hx]
  exact ⟨Int.emod_nonneg _ (by omega), Int.emod_lt_of_pos _ hn⟩
theorem push_ok {c : Csr} {p : Pre} {i : Nat} (h : i < (pushL c p).length) : (pushR c p ((pushL c p).getD i 0)).2.2 = 0 := by
  obtain ⟨h1, h2⟩ := push_at h
  unfold pushR; rw [if_pos h1, if_pos h2]
theorem lift_ok {c : Csr} (hn : 0 ≤ c.N) {p : Pre} {i : Nat} (h : i < (stuckL c p).length) : (liftR c p ((stuckL c p).getD i 0)).2 = 0 := by
  obtain ⟨h1, h2⟩ := stuck_at hn h
  unfold liftR; rw [if_pos h1, if_pos h2]
def caseP (c : Csr) (p : Pre) (e : Event) (z : Pre) : Prop := strictP c p e ∧ doesP c p e = z ∧ EvIn e ∧ refR c z
theorem push_case {c : Csr} (h : CsrQ c) {p : Pre} (hp : refR c p) {k : Nat} (hk : k < (pushL c p).length) {j : Nat} (hjN : j < c.N.toNat) (hj1 : c.First.getD j 0 ≤ (pushL c p).getD k 0) (hj2 : ¬ ((j : Int) + 1 < c.N ∧ c.First.getD (j + 1) 0 ≤ (pushL c p).getD k 0)) :
    caseP c p ⟨0, 1, (j : Int), (pushL c p).getD k 0, (pushR c p ((pushL c p).getD k 0)).2.1, p.H.getD j 0, p.H.getD j 0 - 1⟩ (pushR c p ((pushL c p).getD k 0)).1 := by
  obtain ⟨ha, hq⟩ := push_at (c := c) (p := p) hk
  have hr := walk_push h.toCsrG hp hk
  generalize (pushL c p).getD k 0 = a at ha hq hr hj1 hj2 ⊢
  have hn := h.n
  have hfN := h.fN
  have hlt : a < c.First.getD (j + 1) 0 := by
    rcases Int.lt_or_le ((j : Int) + 1) c.N with q | q
    · have : ¬ c.First.getD (j + 1) 0 ≤ a := fun w => hj2 ⟨q, w⟩
      omega
    · rw [show j + 1 = c.N.toNat by omega, hfN]; exact ha.2
  have ht := (tail_of_arc h.toCsrT (u := (j : Int)) (a := a) (by omega) (by rw [Int.toNat_natCast]; exact hj1) (by rw [Int.toNat_natCast]; exact hlt)).2.2
  obtain ⟨s1, s2⟩ := push_strict h.toCsrG hp ha hq
  have he : pushEv c p a = ⟨0, 1, (j : Int), a, (pushR c p a).2.1, p.H.getD j 0, p.H.getD j 0 - 1⟩ := by
    unfold pushEv; rw [ht, Int.toNat_natCast]
  rw [he] at s1 s2
  have hin := refR_in h.toCsrG hp
  have hhi := hin.hi j
  have hsm := h.small
  have hd : (pushR c p a).2.1 = pushD c p a := by unfold pushR; rw [if_pos ha, if_pos hq]
  have hxb := ex_bound h.toCsrG hp (tailOf c a).toNat
  have hd2 : 1 ≤ pushD c p a ∧ pushD c p a ≤ p.Ex.getD (tailOf c a).toNat 0 := by
    obtain ⟨⟨⟨q1, q2⟩, q3⟩, q4, q5⟩ := hq
    unfold pushD; split <;> omega
  exact ⟨s1, s2, ⟨by unfold In64; dsimp only; omega, by unfold In64; dsimp only; omega, by unfold In64; dsimp only; omega, by unfold In64; dsimp only; omega, by unfold In64; dsimp only; omega⟩, hr⟩
theorem lift_case {c : Csr} (h : CsrQ c) {p : Pre} (hp : refR c p) {k : Nat} (hk : k < (stuckL c p).length) :
    caseP c p ⟨0, 2, (stuckL c p).getD k 0, 0, 0, (liftR c p ((stuckL c p).getD k 0)).1.H.getD ((stuckL c p).getD k 0).toNat 0, 0⟩ (liftR c p ((stuckL c p).getD k 0)).1 := by
  have hn := h.n
  obtain ⟨hu, hs⟩ := stuck_at (c := c) (p := p) (by omega) hk
  have hr := walk_lift h.toCsrG hp hk
  generalize (stuckL c p).getD k 0 = u at hu hs hr ⊢
  obtain ⟨s1, s2⟩ := lift_strict h.toCsrG hp hu hs
  have hhi := (refR_in h.toCsrG hr).hi u.toNat
  exact ⟨s1, s2, ⟨by unfold In64; dsimp only; omega, by unfold In64; dsimp only; omega, by unfold In64; dsimp only; omega, by unfold In64; dsimp only; omega, by unfold In64; dsimp only; omega⟩, hr⟩
theorem case_move {c : Csr} {p : Pre} {e : Event} {z : Pre} (h : caseP c p e z) : moveE c p e = (z, 0) := by
  unfold moveE; rw [if_pos h.1.1, h.2.1]
theorem strict_no {c : Csr} (h : CsrQ c) {p : Pre} (hp : refR c p) (e : Event) : ¬ (strictP c p e ∧ (¬ (moveE c p e).2 = 0 ∨ ¬ preR c (moveE c p e).1)) := fun q => by
  have hm : moveE c p e = (doesP c p e, 0) := by unfold moveE; rw [if_pos q.1.1]
  rw [hm] at q
  rcases q.2 with q2 | q2
  · exact q2 rfl
  · exact q2 ((preR_iff h.toCsrP _).2 (strict_right h.toCsrG hp q.1))
end Go.Proofs.P7

set_option linter.unusedVariables false
namespace Go.Proofs
open Go Go.Sx Go.RowKit
set_option maxHeartbeats 8000000 in
set_option synthInstance.maxHeartbeats 400000 in
set_option synthInstance.maxSize 2000 in
theorem t_rStrictLaw (n : Net) (hn : In64 n.N ∧ In64 n.S ∧ In64 n.T) (hna : ∀ a ∈ n.arcs, In64 a.frm ∧ In64 a.to ∧ In64 a.cap) (hnl : n.arcs.length ≤ 9223372036854775807) (l : List Act) (hl : ∀ x ∈ l, EvIn x.e) (hll : l.length ≤ 9223372036854775807) (mv : List Int) (hwl : mv.length ≤ 9223372036854775807) (hwx : ∀ x ∈ mv, 0 ≤ x ∧ x < 65536) : Tri Try.prog 7 [.agg [.val (.int .i64 n.N), .val (.int .i64 n.S), .val (.int .i64 n.T), .slc 0 0 n.arcs.length none], .slc 1 0 mv.length none, .slc 2 0 l.length none] [SO.arcs false n.arcs, SO.ints false .u16 mv, SO.acts false l] (fun s H => s = .val (.bool true) ∧ H = [SO.arcs false n.arcs, SO.ints false .u16 mv, SO.acts false l]) := by
  refine tri_of_w (fn := Try.f7) Try.func7 rfl (by simp [Try.f7]) ?_
  intro ρ w hρ
  refine w_seq ?_
  refine w_region ?_
  refine rw_t 3 rfl rfl rfl (n_box_agg (n := 3) rfl rfl ?_)
  refine rw_t 6 rfl rfl rfl (do_assign rfl ?_)
  refine rw_nil ?_
  refine w_seq ?_
  have hsm : Small (someNet n 10 20) := some_small n (by omega) (by omega) (by decide) hn hna
  have hg := make_g hsm
  have hb := beg_right hsm
  have hcn : (makeC (someNet n 10 20)).N = (someNet n 10 20).N := rfl
  have hhl := hg.small
  have hN := hg.n
  have hSS := hg.s
  have hTT := hg.t
  have hcq := P7.make_q hsm
  have hbe := P7.beg_ref hcq
  have hbR := ((P7.refR_iff hg _).1 hbe).1
  have hi64 := right_in64 hg.toCsrT hbR
  refine w_region ?_
  refine rw_t 30 rfl rfl rfl (n_load_boxagg [_, _, _, _] rfl rfl (Nat.le_of_ble_eq_true rfl) rfl ?_)
  refine rw_t 31 rfl rfl rfl (n_callN (X' := .agg [.val (.int .i64 ((someNet n 10 20).N)), .val (.int .i64 ((someNet n 10 20).S)), .val (.int .i64 ((someNet n 10 20).T)), .slc 4 0 ((someNet n 10 20).arcs.length) none]) (N' := [SO.arcs true ((someNet n 10 20).arcs)]) rfl rfl (t_Some (n := n) (va := 10) (ar := 20) (by omega) (by omega) (fun a ha => (hna a ha).2.2) (hnl)) [0] ⟨.inr ⟨_, rfl, srv⟩, trivial⟩ rfl rfl rfl rfl rfl ?_)
  refine rw_t 32 rfl rfl rfl (n_callN (X' := .tup [.agg [.val (.int .i64 ((makeC (someNet n 10 20)).N)), .val (.int .i64 ((makeC (someNet n 10 20)).S)), .val (.int .i64 ((makeC (someNet n 10 20)).T)), .slc 5 0 ((makeC (someNet n 10 20)).First.length) none, .slc 6 0 ((makeC (someNet n 10 20)).Head.length) none, .slc 7 0 ((makeC (someNet n 10 20)).Rev.length) none, .slc 8 0 ((makeC (someNet n 10 20)).Cap.length) none, .slc 9 0 ((makeC (someNet n 10 20)).Arc.length) none, .slc 10 0 ((makeC (someNet n 10 20)).Back.length) none], .agg [.slc 11 0 ((begP (someNet n 10 20)).Res.length) none, .slc 12 0 ((begP (someNet n 10 20)).Ex.length) none, .slc 13 0 ((begP (someNet n 10 20)).H.length) none]]) (N' := [SO.ints true .i64 ((makeC (someNet n 10 20)).First), SO.ints true .i64 ((makeC (someNet n 10 20)).Head), SO.ints true .i64 ((makeC (someNet n 10 20)).Rev), SO.ints true .i64 ((makeC (someNet n 10 20)).Cap), SO.ints true .i64 ((makeC (someNet n 10 20)).Arc), SO.bools true ((makeC (someNet n 10 20)).Back), SO.ints true .i64 ((begP (someNet n 10 20)).Res), SO.ints true .i64 ((begP (someNet n 10 20)).Ex), SO.ints true .i64 ((begP (someNet n 10 20)).H)]) rfl rfl (t_begun (n := (someNet n 10 20)) (hsm.toNetOK) (hsm.sz)) [4] ⟨.inr ⟨_, rfl, srv⟩, trivial⟩ rfl rfl rfl rfl rfl ?_)
  refine rw_t 29 rfl rfl rfl (do_move rfl ?_)
  refine rw_t 33 rfl rfl rfl (do_extract rfl rfl ?_)
  refine rw_t 34 rfl rfl rfl (do_extract rfl rfl ?_)
  refine rw_t 7 rfl rfl rfl (n_alloc (n := 14) rfl ?_)
  refine rw_t 8 rfl rfl rfl (n_alloc (n := 15) rfl ?_)
  refine rw_u rfl rfl (n_store_whole rfl rfl rfl rfl rfl rfl ?_)
  refine rw_u rfl rfl (n_store_whole rfl rfl rfl rfl rfl rfl ?_)
  refine rw_nil ?_
  refine w_seq ?_
  refine w_region ?_
  refine rw_t 35 rfl rfl rfl (n_load_boxagg [_, _, _, _, _, _, _, _, _] rfl rfl (Nat.le_of_ble_eq_true rfl) rfl ?_)
  refine rw_t 36 rfl rfl rfl (n_callN (X' := .agg [.slc 16 0 ((P7.begC (makeC (someNet n 10 20))).Res.length) none, .slc 17 0 ((P7.begC (makeC (someNet n 10 20))).Ex.length) none, .slc 18 0 ((P7.begC (makeC (someNet n 10 20))).H.length) none]) (N' := [SO.ints true .i64 ((P7.begC (makeC (someNet n 10 20))).Res), SO.ints true .i64 ((P7.begC (makeC (someNet n 10 20))).Ex), SO.ints true .i64 ((P7.begC (makeC (someNet n 10 20))).H)]) rfl rfl (P7.t_Begin (c := (makeC (someNet n 10 20))) (hg.toCsrT) ((P7.beg_in_all hcq))) [5, 6, 7, 8, 9, 10] ⟨.inr ⟨_, rfl, srv⟩, .inr ⟨_, rfl, srv⟩, .inr ⟨_, rfl, srv⟩, .inr ⟨_, rfl, srv⟩, .inr ⟨_, rfl, srv⟩, .inr ⟨_, rfl, srv⟩, trivial⟩ rfl rfl rfl rfl rfl ?_)
  refine rw_t 9 rfl rfl rfl (n_alloc (n := 19) rfl ?_)
  refine rw_u rfl rfl (n_store_whole rfl rfl rfl rfl rfl rfl ?_)
  refine rw_nil ?_
  refine w_seq ?_
  refine w_seq ?_
  refine w_region ?_
  refine rw_t 37 rfl rfl rfl (n_load_boxagg [_, _, _, _, _, _, _, _, _] rfl rfl (Nat.le_of_ble_eq_true rfl) rfl ?_)
  refine rw_t 38 rfl rfl rfl (n_load_boxagg [_, _, _] rfl rfl (Nat.le_of_ble_eq_true rfl) rfl ?_)
  refine rw_t 39 rfl rfl rfl (do_callR (X' := .val (.bool (decide (rightP (makeC (someNet n 10 20)) (P7.begC (makeC (someNet n 10 20))))))) rfl rfl (t_Right (c := (makeC (someNet n 10 20))) (p := (P7.begC (makeC (someNet n 10 20)))) (hg.toCsrT) (hi64)) [5, 6, 7, 8, 9, 10, 16, 17, 18] ⟨.inr ⟨_, rfl, srv⟩, .inr ⟨_, rfl, srv⟩, .inr ⟨_, rfl, srv⟩, .inr ⟨_, rfl, srv⟩, .inr ⟨_, rfl, srv⟩, .inr ⟨_, rfl, srv⟩, .inr ⟨_, rfl, srv⟩, .inr ⟨_, rfl, srv⟩, .inr ⟨_, rfl, srv⟩, trivial⟩ rfl rfl rfl ?_)
  refine rw_t 40 rfl rfl rfl (do_not rfl ?_)
  refine rw_nil ?_
  refine w_cond rfl (fun hc1 => ?_) (fun hc1 => ?_)
  · exfalso; exact absurd hc1 (by rw [decide_eq_true hbR]; decide)
  refine w_skip ?_
  refine w_seq ?_
  refine w_seq ?_
  refine w_region ?_
  refine rw_t 41 rfl rfl rfl (do_move rfl ?_)
  refine rw_t 42 rfl rfl rfl (do_move rfl ?_)
  refine rw_t 43 rfl rfl rfl (do_len rfl ?_)
  refine rw_t 44 rfl rfl rfl (do_min rfl rfl ?_)
  refine rw_t 45 rfl rfl rfl (do_slice rfl rfl rfl rfl rfl (by first | omega | (split <;> omega)) (by first | omega | (split <;> omega)) (by first | omega | (split <;> omega)) ?_)
  refine rw_as (.slc 1 0 (min mv.length 80) none) (slc_eq rfl (by split <;> omega)) ?_
  refine rw_t 46 rfl rfl rfl (do_len rfl ?_)
  refine rw_t 47 rfl rfl rfl (do_move rfl ?_)
  refine rw_nil ?_
  refine w_block ?_
  refine w_loopS (ι := Nat × Pre) (fun q => [(2, .slc 2 0 l.length none), (7, .ptr 14 0 0), (9, .ptr 19 0 0), (45, .slc 1 0 (min mv.length 80) none), (46, .val (.int .i64 (((min mv.length 80) : Nat) : Int))), (47, .val (.int .i64 ((q.1 : Nat) : Int)))]) (fun q => [SO.arcs false n.arcs, SO.ints false .u16 mv, SO.acts false l, .box [.val (.int .i64 n.N), .val (.int .i64 n.S), .val (.int .i64 n.T), .slc 0 0 n.arcs.length none], SO.arcs true ((someNet n 10 20).arcs), SO.ints true .i64 ((makeC (someNet n 10 20)).First), SO.ints true .i64 ((makeC (someNet n 10 20)).Head), SO.ints true .i64 ((makeC (someNet n 10 20)).Rev), SO.ints true .i64 ((makeC (someNet n 10 20)).Cap), SO.ints true .i64 ((makeC (someNet n 10 20)).Arc), SO.bools true ((makeC (someNet n 10 20)).Back), SO.ints true .i64 ((begP (someNet n 10 20)).Res), SO.ints true .i64 ((begP (someNet n 10 20)).Ex), SO.ints true .i64 ((begP (someNet n 10 20)).H), .box [.val (.int .i64 ((makeC (someNet n 10 20)).N)), .val (.int .i64 ((makeC (someNet n 10 20)).S)), .val (.int .i64 ((makeC (someNet n 10 20)).T)), .slc 5 0 ((makeC (someNet n 10 20)).First.length) none, .slc 6 0 ((makeC (someNet n 10 20)).Head.length) none, .slc 7 0 ((makeC (someNet n 10 20)).Rev.length) none, .slc 8 0 ((makeC (someNet n 10 20)).Cap.length) none, .slc 9 0 ((makeC (someNet n 10 20)).Arc.length) none, .slc 10 0 ((makeC (someNet n 10 20)).Back.length) none], .box [.slc 11 0 ((begP (someNet n 10 20)).Res.length) none, .slc 12 0 ((begP (someNet n 10 20)).Ex.length) none, .slc 13 0 ((begP (someNet n 10 20)).H.length) none], SO.ints true .i64 q.2.Res, SO.ints true .i64 q.2.Ex, SO.ints true .i64 q.2.H, .box [.slc 16 0 q.2.Res.length none, .slc 17 0 q.2.Ex.length none, .slc 18 0 q.2.H.length none]]) (fun q => min mv.length 80 - q.1) (fun q => q.1 ≤ min mv.length 80 ∧ P7.refR (makeC (someNet n 10 20)) q.2) ((0, P7.begC (makeC (someNet n 10 20)))) [0, 1, 2, 3, 4, 5, 6, 7, 8, 9, 10, 11, 12, 13, 14, 15, 16, 17, 18, 19] (⟨by simp, hbe⟩) ⟨shR rfl, shR rfl, shR rfl, shR rfl, shR rfl, shR rfl, shR rfl, shR rfl, shR rfl, shR rfl, shR rfl, shR rfl, shR rfl, shR rfl, shR rfl, shR rfl, shR rfl, shR rfl, shR rfl, shR rfl, trivial⟩ rfl (pre_ok rfl) hρ ⟨⟨_, rfl, rfl⟩, ⟨_, rfl, rfl⟩, ⟨_, rfl, rfl⟩, ⟨_, rfl, rfl⟩, ⟨_, rfl, rfl⟩, ⟨_, rfl, rfl⟩, trivial⟩ ?_
  rintro ⟨i, r⟩ ⟨gi, gr⟩
  dsimp only at gi gr ⊢
  refine w_seq ?_
  refine w_region ?_
  refine rw_t 48 rfl rfl rfl (do_bin rfl rfl rfl ?_)
  refine rw_nil ?_
  refine w_seq ?_
  refine w_cond rfl (fun hc2 => ?_) (fun hc2 => ?_)
  all_goals try simp only [bs] at hc2
  rotate_left
  · refine w_exit ?_
    refine w_seq ?_
    refine w_region ?_
    refine rw_t 208 rfl rfl rfl (do_callR (X' := .val (.bool true)) rfl rfl (t_awake) [] trivial rfl rfl rfl ?_)
    refine rw_t 6 rfl rfl rfl (do_assign rfl ?_)
    refine rw_nil ?_
    refine w_ret ?_
    exact ret_eq (.inl rfl) (.cons (res_tmp rfl) .nil) [0, 1, 2] (rfl) ⟨shR rfl, shR rfl, shR rfl, trivial⟩ rfl (pre_ok rfl)
  refine w_skip ?_
  refine w_seq ?_
  refine w_block ?_
  refine w_seq ?_
  have hR := ((P7.refR_iff hg r).1 gr).1
  have hin := P7.refR_in hg gr
  have hpi := P7.refR_push hg gr
  have hr1 := hin.res
  have hr2 := hin.ex
  have hr3 := hin.h
  have hpl : (P7.pushL (makeC (someNet n 10 20)) r).length ≤ (makeC (someNet n 10 20)).Head.length := P7.selK_len (P7.pusQ (makeC (someNet n 10 20)) r) (makeC (someNet n 10 20)).Head.length
  have hsl : (P7.stuckL (makeC (someNet n 10 20)) r).length ≤ (makeC (someNet n 10 20)).N.toNat := P7.selK_len (P7.stuQ (makeC (someNet n 10 20)) r) (makeC (someNet n 10 20)).N.toNat
  have hwb := hwx _ (getD_mem 0 (show i < mv.length by omega))
  have hf0 := hg.f0
  have hfN := hg.fN
  refine w_region ?_
  refine rw_t 49 rfl rfl rfl (do_move rfl ?_)
  refine rw_t 50 rfl rfl rfl (do_ixn rfl rfl rfl (by first | omega | (simp only [ls] <;> omega)) ?_)
  refine rw_t 51 rfl rfl rfl (do_load_arr rfl rfl (by first | omega | (simp only [ls] <;> omega)) rfl ?_)
  refine rw_as (.val (.int .u16 (mv.getD i 0))) (val_congr (by simp)) ?_
  refine rw_t 10 rfl rfl rfl (do_assign rfl ?_)
  refine rw_t 11 rfl rfl rfl (do_assign rfl ?_)
  refine rw_nil ?_
  refine w_midS (ι := Unit) (fun u_ => [(2, .slc 2 0 l.length none), (7, .ptr 14 0 0), (9, .ptr 19 0 0), (10, .val (.int .i64 ((i : Nat) : Int))), (11, .val (.int .u16 (mv.getD i 0))), (45, .slc 1 0 (min mv.length 80) none), (46, .val (.int .i64 (((min mv.length 80) : Nat) : Int))), (47, .val (.int .i64 ((i : Nat) : Int))), (48, .val (.bool (decide (((i : Nat) : Int) < (((min mv.length 80) : Nat) : Int))))), (49, .val (.int .i64 ((i : Nat) : Int))), (50, .ptr 1 i 0), (51, .val (.int .u16 (mv.getD i 0)))]) (fun u_ => [SO.arcs false n.arcs, SO.ints false .u16 mv, SO.acts false l, .box [.val (.int .i64 n.N), .val (.int .i64 n.S), .val (.int .i64 n.T), .slc 0 0 n.arcs.length none], SO.arcs true ((someNet n 10 20).arcs), SO.ints true .i64 ((makeC (someNet n 10 20)).First), SO.ints true .i64 ((makeC (someNet n 10 20)).Head), SO.ints true .i64 ((makeC (someNet n 10 20)).Rev), SO.ints true .i64 ((makeC (someNet n 10 20)).Cap), SO.ints true .i64 ((makeC (someNet n 10 20)).Arc), SO.bools true ((makeC (someNet n 10 20)).Back), SO.ints true .i64 ((begP (someNet n 10 20)).Res), SO.ints true .i64 ((begP (someNet n 10 20)).Ex), SO.ints true .i64 ((begP (someNet n 10 20)).H), .box [.val (.int .i64 ((makeC (someNet n 10 20)).N)), .val (.int .i64 ((makeC (someNet n 10 20)).S)), .val (.int .i64 ((makeC (someNet n 10 20)).T)), .slc 5 0 ((makeC (someNet n 10 20)).First.length) none, .slc 6 0 ((makeC (someNet n 10 20)).Head.length) none, .slc 7 0 ((makeC (someNet n 10 20)).Rev.length) none, .slc 8 0 ((makeC (someNet n 10 20)).Cap.length) none, .slc 9 0 ((makeC (someNet n 10 20)).Arc.length) none, .slc 10 0 ((makeC (someNet n 10 20)).Back.length) none], .box [.slc 11 0 ((begP (someNet n 10 20)).Res.length) none, .slc 12 0 ((begP (someNet n 10 20)).Ex.length) none, .slc 13 0 ((begP (someNet n 10 20)).H.length) none], SO.ints true .i64 r.Res, SO.ints true .i64 r.Ex, SO.ints true .i64 r.H, .box [.slc 16 0 r.Res.length none, .slc 17 0 r.Ex.length none, .slc 18 0 r.H.length none]]) (fun u_ => True) hρ ?_ ?_
  · refine w_seq ?_
    refine w_region ?_
    refine rw_t 52 rfl rfl rfl (do_move rfl ?_)
    refine rw_t 53 rfl rfl rfl (do_move rfl ?_)
    refine rw_t 54 rfl rfl rfl (do_len rfl ?_)
    refine rw_t 55 rfl rfl rfl (do_bin rfl rfl rfl ?_)
    refine rw_nil ?_
    refine w_cond rfl (fun hc3 => ?_) (fun hc3 => ?_)
    all_goals try simp only [bs] at hc3
    · refine w_seq ?_
      have hxe : EvIn (l.getD i Act.none).e := hl _ (getD_mem Act.none (show i < l.length by omega))
      have hok := right_ok hg.toCsrT hR
      have hfe := fit_in hg.toCsrOK hok hxe
      refine w_draw mixed [0, 0, 0, 0, 12, 28, 63, 0] [255] (by kernel_rfl) (by kernel_rfl) rfl rfl rfl (hle hρ rfl) ?_
      refine ra_q (j := 0) rfl rfl rfl rfl (n_load_boxagg [_, _, _, _, _, _, _, _, _] rfl rfl (Nat.le_of_ble_eq_true rfl) rfl ⟨rfl, rfl⟩) (by rfl) ?_
      refine ra_q (j := 1) rfl rfl rfl rfl (n_load_boxagg [_, _, _] rfl rfl (Nat.le_of_ble_eq_true rfl) rfl ⟨rfl, rfl⟩) (by rfl) ?_
      refine ra_q (j := 2) rfl rfl rfl rfl (do_move rfl ⟨rfl, rfl⟩) (by rfl) ?_
      refine ra_q (j := 3) rfl rfl rfl rfl (do_move rfl ⟨rfl, rfl⟩) (by rfl) ?_
      refine ra_q (j := 4) rfl rfl rfl rfl (do_ixn rfl rfl rfl (by first | omega | (simp only [ls] <;> omega)) ⟨rfl, rfl⟩) (by rfl) ?_
      refine ra_q (j := 5) rfl rfl rfl rfl (n_load_arragg [_, _, _, _, _, _, _, _, _] rfl rfl rfl (by first | omega | (simp only [ls] <;> omega)) rfl ⟨rfl, rfl⟩) (by rfl) ?_
      refine ra_q (j := 6) rfl rfl rfl rfl (do_callR (X' := .agg [.val (.int .i64 ((fitE (makeC (someNet n 10 20)) r (l.getD i Act.none)).who)), .val (.int .u8 ((fitE (makeC (someNet n 10 20)) r (l.getD i Act.none)).what)), .val (.int .i64 ((fitE (makeC (someNet n 10 20)) r (l.getD i Act.none)).u)), .val (.int .i64 ((fitE (makeC (someNet n 10 20)) r (l.getD i Act.none)).arc)), .val (.int .i64 ((fitE (makeC (someNet n 10 20)) r (l.getD i Act.none)).d)), .val (.int .i64 ((fitE (makeC (someNet n 10 20)) r (l.getD i Act.none)).h)), .val (.int .i64 ((fitE (makeC (someNet n 10 20)) r (l.getD i Act.none)).low))]) rfl rfl (t_fitted (c := (makeC (someNet n 10 20))) (p := r) (x := (l.getD i Act.none)) (hg.toCsrOK) (hok)) [5, 6, 7, 8, 9, 10, 16, 17, 18] ⟨.inr ⟨_, rfl, srv⟩, .inr ⟨_, rfl, srv⟩, .inr ⟨_, rfl, srv⟩, .inr ⟨_, rfl, srv⟩, .inr ⟨_, rfl, srv⟩, .inr ⟨_, rfl, srv⟩, .inr ⟨_, rfl, srv⟩, .inr ⟨_, rfl, srv⟩, .inr ⟨_, rfl, srv⟩, trivial⟩ rfl rfl rfl ⟨rfl, rfl⟩) (by rfl) ?_
      refine ra_n (j := 7) rfl rfl rfl rfl (g_alloc (n := 20) rfl ⟨rfl, rfl⟩) (by rfl) (by rfl) (by rfl) ?_
      refine n_done ?_
      refine rw_u rfl rfl (n_store_whole rfl rfl rfl rfl rfl rfl ?_)
      refine rw_nil ?_
      refine w_seq ?_
      refine w_region ?_
      refine rw_t 64 rfl rfl rfl (n_load_boxagg [_, _, _, _, _, _, _, _, _] rfl rfl (Nat.le_of_ble_eq_true rfl) rfl ?_)
      refine rw_t 65 rfl rfl rfl (n_load_boxagg [_, _, _] rfl rfl (Nat.le_of_ble_eq_true rfl) rfl ?_)
      refine rw_t 66 rfl rfl rfl (n_load_boxagg [_, _, _, _, _, _, _] rfl rfl (Nat.le_of_ble_eq_true rfl) rfl ?_)
      refine rw_t 67 rfl rfl rfl (n_callN (X' := .tup [.agg [.slc 21 0 ((moveE (makeC (someNet n 10 20)) r (fitE (makeC (someNet n 10 20)) r (l.getD i Act.none))).1.Res.length) none, .slc 22 0 ((moveE (makeC (someNet n 10 20)) r (fitE (makeC (someNet n 10 20)) r (l.getD i Act.none))).1.Ex.length) none, .slc 23 0 ((moveE (makeC (someNet n 10 20)) r (fitE (makeC (someNet n 10 20)) r (l.getD i Act.none))).1.H.length) none], .val (.int .i64 ((moveE (makeC (someNet n 10 20)) r (fitE (makeC (someNet n 10 20)) r (l.getD i Act.none))).2))]) (N' := [SO.ints true .i64 ((moveE (makeC (someNet n 10 20)) r (fitE (makeC (someNet n 10 20)) r (l.getD i Act.none))).1.Res), SO.ints true .i64 ((moveE (makeC (someNet n 10 20)) r (fitE (makeC (someNet n 10 20)) r (l.getD i Act.none))).1.Ex), SO.ints true .i64 ((moveE (makeC (someNet n 10 20)) r (fitE (makeC (someNet n 10 20)) r (l.getD i Act.none))).1.H)]) rfl rfl (t_Move (c := (makeC (someNet n 10 20))) (p := r) (e := (fitE (makeC (someNet n 10 20)) r (l.getD i Act.none))) (hg) (hR) (hfe)) [5, 6, 7, 8, 9, 10, 16, 17, 18] ⟨.inr ⟨_, rfl, srv⟩, .inr ⟨_, rfl, srv⟩, .inr ⟨_, rfl, srv⟩, .inr ⟨_, rfl, srv⟩, .inr ⟨_, rfl, srv⟩, .inr ⟨_, rfl, srv⟩, .inr ⟨_, rfl, srv⟩, .inr ⟨_, rfl, srv⟩, .inr ⟨_, rfl, srv⟩, trivial⟩ rfl rfl rfl rfl rfl ?_)
      refine rw_t 63 rfl rfl rfl (do_move rfl ?_)
      refine rw_t 68 rfl rfl rfl (do_extract rfl rfl ?_)
      refine rw_t 69 rfl rfl rfl (do_extract rfl rfl ?_)
      refine rw_t 13 rfl rfl rfl (n_alloc (n := 24) rfl ?_)
      refine rw_u rfl rfl (n_store_whole rfl rfl rfl rfl rfl rfl ?_)
      refine rw_t 14 rfl rfl rfl (do_assign rfl ?_)
      refine rw_nil ?_
      have hno := P7.strict_no hcq gr (fitE (makeC (someNet n 10 20)) r (l.getD i Act.none))
      refine w_env [(2, .slc 2 0 l.length none), (7, .ptr 14 0 0), (9, .ptr 19 0 0), (10, .val (.int .i64 ((i : Nat) : Int))), (11, .val (.int .u16 (mv.getD i 0))), (12, .ptr 20 0 0), (13, .ptr 24 0 0), (14, .val (.int .i64 ((moveE (makeC (someNet n 10 20)) r (fitE (makeC (someNet n 10 20)) r (l.getD i Act.none))).2))), (45, .slc 1 0 (min mv.length 80) none), (46, .val (.int .i64 (((min mv.length 80) : Nat) : Int))), (47, .val (.int .i64 ((i : Nat) : Int))), (48, .val (.bool (decide (((i : Nat) : Int) < (((min mv.length 80) : Nat) : Int))))), (49, .val (.int .i64 ((i : Nat) : Int))), (50, .ptr 1 i 0), (51, .val (.int .u16 (mv.getD i 0))), (52, .val (.int .i64 ((i : Nat) : Int))), (53, .slc 2 0 l.length none), (54, .val (.int .i64 ((l.length : Nat) : Int))), (55, .val (.bool (decide (((i : Nat) : Int) < ((l.length : Nat) : Int))))), (56, .agg [.val (.int .i64 ((makeC (someNet n 10 20)).N)), .val (.int .i64 ((makeC (someNet n 10 20)).S)), .val (.int .i64 ((makeC (someNet n 10 20)).T)), .slc 5 0 ((makeC (someNet n 10 20)).First.length) none, .slc 6 0 ((makeC (someNet n 10 20)).Head.length) none, .slc 7 0 ((makeC (someNet n 10 20)).Rev.length) none, .slc 8 0 ((makeC (someNet n 10 20)).Cap.length) none, .slc 9 0 ((makeC (someNet n 10 20)).Arc.length) none, .slc 10 0 ((makeC (someNet n 10 20)).Back.length) none]), (57, .agg [.slc 16 0 r.Res.length none, .slc 17 0 r.Ex.length none, .slc 18 0 r.H.length none]), (58, .slc 2 0 l.length none), (59, .val (.int .i64 ((i : Nat) : Int))), (60, .ptr 2 i 0), (61, .agg [.val (.int .i64 ((l.getD i Act.none).e.who)), .val (.int .u8 ((l.getD i Act.none).e.what)), .val (.int .i64 ((l.getD i Act.none).e.u)), .val (.int .i64 ((l.getD i Act.none).e.arc)), .val (.int .i64 ((l.getD i Act.none).e.d)), .val (.int .i64 ((l.getD i Act.none).e.h)), .val (.int .i64 ((l.getD i Act.none).e.low)), .val (.bool ((l.getD i Act.none).raw)), .val (.int .u8 ((l.getD i Act.none).fit))]), (62, .agg [.val (.int .i64 ((fitE (makeC (someNet n 10 20)) r (l.getD i Act.none)).who)), .val (.int .u8 ((fitE (makeC (someNet n 10 20)) r (l.getD i Act.none)).what)), .val (.int .i64 ((fitE (makeC (someNet n 10 20)) r (l.getD i Act.none)).u)), .val (.int .i64 ((fitE (makeC (someNet n 10 20)) r (l.getD i Act.none)).arc)), .val (.int .i64 ((fitE (makeC (someNet n 10 20)) r (l.getD i Act.none)).d)), .val (.int .i64 ((fitE (makeC (someNet n 10 20)) r (l.getD i Act.none)).h)), .val (.int .i64 ((fitE (makeC (someNet n 10 20)) r (l.getD i Act.none)).low))]), (63, .tup [.agg [.slc 21 0 ((moveE (makeC (someNet n 10 20)) r (fitE (makeC (someNet n 10 20)) r (l.getD i Act.none))).1.Res.length) none, .slc 22 0 ((moveE (makeC (someNet n 10 20)) r (fitE (makeC (someNet n 10 20)) r (l.getD i Act.none))).1.Ex.length) none, .slc 23 0 ((moveE (makeC (someNet n 10 20)) r (fitE (makeC (someNet n 10 20)) r (l.getD i Act.none))).1.H.length) none], .val (.int .i64 ((moveE (makeC (someNet n 10 20)) r (fitE (makeC (someNet n 10 20)) r (l.getD i Act.none))).2))]), (64, .agg [.val (.int .i64 ((makeC (someNet n 10 20)).N)), .val (.int .i64 ((makeC (someNet n 10 20)).S)), .val (.int .i64 ((makeC (someNet n 10 20)).T)), .slc 5 0 ((makeC (someNet n 10 20)).First.length) none, .slc 6 0 ((makeC (someNet n 10 20)).Head.length) none, .slc 7 0 ((makeC (someNet n 10 20)).Rev.length) none, .slc 8 0 ((makeC (someNet n 10 20)).Cap.length) none, .slc 9 0 ((makeC (someNet n 10 20)).Arc.length) none, .slc 10 0 ((makeC (someNet n 10 20)).Back.length) none]), (65, .agg [.slc 16 0 r.Res.length none, .slc 17 0 r.Ex.length none, .slc 18 0 r.H.length none]), (66, .agg [.val (.int .i64 ((fitE (makeC (someNet n 10 20)) r (l.getD i Act.none)).who)), .val (.int .u8 ((fitE (makeC (someNet n 10 20)) r (l.getD i Act.none)).what)), .val (.int .i64 ((fitE (makeC (someNet n 10 20)) r (l.getD i Act.none)).u)), .val (.int .i64 ((fitE (makeC (someNet n 10 20)) r (l.getD i Act.none)).arc)), .val (.int .i64 ((fitE (makeC (someNet n 10 20)) r (l.getD i Act.none)).d)), .val (.int .i64 ((fitE (makeC (someNet n 10 20)) r (l.getD i Act.none)).h)), .val (.int .i64 ((fitE (makeC (someNet n 10 20)) r (l.getD i Act.none)).low))]), (67, .tup [.agg [.slc 21 0 ((moveE (makeC (someNet n 10 20)) r (fitE (makeC (someNet n 10 20)) r (l.getD i Act.none))).1.Res.length) none, .slc 22 0 ((moveE (makeC (someNet n 10 20)) r (fitE (makeC (someNet n 10 20)) r (l.getD i Act.none))).1.Ex.length) none, .slc 23 0 ((moveE (makeC (someNet n 10 20)) r (fitE (makeC (someNet n 10 20)) r (l.getD i Act.none))).1.H.length) none], .val (.int .i64 ((moveE (makeC (someNet n 10 20)) r (fitE (makeC (someNet n 10 20)) r (l.getD i Act.none))).2))]), (68, .agg [.slc 21 0 ((moveE (makeC (someNet n 10 20)) r (fitE (makeC (someNet n 10 20)) r (l.getD i Act.none))).1.Res.length) none, .slc 22 0 ((moveE (makeC (someNet n 10 20)) r (fitE (makeC (someNet n 10 20)) r (l.getD i Act.none))).1.Ex.length) none, .slc 23 0 ((moveE (makeC (someNet n 10 20)) r (fitE (makeC (someNet n 10 20)) r (l.getD i Act.none))).1.H.length) none]), (69, .val (.int .i64 ((moveE (makeC (someNet n 10 20)) r (fitE (makeC (someNet n 10 20)) r (l.getD i Act.none))).2)))] ⟨⟨_, rfl, rfl⟩, ⟨_, rfl, rfl⟩, ⟨_, rfl, rfl⟩, ⟨_, rfl, rfl⟩, ⟨_, rfl, rfl⟩, ⟨_, rfl, rfl⟩, ⟨_, rfl, rfl⟩, ⟨_, rfl, rfl⟩, ⟨_, rfl, rfl⟩, ⟨_, rfl, rfl⟩, ⟨_, rfl, rfl⟩, ⟨_, rfl, rfl⟩, ⟨_, rfl, rfl⟩, ⟨_, rfl, rfl⟩, ⟨_, rfl, rfl⟩, ⟨_, rfl, rfl⟩, ⟨_, rfl, rfl⟩, ⟨_, rfl, rfl⟩, ⟨_, rfl, rfl⟩, ⟨_, rfl, rfl⟩, ⟨_, rfl, rfl⟩, ⟨_, rfl, rfl⟩, ⟨_, rfl, rfl⟩, ⟨_, rfl, rfl⟩, ⟨_, rfl, rfl⟩, ⟨_, rfl, rfl⟩, ⟨_, rfl, rfl⟩, ⟨_, rfl, rfl⟩, ⟨_, rfl, rfl⟩, ⟨_, rfl, rfl⟩, ⟨_, rfl, rfl⟩, ⟨_, rfl, rfl⟩, ⟨_, rfl, rfl⟩, trivial⟩ ?_
      refine w_seqB 83 ((strictP (makeC (someNet n 10 20)) r (fitE (makeC (someNet n 10 20)) r (l.getD i Act.none)) ∧ ((moveE (makeC (someNet n 10 20)) r (fitE (makeC (someNet n 10 20)) r (l.getD i Act.none))).2 ≠ 0 ∨ ¬ (P7.preR (makeC (someNet n 10 20)) ((moveE (makeC (someNet n 10 20)) r (fitE (makeC (someNet n 10 20)) r (l.getD i Act.none))).1))))) ?_ ?_
      · -- region 11
        refine w_region ?_
        refine rw_t 70 rfl rfl rfl (n_load_boxagg [_, _, _, _, _, _, _, _, _] rfl rfl (Nat.le_of_ble_eq_true rfl) rfl ?_)
        refine rw_t 71 rfl rfl rfl (n_load_boxagg [_, _, _] rfl rfl (Nat.le_of_ble_eq_true rfl) rfl ?_)
        refine rw_t 72 rfl rfl rfl (n_load_boxagg [_, _, _, _, _, _, _] rfl rfl (Nat.le_of_ble_eq_true rfl) rfl ?_)
        refine rw_t 73 rfl rfl rfl (do_callR (X' := .val (.bool (decide (strictP (makeC (someNet n 10 20)) r (fitE (makeC (someNet n 10 20)) r (l.getD i Act.none)))))) rfl rfl (t_Strict (c := (makeC (someNet n 10 20))) (p := r) (e := (fitE (makeC (someNet n 10 20)) r (l.getD i Act.none))) (hg) (hR) (hfe)) [5, 6, 7, 8, 9, 10, 16, 17, 18] ⟨.inr ⟨_, rfl, srv⟩, .inr ⟨_, rfl, srv⟩, .inr ⟨_, rfl, srv⟩, .inr ⟨_, rfl, srv⟩, .inr ⟨_, rfl, srv⟩, .inr ⟨_, rfl, srv⟩, .inr ⟨_, rfl, srv⟩, .inr ⟨_, rfl, srv⟩, .inr ⟨_, rfl, srv⟩, trivial⟩ rfl rfl rfl ?_)
        refine rw_t 74 rfl rfl rfl (do_move rfl ?_)
        refine rw_case 74 rfl (fun g1 => ?_) (fun g1 => ?_)
        · have kg1 := g1
          try simp only [bs] at kg1
          refine rw_gt 75 4 74 true rfl rfl rfl rfl rfl rfl g1 (do_move rfl ?_)
          refine rw_gt 76 4 74 true rfl rfl rfl rfl rfl rfl g1 (do_bin rfl rfl rfl ?_)
          refine rw_gt 77 4 74 true rfl rfl rfl rfl rfl rfl g1 (do_move rfl ?_)
          refine rw_case 77 rfl (fun g2 => ?_) (fun g2 => ?_)
          · have kg2 := g2
            try simp only [bs] at kg2
            refine rw_gf 78 7 77 false rfl rfl rfl rfl rfl rfl (by rw [g2]; decide) ?_
            refine rw_gf 79 7 77 false rfl rfl rfl rfl rfl rfl (by rw [g2]; decide) ?_
            refine rw_gf 80 7 77 false rfl rfl rfl rfl rfl rfl (by rw [g2]; decide) ?_
            refine rw_gf 81 7 77 false rfl rfl rfl rfl rfl rfl (by rw [g2]; decide) ?_
            refine rw_gt 82 4 74 true rfl rfl rfl rfl rfl rfl g1 (do_pick_t rfl g2 rfl ?_)
            refine rw_t 83 rfl rfl rfl (do_pick_t rfl g1 rfl ?_)
            refine rw_nil ?_
            refine ⟨rfl, ⟨_, rfl, by first | (simp; done) | (simp only [bs]; omega) | (simp [*]; done) | (simp; omega) | (constructor <;> intro h <;> simp_all <;> omega)⟩, ?_⟩
            repeat (refine ⟨⟨_, rfl, rfl⟩, ?_⟩)
            exact trivial
          · have kg2 := g2
            try simp only [bs] at kg2
            refine rw_gt 78 7 77 false rfl rfl rfl rfl rfl rfl g2 (n_load_boxagg [_, _, _, _, _, _, _, _, _] rfl rfl (Nat.le_of_ble_eq_true rfl) rfl ?_)
            refine rw_gt 79 7 77 false rfl rfl rfl rfl rfl rfl g2 (n_load_boxagg [_, _, _] rfl rfl (Nat.le_of_ble_eq_true rfl) rfl ?_)
            refine rw_gt 80 7 77 false rfl rfl rfl rfl rfl rfl g2 (do_callR (X' := .val (.bool (decide (P7.preR (makeC (someNet n 10 20)) ((moveE (makeC (someNet n 10 20)) r (fitE (makeC (someNet n 10 20)) r (l.getD i Act.none))).1))))) rfl rfl (P7.t_Right (c := (makeC (someNet n 10 20))) (p := (moveE (makeC (someNet n 10 20)) r (fitE (makeC (someNet n 10 20)) r (l.getD i Act.none))).1) (hg.toCsrT) (hcq.one) (hcq.arcin)) [5, 6, 7, 8, 9, 10, 21, 22, 23] ⟨.inr ⟨_, rfl, srv⟩, .inr ⟨_, rfl, srv⟩, .inr ⟨_, rfl, srv⟩, .inr ⟨_, rfl, srv⟩, .inr ⟨_, rfl, srv⟩, .inr ⟨_, rfl, srv⟩, .inr ⟨_, rfl, srv⟩, .inr ⟨_, rfl, srv⟩, .inr ⟨_, rfl, srv⟩, trivial⟩ rfl rfl rfl ?_)
            refine rw_gt 81 7 77 false rfl rfl rfl rfl rfl rfl g2 (do_not rfl ?_)
            refine rw_gt 82 4 74 true rfl rfl rfl rfl rfl rfl g1 (do_pick_f rfl g2 rfl ?_)
            refine rw_t 83 rfl rfl rfl (do_pick_t rfl g1 rfl ?_)
            refine rw_nil ?_
            refine ⟨rfl, ⟨_, rfl, by first | (simp; done) | (simp only [bs]; omega) | (simp [*]; done) | (simp; omega) | (constructor <;> intro h <;> simp_all <;> omega)⟩, ?_⟩
            repeat (refine ⟨⟨_, rfl, rfl⟩, ?_⟩)
            exact trivial
        · have kg1 := g1
          try simp only [bs] at kg1
          refine rw_gf 75 4 74 true rfl rfl rfl rfl rfl rfl (by rw [g1]; decide) ?_
          refine rw_gf 76 4 74 true rfl rfl rfl rfl rfl rfl (by rw [g1]; decide) ?_
          refine rw_gf 77 4 74 true rfl rfl rfl rfl rfl rfl (by rw [g1]; decide) ?_
          refine rw_gu 78 7 77 false rfl rfl rfl rfl rfl rfl ?_
          refine rw_gu 79 7 77 false rfl rfl rfl rfl rfl rfl ?_
          refine rw_gu 80 7 77 false rfl rfl rfl rfl rfl rfl ?_
          refine rw_gu 81 7 77 false rfl rfl rfl rfl rfl rfl ?_
          refine rw_gf 82 4 74 true rfl rfl rfl rfl rfl rfl (by rw [g1]; decide) ?_
          refine rw_t 83 rfl rfl rfl (do_pick_f rfl g1 rfl ?_)
          refine rw_nil ?_
          refine ⟨rfl, ⟨_, rfl, by first | (simp; done) | (simp only [bs]; omega) | (simp [*]; done) | (simp; omega) | (constructor <;> intro h <;> simp_all <;> omega)⟩, ?_⟩
          repeat (refine ⟨⟨_, rfl, rfl⟩, ?_⟩)
          exact trivial
      intro b1 hb1
      refine w_condP hb1 rfl (fun hc4 => ?_) (fun hc4 => ?_)
      · exfalso; exact hno hc4
      refine w_skip ?_
      exact ⟨(), [0, 1, 2, 3, 4, 5, 6, 7, 8, 9, 10, 11, 12, 13, 14, 15, 16, 17, 18, 19], trivial, ⟨shR rfl, shR rfl, shR rfl, shR rfl, shR rfl, shR rfl, shR rfl, shR rfl, shR rfl, shR rfl, shR rfl, shR rfl, shR rfl, shR rfl, shR rfl, shR rfl, shR rfl, shR rfl, shR rfl, shR rfl, trivial⟩, rfl, pre_ok rfl, ⟨⟨_, rfl, rfl⟩, ⟨_, rfl, rfl⟩, ⟨_, rfl, rfl⟩, ⟨_, rfl, rfl⟩, ⟨_, rfl, rfl⟩, ⟨_, rfl, rfl⟩, ⟨_, rfl, rfl⟩, ⟨_, rfl, rfl⟩, ⟨_, rfl, rfl⟩, ⟨_, rfl, rfl⟩, ⟨_, rfl, rfl⟩, ⟨_, rfl, rfl⟩, trivial⟩⟩
    · refine w_skip ?_
      exact ⟨(), [0, 1, 2, 3, 4, 5, 6, 7, 8, 9, 10, 11, 12, 13, 14, 15, 16, 17, 18, 19], trivial, ⟨shR rfl, shR rfl, shR rfl, shR rfl, shR rfl, shR rfl, shR rfl, shR rfl, shR rfl, shR rfl, shR rfl, shR rfl, shR rfl, shR rfl, shR rfl, shR rfl, shR rfl, shR rfl, shR rfl, shR rfl, trivial⟩, rfl, pre_ok rfl, ⟨⟨_, rfl, rfl⟩, ⟨_, rfl, rfl⟩, ⟨_, rfl, rfl⟩, ⟨_, rfl, rfl⟩, ⟨_, rfl, rfl⟩, ⟨_, rfl, rfl⟩, ⟨_, rfl, rfl⟩, ⟨_, rfl, rfl⟩, ⟨_, rfl, rfl⟩, ⟨_, rfl, rfl⟩, ⟨_, rfl, rfl⟩, ⟨_, rfl, rfl⟩, trivial⟩⟩
  rintro ⟨⟩ -
  refine w_seq ?_
  refine w_region ?_
  refine rw_t 85 rfl rfl rfl (n_load_boxagg [_, _, _, _, _, _, _, _, _] rfl rfl (Nat.le_of_ble_eq_true rfl) rfl ?_)
  refine rw_t 86 rfl rfl rfl (n_load_boxagg [_, _, _] rfl rfl (Nat.le_of_ble_eq_true rfl) rfl ?_)
  refine rw_t 87 rfl rfl rfl (n_callN (X' := .tup [.slc 20 0 ((P7.pushL (makeC (someNet n 10 20)) r).length) none, .slc 21 0 ((P7.stuckL (makeC (someNet n 10 20)) r).length) none]) (N' := [SO.ints true .i64 (P7.pushL (makeC (someNet n 10 20)) r), SO.ints true .i64 (P7.stuckL (makeC (someNet n 10 20)) r)]) rfl rfl (P7.t_May (c := (makeC (someNet n 10 20))) (p := r) (hg.toCsrT) (hin)) [5, 6, 7, 8, 9, 10, 16, 17, 18] ⟨.inr ⟨_, rfl, srv⟩, .inr ⟨_, rfl, srv⟩, .inr ⟨_, rfl, srv⟩, .inr ⟨_, rfl, srv⟩, .inr ⟨_, rfl, srv⟩, .inr ⟨_, rfl, srv⟩, .inr ⟨_, rfl, srv⟩, .inr ⟨_, rfl, srv⟩, .inr ⟨_, rfl, srv⟩, trivial⟩ rfl rfl rfl rfl rfl ?_)
  refine rw_t 84 rfl rfl rfl (do_move rfl ?_)
  refine rw_t 88 rfl rfl rfl (do_extract rfl rfl ?_)
  refine rw_t 89 rfl rfl rfl (do_extract rfl rfl ?_)
  refine rw_t 15 rfl rfl rfl (do_assign rfl ?_)
  refine rw_t 16 rfl rfl rfl (do_assign rfl ?_)
  refine rw_nil ?_
  refine w_seq ?_
  refine w_seq ?_
  refine w_region ?_
  refine rw_t 90 rfl rfl rfl (do_move rfl ?_)
  refine rw_t 91 rfl rfl rfl (do_len rfl ?_)
  refine rw_t 92 rfl rfl rfl (do_move rfl ?_)
  refine rw_t 93 rfl rfl rfl (do_len rfl ?_)
  refine rw_t 94 rfl rfl rfl (do_add rfl rfl (by omega) ?_)
  refine rw_t 95 rfl rfl rfl (do_bin rfl rfl rfl ?_)
  refine rw_nil ?_
  refine w_cond rfl (fun hc5 => ?_) (fun hc5 => ?_)
  all_goals try simp only [bs] at hc5
  · refine w_exit ?_
    refine w_seq ?_
    refine w_region ?_
    refine rw_t 208 rfl rfl rfl (do_callR (X' := .val (.bool true)) rfl rfl (t_awake) [] trivial rfl rfl rfl ?_)
    refine rw_t 6 rfl rfl rfl (do_assign rfl ?_)
    refine rw_nil ?_
    refine w_ret ?_
    exact ret_eq (.inl rfl) (.cons (res_tmp rfl) .nil) [0, 1, 2] (rfl) ⟨shR rfl, shR rfl, shR rfl, trivial⟩ rfl (pre_ok rfl)
  refine w_skip ?_
  refine w_seq ?_
  have hix := P7.tmod_in (x := mv.getD i 0) (n := (((P7.pushL (makeC (someNet n 10 20)) r).length : Nat) : Int) + (((P7.stuckL (makeC (someNet n 10 20)) r).length : Nat) : Int)) hwb.1 (by omega)
  refine w_region ?_
  refine rw_t 96 rfl rfl rfl (do_move rfl ?_)
  refine rw_t 97 rfl rfl rfl (do_conv rfl ?_)
  refine rw_as (.val (.int .i64 (mv.getD i 0))) (val_congr (P7.wrap_small (x := mv.getD i 0) (by omega))) ?_
  refine rw_t 98 rfl rfl rfl (do_move rfl ?_)
  refine rw_t 99 rfl rfl rfl (do_len rfl ?_)
  refine rw_t 100 rfl rfl rfl (do_move rfl ?_)
  refine rw_t 101 rfl rfl rfl (do_len rfl ?_)
  refine rw_t 102 rfl rfl rfl (do_add rfl rfl (by omega) ?_)
  refine rw_t 103 rfl rfl rfl (do_rem rfl rfl (by omega) ?_)
  refine rw_t 17 rfl rfl rfl (do_assign rfl ?_)
  refine rw_nil ?_
  refine w_seq ?_
  refine w_region ?_
  refine rw_t 18 rfl rfl rfl (n_alloc (n := 22) rfl ?_)
  refine rw_nil ?_
  refine w_seq ?_
  refine w_region ?_
  refine rw_t 19 rfl rfl rfl (n_alloc (n := 23) rfl ?_)
  refine rw_nil ?_
  refine w_midS (ι := Event × Pre) (fun q => [(2, .slc 2 0 l.length none), (7, .ptr 14 0 0), (9, .ptr 19 0 0), (10, .val (.int .i64 ((i : Nat) : Int))), (11, .val (.int .u16 (mv.getD i 0))), (15, .slc 20 0 ((P7.pushL (makeC (someNet n 10 20)) r).length) none), (16, .slc 21 0 ((P7.stuckL (makeC (someNet n 10 20)) r).length) none), (17, .val (.int .i64 ((mv.getD i 0).tmod ((((P7.pushL (makeC (someNet n 10 20)) r).length : Nat) : Int) + (((P7.stuckL (makeC (someNet n 10 20)) r).length : Nat) : Int))))), (18, .ptr 22 0 0), (19, .ptr 23 0 0), (45, .slc 1 0 (min mv.length 80) none), (46, .val (.int .i64 (((min mv.length 80) : Nat) : Int))), (47, .val (.int .i64 ((i : Nat) : Int))), (48, .val (.bool (decide (((i : Nat) : Int) < (((min mv.length 80) : Nat) : Int))))), (49, .val (.int .i64 ((i : Nat) : Int))), (50, .ptr 1 i 0), (51, .val (.int .u16 (mv.getD i 0))), (84, .tup [.slc 20 0 ((P7.pushL (makeC (someNet n 10 20)) r).length) none, .slc 21 0 ((P7.stuckL (makeC (someNet n 10 20)) r).length) none]), (85, .agg [.val (.int .i64 ((makeC (someNet n 10 20)).N)), .val (.int .i64 ((makeC (someNet n 10 20)).S)), .val (.int .i64 ((makeC (someNet n 10 20)).T)), .slc 5 0 ((makeC (someNet n 10 20)).First.length) none, .slc 6 0 ((makeC (someNet n 10 20)).Head.length) none, .slc 7 0 ((makeC (someNet n 10 20)).Rev.length) none, .slc 8 0 ((makeC (someNet n 10 20)).Cap.length) none, .slc 9 0 ((makeC (someNet n 10 20)).Arc.length) none, .slc 10 0 ((makeC (someNet n 10 20)).Back.length) none]), (86, .agg [.slc 16 0 r.Res.length none, .slc 17 0 r.Ex.length none, .slc 18 0 r.H.length none]), (87, .tup [.slc 20 0 ((P7.pushL (makeC (someNet n 10 20)) r).length) none, .slc 21 0 ((P7.stuckL (makeC (someNet n 10 20)) r).length) none]), (88, .slc 20 0 ((P7.pushL (makeC (someNet n 10 20)) r).length) none), (89, .slc 21 0 ((P7.stuckL (makeC (someNet n 10 20)) r).length) none), (90, .slc 20 0 ((P7.pushL (makeC (someNet n 10 20)) r).length) none), (91, .val (.int .i64 (((P7.pushL (makeC (someNet n 10 20)) r).length : Nat) : Int))), (92, .slc 21 0 ((P7.stuckL (makeC (someNet n 10 20)) r).length) none), (93, .val (.int .i64 (((P7.stuckL (makeC (someNet n 10 20)) r).length : Nat) : Int))), (94, .val (.int .i64 ((((P7.pushL (makeC (someNet n 10 20)) r).length : Nat) : Int) + (((P7.stuckL (makeC (someNet n 10 20)) r).length : Nat) : Int)))), (95, .val (.bool (((((P7.pushL (makeC (someNet n 10 20)) r).length : Nat) : Int) + (((P7.stuckL (makeC (someNet n 10 20)) r).length : Nat) : Int)) == 0))), (96, .val (.int .u16 (mv.getD i 0))), (97, .val (.int .i64 (mv.getD i 0))), (98, .slc 20 0 ((P7.pushL (makeC (someNet n 10 20)) r).length) none), (99, .val (.int .i64 (((P7.pushL (makeC (someNet n 10 20)) r).length : Nat) : Int))), (100, .slc 21 0 ((P7.stuckL (makeC (someNet n 10 20)) r).length) none), (101, .val (.int .i64 (((P7.stuckL (makeC (someNet n 10 20)) r).length : Nat) : Int))), (102, .val (.int .i64 ((((P7.pushL (makeC (someNet n 10 20)) r).length : Nat) : Int) + (((P7.stuckL (makeC (someNet n 10 20)) r).length : Nat) : Int)))), (103, .val (.int .i64 ((mv.getD i 0).tmod ((((P7.pushL (makeC (someNet n 10 20)) r).length : Nat) : Int) + (((P7.stuckL (makeC (someNet n 10 20)) r).length : Nat) : Int)))))]) (fun q => [SO.arcs false n.arcs, SO.ints false .u16 mv, SO.acts false l, .box [.val (.int .i64 n.N), .val (.int .i64 n.S), .val (.int .i64 n.T), .slc 0 0 n.arcs.length none], SO.arcs true ((someNet n 10 20).arcs), SO.ints true .i64 ((makeC (someNet n 10 20)).First), SO.ints true .i64 ((makeC (someNet n 10 20)).Head), SO.ints true .i64 ((makeC (someNet n 10 20)).Rev), SO.ints true .i64 ((makeC (someNet n 10 20)).Cap), SO.ints true .i64 ((makeC (someNet n 10 20)).Arc), SO.bools true ((makeC (someNet n 10 20)).Back), SO.ints true .i64 ((begP (someNet n 10 20)).Res), SO.ints true .i64 ((begP (someNet n 10 20)).Ex), SO.ints true .i64 ((begP (someNet n 10 20)).H), .box [.val (.int .i64 ((makeC (someNet n 10 20)).N)), .val (.int .i64 ((makeC (someNet n 10 20)).S)), .val (.int .i64 ((makeC (someNet n 10 20)).T)), .slc 5 0 ((makeC (someNet n 10 20)).First.length) none, .slc 6 0 ((makeC (someNet n 10 20)).Head.length) none, .slc 7 0 ((makeC (someNet n 10 20)).Rev.length) none, .slc 8 0 ((makeC (someNet n 10 20)).Cap.length) none, .slc 9 0 ((makeC (someNet n 10 20)).Arc.length) none, .slc 10 0 ((makeC (someNet n 10 20)).Back.length) none], .box [.slc 11 0 ((begP (someNet n 10 20)).Res.length) none, .slc 12 0 ((begP (someNet n 10 20)).Ex.length) none, .slc 13 0 ((begP (someNet n 10 20)).H.length) none], SO.ints true .i64 r.Res, SO.ints true .i64 r.Ex, SO.ints true .i64 r.H, .box [.slc 16 0 r.Res.length none, .slc 17 0 r.Ex.length none, .slc 18 0 r.H.length none], SO.ints true .i64 (P7.pushL (makeC (someNet n 10 20)) r), SO.ints true .i64 (P7.stuckL (makeC (someNet n 10 20)) r), .box [.val (.int .i64 q.1.who), .val (.int .u8 q.1.what), .val (.int .i64 q.1.u), .val (.int .i64 q.1.arc), .val (.int .i64 q.1.d), .val (.int .i64 q.1.h), .val (.int .i64 q.1.low)], .box [.slc 24 0 q.2.Res.length none, .slc 25 0 q.2.Ex.length none, .slc 26 0 q.2.H.length none], SO.ints true .i64 q.2.Res, SO.ints true .i64 q.2.Ex, SO.ints true .i64 q.2.H]) (fun q => P7.caseP (makeC (someNet n 10 20)) r q.1 q.2) hρ ?_ ?_
  · refine w_seq ?_
    refine w_region ?_
    refine rw_t 104 rfl rfl rfl (do_move rfl ?_)
    refine rw_t 105 rfl rfl rfl (do_move rfl ?_)
    refine rw_t 106 rfl rfl rfl (do_len rfl ?_)
    refine rw_t 107 rfl rfl rfl (do_bin rfl rfl rfl ?_)
    refine rw_nil ?_
    refine w_cond rfl (fun hc6 => ?_) (fun hc6 => ?_)
    all_goals try simp only [bs] at hc6
    · refine w_seq ?_
      have hixn : ((mv.getD i 0).tmod ((((P7.pushL (makeC (someNet n 10 20)) r).length : Nat) : Int) + (((P7.stuckL (makeC (someNet n 10 20)) r).length : Nat) : Int))).toNat < (P7.pushL (makeC (someNet n 10 20)) r).length := by omega
      have hpa := P7.push_at (c := (makeC (someNet n 10 20))) (p := r) hixn
      have hok2 := P7.push_ok hixn
      refine w_any mixed ?_
      refine w_late 9 [12] rfl mixed (by kernel_rfl) (fun c e H h => no_panic h) ?_
      refine w_late 10 [12, 13] rfl mixed (by kernel_rfl) (fun c e H h => no_panic h) ?_
      refine wa_draw [0, 0, 0, 0, 12, 28, 63, 127, 255, 255, 255, 0] [4095, 8191, 16383] (by kernel_rfl) (by kernel_rfl) rfl rfl rfl (hle hρ rfl) ?_
      refine ra_q' rfl (some 109) rfl (j := 0) rfl rfl rfl (n_load_boxagg [_, _, _, _, _, _, _, _, _] rfl rfl (Nat.le_of_ble_eq_true rfl) rfl ⟨rfl, rfl⟩) (by rfl) ?_
      refine ra_q' rfl (some 110) rfl (j := 1) rfl rfl rfl (n_load_boxagg [_, _, _] rfl rfl (Nat.le_of_ble_eq_true rfl) rfl ⟨rfl, rfl⟩) (by rfl) ?_
      refine ra_q' rfl (some 111) rfl (j := 2) rfl rfl rfl (do_move rfl ⟨rfl, rfl⟩) (by rfl) ?_
      refine ra_q' rfl (some 112) rfl (j := 3) rfl rfl rfl (do_move rfl ⟨rfl, rfl⟩) (by rfl) ?_
      refine ra_q' rfl (some 113) rfl (j := 4) rfl rfl rfl (do_ix0 rfl rfl rfl (by first | omega | (simp only [ls] <;> omega)) ⟨rfl, rfl⟩) (by rfl) ?_
      refine ra_q' rfl (some 114) rfl (j := 5) rfl rfl rfl (do_load_arr rfl rfl (by first | omega | (simp only [ls] <;> omega)) rfl ⟨rfl, rfl⟩) (by rfl) ?_
      refine ra_n' rfl (some 115) rfl (j := 6) rfl rfl rfl (g_callN (X' := .tup [.agg [.slc 24 0 ((P7.pushR (makeC (someNet n 10 20)) r ((P7.pushL (makeC (someNet n 10 20)) r).getD (((mv.getD i 0).tmod ((((P7.pushL (makeC (someNet n 10 20)) r).length : Nat) : Int) + (((P7.stuckL (makeC (someNet n 10 20)) r).length : Nat) : Int))).toNat) 0)).1.Res.length) none, .slc 25 0 ((P7.pushR (makeC (someNet n 10 20)) r ((P7.pushL (makeC (someNet n 10 20)) r).getD (((mv.getD i 0).tmod ((((P7.pushL (makeC (someNet n 10 20)) r).length : Nat) : Int) + (((P7.stuckL (makeC (someNet n 10 20)) r).length : Nat) : Int))).toNat) 0)).1.Ex.length) none, .slc 26 0 ((P7.pushR (makeC (someNet n 10 20)) r ((P7.pushL (makeC (someNet n 10 20)) r).getD (((mv.getD i 0).tmod ((((P7.pushL (makeC (someNet n 10 20)) r).length : Nat) : Int) + (((P7.stuckL (makeC (someNet n 10 20)) r).length : Nat) : Int))).toNat) 0)).1.H.length) none], .val (.int .i64 ((P7.pushR (makeC (someNet n 10 20)) r ((P7.pushL (makeC (someNet n 10 20)) r).getD (((mv.getD i 0).tmod ((((P7.pushL (makeC (someNet n 10 20)) r).length : Nat) : Int) + (((P7.stuckL (makeC (someNet n 10 20)) r).length : Nat) : Int))).toNat) 0)).2.1)), .val (.int .i64 ((P7.pushR (makeC (someNet n 10 20)) r ((P7.pushL (makeC (someNet n 10 20)) r).getD (((mv.getD i 0).tmod ((((P7.pushL (makeC (someNet n 10 20)) r).length : Nat) : Int) + (((P7.stuckL (makeC (someNet n 10 20)) r).length : Nat) : Int))).toNat) 0)).2.2))]) (N' := [SO.ints true .i64 ((P7.pushR (makeC (someNet n 10 20)) r ((P7.pushL (makeC (someNet n 10 20)) r).getD (((mv.getD i 0).tmod ((((P7.pushL (makeC (someNet n 10 20)) r).length : Nat) : Int) + (((P7.stuckL (makeC (someNet n 10 20)) r).length : Nat) : Int))).toNat) 0)).1.Res), SO.ints true .i64 ((P7.pushR (makeC (someNet n 10 20)) r ((P7.pushL (makeC (someNet n 10 20)) r).getD (((mv.getD i 0).tmod ((((P7.pushL (makeC (someNet n 10 20)) r).length : Nat) : Int) + (((P7.stuckL (makeC (someNet n 10 20)) r).length : Nat) : Int))).toNat) 0)).1.Ex), SO.ints true .i64 ((P7.pushR (makeC (someNet n 10 20)) r ((P7.pushL (makeC (someNet n 10 20)) r).getD (((mv.getD i 0).tmod ((((P7.pushL (makeC (someNet n 10 20)) r).length : Nat) : Int) + (((P7.stuckL (makeC (someNet n 10 20)) r).length : Nat) : Int))).toNat) 0)).1.H)]) rfl rfl (P7.t_Push (c := (makeC (someNet n 10 20))) (p := r) (a := ((P7.pushL (makeC (someNet n 10 20)) r).getD (((mv.getD i 0).tmod ((((P7.pushL (makeC (someNet n 10 20)) r).length : Nat) : Int) + (((P7.stuckL (makeC (someNet n 10 20)) r).length : Nat) : Int))).toNat) 0)) (hg.toCsrT) (hin) (hpi)) [5, 6, 7, 8, 9, 10, 16, 17, 18] ⟨.inr ⟨_, rfl, srv⟩, .inr ⟨_, rfl, srv⟩, .inr ⟨_, rfl, srv⟩, .inr ⟨_, rfl, srv⟩, .inr ⟨_, rfl, srv⟩, .inr ⟨_, rfl, srv⟩, .inr ⟨_, rfl, srv⟩, .inr ⟨_, rfl, srv⟩, .inr ⟨_, rfl, srv⟩, trivial⟩ rfl rfl rfl rfl rfl ⟨rfl, rfl⟩) (by rfl) (by rfl) (by rfl) ?_
      refine ra_q' rfl (some 108) rfl (j := 7) rfl rfl rfl (do_move rfl ⟨rfl, rfl⟩) (by rfl) ?_
      refine ra_q' rfl (some 116) rfl (j := 8) rfl rfl rfl (do_extract rfl rfl ⟨rfl, rfl⟩) (by rfl) ?_
      refine ra_q' rfl (some 117) rfl (j := 9) rfl rfl rfl (do_extract rfl rfl ⟨rfl, rfl⟩) (by rfl) ?_
      refine ra_q' rfl (some 118) rfl (j := 10) rfl rfl rfl (do_extract rfl rfl ⟨rfl, rfl⟩) (by rfl) ?_
      refine ra_n' rfl (some 20) rfl (j := 11) rfl rfl rfl (g_alloc (n := 27) rfl ⟨rfl, rfl⟩) (by rfl) (by rfl) (by rfl) ?_
      refine n_done ?_
      refine rw_u rfl rfl (n_store_whole rfl rfl rfl rfl rfl rfl ?_)
      refine rw_t 21 rfl rfl rfl (do_assign rfl ?_)
      refine rw_t 22 rfl rfl rfl (do_assign rfl ?_)
      refine rw_nil ?_
      refine w_seq ?_
      refine w_region ?_
      refine rw_t 23 rfl rfl rfl (do_assign rfl ?_)
      refine rw_nil ?_
      refine w_seq ?_
      refine w_block ?_
      refine w_loopS (ι := Nat) (fun j => [(2, .slc 2 0 l.length none), (7, .ptr 14 0 0), (9, .ptr 19 0 0), (10, .val (.int .i64 ((i : Nat) : Int))), (11, .val (.int .u16 (mv.getD i 0))), (15, .slc 20 0 ((P7.pushL (makeC (someNet n 10 20)) r).length) none), (16, .slc 21 0 ((P7.stuckL (makeC (someNet n 10 20)) r).length) none), (17, .val (.int .i64 ((mv.getD i 0).tmod ((((P7.pushL (makeC (someNet n 10 20)) r).length : Nat) : Int) + (((P7.stuckL (makeC (someNet n 10 20)) r).length : Nat) : Int))))), (18, .ptr 22 0 0), (19, .ptr 23 0 0), (20, .ptr 27 0 0), (21, .val (.int .i64 ((P7.pushR (makeC (someNet n 10 20)) r ((P7.pushL (makeC (someNet n 10 20)) r).getD (((mv.getD i 0).tmod ((((P7.pushL (makeC (someNet n 10 20)) r).length : Nat) : Int) + (((P7.stuckL (makeC (someNet n 10 20)) r).length : Nat) : Int))).toNat) 0)).2.1))), (22, .val (.int .i64 ((P7.pushR (makeC (someNet n 10 20)) r ((P7.pushL (makeC (someNet n 10 20)) r).getD (((mv.getD i 0).tmod ((((P7.pushL (makeC (someNet n 10 20)) r).length : Nat) : Int) + (((P7.stuckL (makeC (someNet n 10 20)) r).length : Nat) : Int))).toNat) 0)).2.2))), (23, .val (.int .i64 ((j : Nat) : Int))), (45, .slc 1 0 (min mv.length 80) none), (46, .val (.int .i64 (((min mv.length 80) : Nat) : Int))), (47, .val (.int .i64 ((i : Nat) : Int))), (48, .val (.bool (decide (((i : Nat) : Int) < (((min mv.length 80) : Nat) : Int))))), (49, .val (.int .i64 ((i : Nat) : Int))), (50, .ptr 1 i 0), (51, .val (.int .u16 (mv.getD i 0))), (84, .tup [.slc 20 0 ((P7.pushL (makeC (someNet n 10 20)) r).length) none, .slc 21 0 ((P7.stuckL (makeC (someNet n 10 20)) r).length) none]), (85, .agg [.val (.int .i64 ((makeC (someNet n 10 20)).N)), .val (.int .i64 ((makeC (someNet n 10 20)).S)), .val (.int .i64 ((makeC (someNet n 10 20)).T)), .slc 5 0 ((makeC (someNet n 10 20)).First.length) none, .slc 6 0 ((makeC (someNet n 10 20)).Head.length) none, .slc 7 0 ((makeC (someNet n 10 20)).Rev.length) none, .slc 8 0 ((makeC (someNet n 10 20)).Cap.length) none, .slc 9 0 ((makeC (someNet n 10 20)).Arc.length) none, .slc 10 0 ((makeC (someNet n 10 20)).Back.length) none]), (86, .agg [.slc 16 0 r.Res.length none, .slc 17 0 r.Ex.length none, .slc 18 0 r.H.length none]), (87, .tup [.slc 20 0 ((P7.pushL (makeC (someNet n 10 20)) r).length) none, .slc 21 0 ((P7.stuckL (makeC (someNet n 10 20)) r).length) none]), (88, .slc 20 0 ((P7.pushL (makeC (someNet n 10 20)) r).length) none), (89, .slc 21 0 ((P7.stuckL (makeC (someNet n 10 20)) r).length) none), (90, .slc 20 0 ((P7.pushL (makeC (someNet n 10 20)) r).length) none), (91, .val (.int .i64 (((P7.pushL (makeC (someNet n 10 20)) r).length : Nat) : Int))), (92, .slc 21 0 ((P7.stuckL (makeC (someNet n 10 20)) r).length) none), (93, .val (.int .i64 (((P7.stuckL (makeC (someNet n 10 20)) r).length : Nat) : Int))), (94, .val (.int .i64 ((((P7.pushL (makeC (someNet n 10 20)) r).length : Nat) : Int) + (((P7.stuckL (makeC (someNet n 10 20)) r).length : Nat) : Int)))), (95, .val (.bool (((((P7.pushL (makeC (someNet n 10 20)) r).length : Nat) : Int) + (((P7.stuckL (makeC (someNet n 10 20)) r).length : Nat) : Int)) == 0))), (96, .val (.int .u16 (mv.getD i 0))), (97, .val (.int .i64 (mv.getD i 0))), (98, .slc 20 0 ((P7.pushL (makeC (someNet n 10 20)) r).length) none), (99, .val (.int .i64 (((P7.pushL (makeC (someNet n 10 20)) r).length : Nat) : Int))), (100, .slc 21 0 ((P7.stuckL (makeC (someNet n 10 20)) r).length) none), (101, .val (.int .i64 (((P7.stuckL (makeC (someNet n 10 20)) r).length : Nat) : Int))), (102, .val (.int .i64 ((((P7.pushL (makeC (someNet n 10 20)) r).length : Nat) : Int) + (((P7.stuckL (makeC (someNet n 10 20)) r).length : Nat) : Int)))), (103, .val (.int .i64 ((mv.getD i 0).tmod ((((P7.pushL (makeC (someNet n 10 20)) r).length : Nat) : Int) + (((P7.stuckL (makeC (someNet n 10 20)) r).length : Nat) : Int))))), (104, .val (.int .i64 ((mv.getD i 0).tmod ((((P7.pushL (makeC (someNet n 10 20)) r).length : Nat) : Int) + (((P7.stuckL (makeC (someNet n 10 20)) r).length : Nat) : Int))))), (105, .slc 20 0 ((P7.pushL (makeC (someNet n 10 20)) r).length) none), (106, .val (.int .i64 (((P7.pushL (makeC (someNet n 10 20)) r).length : Nat) : Int))), (107, .val (.bool (decide ((mv.getD i 0).tmod ((((P7.pushL (makeC (someNet n 10 20)) r).length : Nat) : Int) + (((P7.stuckL (makeC (someNet n 10 20)) r).length : Nat) : Int)) < (((P7.pushL (makeC (someNet n 10 20)) r).length : Nat) : Int))))), (108, .tup [.agg [.slc 24 0 ((P7.pushR (makeC (someNet n 10 20)) r ((P7.pushL (makeC (someNet n 10 20)) r).getD (((mv.getD i 0).tmod ((((P7.pushL (makeC (someNet n 10 20)) r).length : Nat) : Int) + (((P7.stuckL (makeC (someNet n 10 20)) r).length : Nat) : Int))).toNat) 0)).1.Res.length) none, .slc 25 0 ((P7.pushR (makeC (someNet n 10 20)) r ((P7.pushL (makeC (someNet n 10 20)) r).getD (((mv.getD i 0).tmod ((((P7.pushL (makeC (someNet n 10 20)) r).length : Nat) : Int) + (((P7.stuckL (makeC (someNet n 10 20)) r).length : Nat) : Int))).toNat) 0)).1.Ex.length) none, .slc 26 0 ((P7.pushR (makeC (someNet n 10 20)) r ((P7.pushL (makeC (someNet n 10 20)) r).getD (((mv.getD i 0).tmod ((((P7.pushL (makeC (someNet n 10 20)) r).length : Nat) : Int) + (((P7.stuckL (makeC (someNet n 10 20)) r).length : Nat) : Int))).toNat) 0)).1.H.length) none], .val (.int .i64 ((P7.pushR (makeC (someNet n 10 20)) r ((P7.pushL (makeC (someNet n 10 20)) r).getD (((mv.getD i 0).tmod ((((P7.pushL (makeC (someNet n 10 20)) r).length : Nat) : Int) + (((P7.stuckL (makeC (someNet n 10 20)) r).length : Nat) : Int))).toNat) 0)).2.1)), .val (.int .i64 ((P7.pushR (makeC (someNet n 10 20)) r ((P7.pushL (makeC (someNet n 10 20)) r).getD (((mv.getD i 0).tmod ((((P7.pushL (makeC (someNet n 10 20)) r).length : Nat) : Int) + (((P7.stuckL (makeC (someNet n 10 20)) r).length : Nat) : Int))).toNat) 0)).2.2))]), (109, .agg [.val (.int .i64 ((makeC (someNet n 10 20)).N)), .val (.int .i64 ((makeC (someNet n 10 20)).S)), .val (.int .i64 ((makeC (someNet n 10 20)).T)), .slc 5 0 ((makeC (someNet n 10 20)).First.length) none, .slc 6 0 ((makeC (someNet n 10 20)).Head.length) none, .slc 7 0 ((makeC (someNet n 10 20)).Rev.length) none, .slc 8 0 ((makeC (someNet n 10 20)).Cap.length) none, .slc 9 0 ((makeC (someNet n 10 20)).Arc.length) none, .slc 10 0 ((makeC (someNet n 10 20)).Back.length) none]), (110, .agg [.slc 16 0 r.Res.length none, .slc 17 0 r.Ex.length none, .slc 18 0 r.H.length none]), (111, .slc 20 0 ((P7.pushL (makeC (someNet n 10 20)) r).length) none), (112, .val (.int .i64 ((mv.getD i 0).tmod ((((P7.pushL (makeC (someNet n 10 20)) r).length : Nat) : Int) + (((P7.stuckL (makeC (someNet n 10 20)) r).length : Nat) : Int))))), (113, .ptr 20 (((mv.getD i 0).tmod ((((P7.pushL (makeC (someNet n 10 20)) r).length : Nat) : Int) + (((P7.stuckL (makeC (someNet n 10 20)) r).length : Nat) : Int))).toNat) 0), (114, .val (.int .i64 ((P7.pushL (makeC (someNet n 10 20)) r).getD (((mv.getD i 0).tmod ((((P7.pushL (makeC (someNet n 10 20)) r).length : Nat) : Int) + (((P7.stuckL (makeC (someNet n 10 20)) r).length : Nat) : Int))).toNat) 0))), (115, .tup [.agg [.slc 24 0 ((P7.pushR (makeC (someNet n 10 20)) r ((P7.pushL (makeC (someNet n 10 20)) r).getD (((mv.getD i 0).tmod ((((P7.pushL (makeC (someNet n 10 20)) r).length : Nat) : Int) + (((P7.stuckL (makeC (someNet n 10 20)) r).length : Nat) : Int))).toNat) 0)).1.Res.length) none, .slc 25 0 ((P7.pushR (makeC (someNet n 10 20)) r ((P7.pushL (makeC (someNet n 10 20)) r).getD (((mv.getD i 0).tmod ((((P7.pushL (makeC (someNet n 10 20)) r).length : Nat) : Int) + (((P7.stuckL (makeC (someNet n 10 20)) r).length : Nat) : Int))).toNat) 0)).1.Ex.length) none, .slc 26 0 ((P7.pushR (makeC (someNet n 10 20)) r ((P7.pushL (makeC (someNet n 10 20)) r).getD (((mv.getD i 0).tmod ((((P7.pushL (makeC (someNet n 10 20)) r).length : Nat) : Int) + (((P7.stuckL (makeC (someNet n 10 20)) r).length : Nat) : Int))).toNat) 0)).1.H.length) none], .val (.int .i64 ((P7.pushR (makeC (someNet n 10 20)) r ((P7.pushL (makeC (someNet n 10 20)) r).getD (((mv.getD i 0).tmod ((((P7.pushL (makeC (someNet n 10 20)) r).length : Nat) : Int) + (((P7.stuckL (makeC (someNet n 10 20)) r).length : Nat) : Int))).toNat) 0)).2.1)), .val (.int .i64 ((P7.pushR (makeC (someNet n 10 20)) r ((P7.pushL (makeC (someNet n 10 20)) r).getD (((mv.getD i 0).tmod ((((P7.pushL (makeC (someNet n 10 20)) r).length : Nat) : Int) + (((P7.stuckL (makeC (someNet n 10 20)) r).length : Nat) : Int))).toNat) 0)).2.2))]), (116, .agg [.slc 24 0 ((P7.pushR (makeC (someNet n 10 20)) r ((P7.pushL (makeC (someNet n 10 20)) r).getD (((mv.getD i 0).tmod ((((P7.pushL (makeC (someNet n 10 20)) r).length : Nat) : Int) + (((P7.stuckL (makeC (someNet n 10 20)) r).length : Nat) : Int))).toNat) 0)).1.Res.length) none, .slc 25 0 ((P7.pushR (makeC (someNet n 10 20)) r ((P7.pushL (makeC (someNet n 10 20)) r).getD (((mv.getD i 0).tmod ((((P7.pushL (makeC (someNet n 10 20)) r).length : Nat) : Int) + (((P7.stuckL (makeC (someNet n 10 20)) r).length : Nat) : Int))).toNat) 0)).1.Ex.length) none, .slc 26 0 ((P7.pushR (makeC (someNet n 10 20)) r ((P7.pushL (makeC (someNet n 10 20)) r).getD (((mv.getD i 0).tmod ((((P7.pushL (makeC (someNet n 10 20)) r).length : Nat) : Int) + (((P7.stuckL (makeC (someNet n 10 20)) r).length : Nat) : Int))).toNat) 0)).1.H.length) none]), (117, .val (.int .i64 ((P7.pushR (makeC (someNet n 10 20)) r ((P7.pushL (makeC (someNet n 10 20)) r).getD (((mv.getD i 0).tmod ((((P7.pushL (makeC (someNet n 10 20)) r).length : Nat) : Int) + (((P7.stuckL (makeC (someNet n 10 20)) r).length : Nat) : Int))).toNat) 0)).2.1))), (118, .val (.int .i64 ((P7.pushR (makeC (someNet n 10 20)) r ((P7.pushL (makeC (someNet n 10 20)) r).getD (((mv.getD i 0).tmod ((((P7.pushL (makeC (someNet n 10 20)) r).length : Nat) : Int) + (((P7.stuckL (makeC (someNet n 10 20)) r).length : Nat) : Int))).toNat) 0)).2.2)))]) (fun j => [SO.arcs false n.arcs, SO.ints false .u16 mv, SO.acts false l, .box [.val (.int .i64 n.N), .val (.int .i64 n.S), .val (.int .i64 n.T), .slc 0 0 n.arcs.length none], SO.arcs true ((someNet n 10 20).arcs), SO.ints true .i64 ((makeC (someNet n 10 20)).First), SO.ints true .i64 ((makeC (someNet n 10 20)).Head), SO.ints true .i64 ((makeC (someNet n 10 20)).Rev), SO.ints true .i64 ((makeC (someNet n 10 20)).Cap), SO.ints true .i64 ((makeC (someNet n 10 20)).Arc), SO.bools true ((makeC (someNet n 10 20)).Back), SO.ints true .i64 ((begP (someNet n 10 20)).Res), SO.ints true .i64 ((begP (someNet n 10 20)).Ex), SO.ints true .i64 ((begP (someNet n 10 20)).H), .box [.val (.int .i64 ((makeC (someNet n 10 20)).N)), .val (.int .i64 ((makeC (someNet n 10 20)).S)), .val (.int .i64 ((makeC (someNet n 10 20)).T)), .slc 5 0 ((makeC (someNet n 10 20)).First.length) none, .slc 6 0 ((makeC (someNet n 10 20)).Head.length) none, .slc 7 0 ((makeC (someNet n 10 20)).Rev.length) none, .slc 8 0 ((makeC (someNet n 10 20)).Cap.length) none, .slc 9 0 ((makeC (someNet n 10 20)).Arc.length) none, .slc 10 0 ((makeC (someNet n 10 20)).Back.length) none], .box [.slc 11 0 ((begP (someNet n 10 20)).Res.length) none, .slc 12 0 ((begP (someNet n 10 20)).Ex.length) none, .slc 13 0 ((begP (someNet n 10 20)).H.length) none], SO.ints true .i64 r.Res, SO.ints true .i64 r.Ex, SO.ints true .i64 r.H, .box [.slc 16 0 r.Res.length none, .slc 17 0 r.Ex.length none, .slc 18 0 r.H.length none], SO.ints true .i64 (P7.pushL (makeC (someNet n 10 20)) r), SO.ints true .i64 (P7.stuckL (makeC (someNet n 10 20)) r), .box [.val (.int .i64 0), .val (.int .u8 0), .val (.int .i64 0), .val (.int .i64 0), .val (.int .i64 0), .val (.int .i64 0), .val (.int .i64 0)], .box [.val (.slice none 0 0), .val (.slice none 0 0), .val (.slice none 0 0)], SO.ints true .i64 ((P7.pushR (makeC (someNet n 10 20)) r ((P7.pushL (makeC (someNet n 10 20)) r).getD (((mv.getD i 0).tmod ((((P7.pushL (makeC (someNet n 10 20)) r).length : Nat) : Int) + (((P7.stuckL (makeC (someNet n 10 20)) r).length : Nat) : Int))).toNat) 0)).1.Res), SO.ints true .i64 ((P7.pushR (makeC (someNet n 10 20)) r ((P7.pushL (makeC (someNet n 10 20)) r).getD (((mv.getD i 0).tmod ((((P7.pushL (makeC (someNet n 10 20)) r).length : Nat) : Int) + (((P7.stuckL (makeC (someNet n 10 20)) r).length : Nat) : Int))).toNat) 0)).1.Ex), SO.ints true .i64 ((P7.pushR (makeC (someNet n 10 20)) r ((P7.pushL (makeC (someNet n 10 20)) r).getD (((mv.getD i 0).tmod ((((P7.pushL (makeC (someNet n 10 20)) r).length : Nat) : Int) + (((P7.stuckL (makeC (someNet n 10 20)) r).length : Nat) : Int))).toNat) 0)).1.H), .box [.slc 24 0 ((P7.pushR (makeC (someNet n 10 20)) r ((P7.pushL (makeC (someNet n 10 20)) r).getD (((mv.getD i 0).tmod ((((P7.pushL (makeC (someNet n 10 20)) r).length : Nat) : Int) + (((P7.stuckL (makeC (someNet n 10 20)) r).length : Nat) : Int))).toNat) 0)).1.Res.length) none, .slc 25 0 ((P7.pushR (makeC (someNet n 10 20)) r ((P7.pushL (makeC (someNet n 10 20)) r).getD (((mv.getD i 0).tmod ((((P7.pushL (makeC (someNet n 10 20)) r).length : Nat) : Int) + (((P7.stuckL (makeC (someNet n 10 20)) r).length : Nat) : Int))).toNat) 0)).1.Ex.length) none, .slc 26 0 ((P7.pushR (makeC (someNet n 10 20)) r ((P7.pushL (makeC (someNet n 10 20)) r).getD (((mv.getD i 0).tmod ((((P7.pushL (makeC (someNet n 10 20)) r).length : Nat) : Int) + (((P7.stuckL (makeC (someNet n 10 20)) r).length : Nat) : Int))).toNat) 0)).1.H.length) none]]) (fun j => (makeC (someNet n 10 20)).N.toNat - j) (fun j => j < (makeC (someNet n 10 20)).N.toNat ∧ (makeC (someNet n 10 20)).First.getD j 0 ≤ ((P7.pushL (makeC (someNet n 10 20)) r).getD ((mv.getD i 0).tmod ((((P7.pushL (makeC (someNet n 10 20)) r).length : Nat) : Int) + (((P7.stuckL (makeC (someNet n 10 20)) r).length : Nat) : Int))).toNat 0)) (0) [0, 1, 2, 3, 4, 5, 6, 7, 8, 9, 10, 11, 12, 13, 14, 15, 16, 17, 18, 19, 20, 21, 22, 23, 24, 25, 26, 27] (⟨by omega, by rw [hf0]; exact hpa.1.1⟩) ⟨shR rfl, shR rfl, shR rfl, shR rfl, shR rfl, shR rfl, shR rfl, shR rfl, shR rfl, shR rfl, shR rfl, shR rfl, shR rfl, shR rfl, shR rfl, shR rfl, shR rfl, shR rfl, shR rfl, shR rfl, shR rfl, shR rfl, shR rfl, shR rfl, shR rfl, shR rfl, shR rfl, shR rfl, trivial⟩ rfl (pre_ok rfl) hρ ⟨⟨_, rfl, rfl⟩, ⟨_, rfl, rfl⟩, ⟨_, rfl, rfl⟩, ⟨_, rfl, rfl⟩, ⟨_, rfl, rfl⟩, ⟨_, rfl, rfl⟩, ⟨_, rfl, rfl⟩, ⟨_, rfl, rfl⟩, ⟨_, rfl, rfl⟩, ⟨_, rfl, rfl⟩, ⟨_, rfl, rfl⟩, ⟨_, rfl, rfl⟩, ⟨_, rfl, rfl⟩, ⟨_, rfl, rfl⟩, ⟨_, rfl, rfl⟩, ⟨_, rfl, rfl⟩, ⟨_, rfl, rfl⟩, ⟨_, rfl, rfl⟩, ⟨_, rfl, rfl⟩, ⟨_, rfl, rfl⟩, ⟨_, rfl, rfl⟩, ⟨_, rfl, rfl⟩, ⟨_, rfl, rfl⟩, ⟨_, rfl, rfl⟩, ⟨_, rfl, rfl⟩, ⟨_, rfl, rfl⟩, ⟨_, rfl, rfl⟩, ⟨_, rfl, rfl⟩, ⟨_, rfl, rfl⟩, ⟨_, rfl, rfl⟩, ⟨_, rfl, rfl⟩, ⟨_, rfl, rfl⟩, ⟨_, rfl, rfl⟩, ⟨_, rfl, rfl⟩, ⟨_, rfl, rfl⟩, ⟨_, rfl, rfl⟩, ⟨_, rfl, rfl⟩, ⟨_, rfl, rfl⟩, ⟨_, rfl, rfl⟩, ⟨_, rfl, rfl⟩, ⟨_, rfl, rfl⟩, ⟨_, rfl, rfl⟩, ⟨_, rfl, rfl⟩, ⟨_, rfl, rfl⟩, ⟨_, rfl, rfl⟩, ⟨_, rfl, rfl⟩, ⟨_, rfl, rfl⟩, ⟨_, rfl, rfl⟩, ⟨_, rfl, rfl⟩, ⟨_, rfl, rfl⟩, ⟨_, rfl, rfl⟩, ⟨_, rfl, rfl⟩, ⟨_, rfl, rfl⟩, ⟨_, rfl, rfl⟩, ⟨_, rfl, rfl⟩, ⟨_, rfl, rfl⟩, trivial⟩ ?_
      intro j gj
      have hj1 : ((j : Int) + 1).toNat = j + 1 := by omega
      refine w_seq ?_
      have hmo := hg.mono j gj.1
      have hfl := hg.first
      refine w_seqB 136 (((((j : Nat) : Int) + 1) < (makeC (someNet n 10 20)).N ∧ (((makeC (someNet n 10 20)).First).getD ((((j : Nat) : Int) + 1).toNat) 0) ≤ ((P7.pushL (makeC (someNet n 10 20)) r).getD (((mv.getD i 0).tmod ((((P7.pushL (makeC (someNet n 10 20)) r).length : Nat) : Int) + (((P7.stuckL (makeC (someNet n 10 20)) r).length : Nat) : Int))).toNat) 0))) ?_ ?_
      · -- region 21
        refine w_draw mixed [0, 1, 0, 4, 15, 31, 63, 127, 63, 319, 1023, 2047, 63, 63, 12351, 28735] [65535, 131071] (by kernel_rfl) (by kernel_rfl) rfl rfl rfl (hle hρ rfl) ?_
        refine ra_q (j := 0) rfl rfl rfl rfl (do_move rfl ⟨rfl, rfl⟩) (by rfl) ?_
        refine ra_q (j := 1) rfl rfl rfl rfl (do_add rfl rfl (by omega) ⟨rfl, rfl⟩) (by rfl) ?_
        refine ra_q (j := 2) rfl rfl rfl rfl (do_fieldaddr rfl ⟨rfl, rfl⟩) (by rfl) ?_
        refine ra_q (j := 3) rfl rfl rfl rfl (do_load_box rfl rfl rfl ⟨rfl, rfl⟩) (by rfl) ?_
        refine ra_q (j := 4) rfl rfl rfl rfl (do_bin rfl rfl rfl ⟨rfl, rfl⟩) (by rfl) ?_
        refine ra_q (j := 5) rfl rfl rfl rfl (do_move rfl ⟨rfl, rfl⟩) (by rfl) ?_
        refine ra_case 124 rfl (fun g3 => ?_) (fun g3 => ?_)
        · have kg3 := g3
          try simp only [bs] at kg3
          refine ra_gt (j := 6) rfl rfl rfl rfl g3 rfl rfl rfl (do_fieldaddr rfl ⟨rfl, rfl⟩) (by rfl) ?_
          refine ra_gt (j := 7) rfl rfl rfl rfl g3 rfl rfl rfl (do_load_box rfl rfl rfl ⟨rfl, rfl⟩) (by rfl) ?_
          refine ra_gt (j := 8) rfl rfl rfl rfl g3 rfl rfl rfl (do_move rfl ⟨rfl, rfl⟩) (by rfl) ?_
          refine ra_gt (j := 9) rfl rfl rfl rfl g3 rfl rfl rfl (do_add rfl rfl (by omega) ⟨rfl, rfl⟩) (by rfl) ?_
          refine ra_gt (j := 10) rfl rfl rfl rfl g3 rfl rfl rfl (do_ix0 rfl rfl rfl (by first | omega | (simp only [ls] <;> omega)) ⟨rfl, rfl⟩) (by rfl) ?_
          refine ra_gt (j := 11) rfl rfl rfl rfl g3 rfl rfl rfl (do_load_arr rfl rfl (by first | omega | (simp only [ls] <;> omega)) rfl ⟨rfl, rfl⟩) (by rfl) ?_
          refine ra_gt (j := 12) rfl rfl rfl rfl g3 rfl rfl rfl (do_move rfl ⟨rfl, rfl⟩) (by rfl) ?_
          refine ra_gt (j := 13) rfl rfl rfl rfl g3 rfl rfl rfl (do_move rfl ⟨rfl, rfl⟩) (by rfl) ?_
          refine ra_gt (j := 14) rfl rfl rfl rfl g3 rfl rfl rfl (do_ix0 rfl rfl rfl (by first | omega | (simp only [ls] <;> omega)) ⟨rfl, rfl⟩) (by rfl) ?_
          refine ra_gt (j := 15) rfl rfl rfl rfl g3 rfl rfl rfl (do_load_arr rfl rfl (by first | omega | (simp only [ls] <;> omega)) rfl ⟨rfl, rfl⟩) (by rfl) ?_
          refine n_done ?_
          refine rw_gt 135 5 124 true rfl rfl rfl rfl rfl rfl g3 (do_bin rfl rfl rfl ?_)
          refine rw_t 136 rfl rfl rfl (do_pick_t rfl g3 rfl ?_)
          refine rw_nil ?_
          refine ⟨rfl, ⟨_, rfl, by first | (simp; done) | (simp only [bs]; omega) | (simp [*]; done) | (simp; omega) | (constructor <;> intro h <;> simp_all <;> omega)⟩, ?_⟩
          repeat (refine ⟨⟨_, rfl, rfl⟩, ?_⟩)
          exact trivial
        · have kg3 := g3
          try simp only [bs] at kg3
          refine ra_gf (j := 6) rfl rfl rfl rfl (by rw [g3]; decide) rfl rfl rfl ?_
          refine ra_gf (j := 7) rfl rfl rfl rfl (by rw [g3]; decide) rfl rfl rfl ?_
          refine ra_gf (j := 8) rfl rfl rfl rfl (by rw [g3]; decide) rfl rfl rfl ?_
          refine ra_gf (j := 9) rfl rfl rfl rfl (by rw [g3]; decide) rfl rfl rfl ?_
          refine ra_gf (j := 10) rfl rfl rfl rfl (by rw [g3]; decide) rfl rfl rfl ?_
          refine ra_gf (j := 11) rfl rfl rfl rfl (by rw [g3]; decide) rfl rfl rfl ?_
          refine ra_gf (j := 12) rfl rfl rfl rfl (by rw [g3]; decide) rfl rfl rfl ?_
          refine ra_gf (j := 13) rfl rfl rfl rfl (by rw [g3]; decide) rfl rfl rfl ?_
          refine ra_gf (j := 14) rfl rfl rfl rfl (by rw [g3]; decide) rfl rfl rfl ?_
          refine ra_gf (j := 15) rfl rfl rfl rfl (by rw [g3]; decide) rfl rfl rfl ?_
          refine n_done ?_
          refine rw_gf 135 5 124 true rfl rfl rfl rfl rfl rfl (by rw [g3]; decide) ?_
          refine rw_t 136 rfl rfl rfl (do_pick_f rfl g3 rfl ?_)
          refine rw_nil ?_
          refine ⟨rfl, ⟨_, rfl, by first | (simp; done) | (simp only [bs]; omega) | (simp [*]; done) | (simp; omega) | (constructor <;> intro h <;> simp_all <;> omega)⟩, ?_⟩
          repeat (refine ⟨⟨_, rfl, rfl⟩, ?_⟩)
          exact trivial
      intro b2 hb2
      refine w_condP hb2 rfl (fun hc7 => ?_) (fun hc7 => ?_)
      rotate_left
      · refine w_exit ?_
        refine w_seq ?_
        refine w_seq ?_
        refine w_region ?_
        refine rw_t 139 rfl rfl rfl (do_move rfl ?_)
        refine rw_t 140 rfl rfl rfl (do_bin rfl rfl rfl ?_)
        refine rw_nil ?_
        refine w_cond rfl (fun hc8 => ?_) (fun hc8 => ?_)
        · exfalso; rw [hok2] at hc8; exact absurd hc8 (by decide)
        refine w_skip ?_
        have hcs := P7.push_case hcq gr hixn (j := j) gj.1 gj.2 (by rw [hj1] at hc7; exact hc7)
        have hhj := hin.hi j
        refine w_midS1 (ι := Unit) (fun _ => [(2, .slc 2 0 l.length none), (7, .ptr 14 0 0), (9, .ptr 19 0 0), (10, .val (.int .i64 ((i : Nat) : Int))), (11, .val (.int .u16 (mv.getD i 0))), (15, .slc 20 0 ((P7.pushL (makeC (someNet n 10 20)) r).length) none), (16, .slc 21 0 ((P7.stuckL (makeC (someNet n 10 20)) r).length) none), (17, .val (.int .i64 ((mv.getD i 0).tmod ((((P7.pushL (makeC (someNet n 10 20)) r).length : Nat) : Int) + (((P7.stuckL (makeC (someNet n 10 20)) r).length : Nat) : Int))))), (18, .ptr 22 0 0), (19, .ptr 23 0 0), (20, .ptr 27 0 0), (21, .val (.int .i64 ((P7.pushR (makeC (someNet n 10 20)) r ((P7.pushL (makeC (someNet n 10 20)) r).getD (((mv.getD i 0).tmod ((((P7.pushL (makeC (someNet n 10 20)) r).length : Nat) : Int) + (((P7.stuckL (makeC (someNet n 10 20)) r).length : Nat) : Int))).toNat) 0)).2.1))), (22, .val (.int .i64 ((P7.pushR (makeC (someNet n 10 20)) r ((P7.pushL (makeC (someNet n 10 20)) r).getD (((mv.getD i 0).tmod ((((P7.pushL (makeC (someNet n 10 20)) r).length : Nat) : Int) + (((P7.stuckL (makeC (someNet n 10 20)) r).length : Nat) : Int))).toNat) 0)).2.2))), (23, .val (.int .i64 ((j : Nat) : Int))), (45, .slc 1 0 (min mv.length 80) none), (46, .val (.int .i64 (((min mv.length 80) : Nat) : Int))), (47, .val (.int .i64 ((i : Nat) : Int))), (48, .val (.bool (decide (((i : Nat) : Int) < (((min mv.length 80) : Nat) : Int))))), (49, .val (.int .i64 ((i : Nat) : Int))), (50, .ptr 1 i 0), (51, .val (.int .u16 (mv.getD i 0))), (84, .tup [.slc 20 0 ((P7.pushL (makeC (someNet n 10 20)) r).length) none, .slc 21 0 ((P7.stuckL (makeC (someNet n 10 20)) r).length) none]), (85, .agg [.val (.int .i64 ((makeC (someNet n 10 20)).N)), .val (.int .i64 ((makeC (someNet n 10 20)).S)), .val (.int .i64 ((makeC (someNet n 10 20)).T)), .slc 5 0 ((makeC (someNet n 10 20)).First.length) none, .slc 6 0 ((makeC (someNet n 10 20)).Head.length) none, .slc 7 0 ((makeC (someNet n 10 20)).Rev.length) none, .slc 8 0 ((makeC (someNet n 10 20)).Cap.length) none, .slc 9 0 ((makeC (someNet n 10 20)).Arc.length) none, .slc 10 0 ((makeC (someNet n 10 20)).Back.length) none]), (86, .agg [.slc 16 0 r.Res.length none, .slc 17 0 r.Ex.length none, .slc 18 0 r.H.length none]), (87, .tup [.slc 20 0 ((P7.pushL (makeC (someNet n 10 20)) r).length) none, .slc 21 0 ((P7.stuckL (makeC (someNet n 10 20)) r).length) none]), (88, .slc 20 0 ((P7.pushL (makeC (someNet n 10 20)) r).length) none), (89, .slc 21 0 ((P7.stuckL (makeC (someNet n 10 20)) r).length) none), (90, .slc 20 0 ((P7.pushL (makeC (someNet n 10 20)) r).length) none), (91, .val (.int .i64 (((P7.pushL (makeC (someNet n 10 20)) r).length : Nat) : Int))), (92, .slc 21 0 ((P7.stuckL (makeC (someNet n 10 20)) r).length) none), (93, .val (.int .i64 (((P7.stuckL (makeC (someNet n 10 20)) r).length : Nat) : Int))), (94, .val (.int .i64 ((((P7.pushL (makeC (someNet n 10 20)) r).length : Nat) : Int) + (((P7.stuckL (makeC (someNet n 10 20)) r).length : Nat) : Int)))), (95, .val (.bool (((((P7.pushL (makeC (someNet n 10 20)) r).length : Nat) : Int) + (((P7.stuckL (makeC (someNet n 10 20)) r).length : Nat) : Int)) == 0))), (96, .val (.int .u16 (mv.getD i 0))), (97, .val (.int .i64 (mv.getD i 0))), (98, .slc 20 0 ((P7.pushL (makeC (someNet n 10 20)) r).length) none), (99, .val (.int .i64 (((P7.pushL (makeC (someNet n 10 20)) r).length : Nat) : Int))), (100, .slc 21 0 ((P7.stuckL (makeC (someNet n 10 20)) r).length) none), (101, .val (.int .i64 (((P7.stuckL (makeC (someNet n 10 20)) r).length : Nat) : Int))), (102, .val (.int .i64 ((((P7.pushL (makeC (someNet n 10 20)) r).length : Nat) : Int) + (((P7.stuckL (makeC (someNet n 10 20)) r).length : Nat) : Int)))), (103, .val (.int .i64 ((mv.getD i 0).tmod ((((P7.pushL (makeC (someNet n 10 20)) r).length : Nat) : Int) + (((P7.stuckL (makeC (someNet n 10 20)) r).length : Nat) : Int))))), (104, .val (.int .i64 ((mv.getD i 0).tmod ((((P7.pushL (makeC (someNet n 10 20)) r).length : Nat) : Int) + (((P7.stuckL (makeC (someNet n 10 20)) r).length : Nat) : Int))))), (105, .slc 20 0 ((P7.pushL (makeC (someNet n 10 20)) r).length) none), (106, .val (.int .i64 (((P7.pushL (makeC (someNet n 10 20)) r).length : Nat) : Int))), (107, .val (.bool (decide ((mv.getD i 0).tmod ((((P7.pushL (makeC (someNet n 10 20)) r).length : Nat) : Int) + (((P7.stuckL (makeC (someNet n 10 20)) r).length : Nat) : Int)) < (((P7.pushL (makeC (someNet n 10 20)) r).length : Nat) : Int))))), (108, .tup [.agg [.slc 24 0 ((P7.pushR (makeC (someNet n 10 20)) r ((P7.pushL (makeC (someNet n 10 20)) r).getD (((mv.getD i 0).tmod ((((P7.pushL (makeC (someNet n 10 20)) r).length : Nat) : Int) + (((P7.stuckL (makeC (someNet n 10 20)) r).length : Nat) : Int))).toNat) 0)).1.Res.length) none, .slc 25 0 ((P7.pushR (makeC (someNet n 10 20)) r ((P7.pushL (makeC (someNet n 10 20)) r).getD (((mv.getD i 0).tmod ((((P7.pushL (makeC (someNet n 10 20)) r).length : Nat) : Int) + (((P7.stuckL (makeC (someNet n 10 20)) r).length : Nat) : Int))).toNat) 0)).1.Ex.length) none, .slc 26 0 ((P7.pushR (makeC (someNet n 10 20)) r ((P7.pushL (makeC (someNet n 10 20)) r).getD (((mv.getD i 0).tmod ((((P7.pushL (makeC (someNet n 10 20)) r).length : Nat) : Int) + (((P7.stuckL (makeC (someNet n 10 20)) r).length : Nat) : Int))).toNat) 0)).1.H.length) none], .val (.int .i64 ((P7.pushR (makeC (someNet n 10 20)) r ((P7.pushL (makeC (someNet n 10 20)) r).getD (((mv.getD i 0).tmod ((((P7.pushL (makeC (someNet n 10 20)) r).length : Nat) : Int) + (((P7.stuckL (makeC (someNet n 10 20)) r).length : Nat) : Int))).toNat) 0)).2.1)), .val (.int .i64 ((P7.pushR (makeC (someNet n 10 20)) r ((P7.pushL (makeC (someNet n 10 20)) r).getD (((mv.getD i 0).tmod ((((P7.pushL (makeC (someNet n 10 20)) r).length : Nat) : Int) + (((P7.stuckL (makeC (someNet n 10 20)) r).length : Nat) : Int))).toNat) 0)).2.2))]), (109, .agg [.val (.int .i64 ((makeC (someNet n 10 20)).N)), .val (.int .i64 ((makeC (someNet n 10 20)).S)), .val (.int .i64 ((makeC (someNet n 10 20)).T)), .slc 5 0 ((makeC (someNet n 10 20)).First.length) none, .slc 6 0 ((makeC (someNet n 10 20)).Head.length) none, .slc 7 0 ((makeC (someNet n 10 20)).Rev.length) none, .slc 8 0 ((makeC (someNet n 10 20)).Cap.length) none, .slc 9 0 ((makeC (someNet n 10 20)).Arc.length) none, .slc 10 0 ((makeC (someNet n 10 20)).Back.length) none]), (110, .agg [.slc 16 0 r.Res.length none, .slc 17 0 r.Ex.length none, .slc 18 0 r.H.length none]), (111, .slc 20 0 ((P7.pushL (makeC (someNet n 10 20)) r).length) none), (112, .val (.int .i64 ((mv.getD i 0).tmod ((((P7.pushL (makeC (someNet n 10 20)) r).length : Nat) : Int) + (((P7.stuckL (makeC (someNet n 10 20)) r).length : Nat) : Int))))), (113, .ptr 20 (((mv.getD i 0).tmod ((((P7.pushL (makeC (someNet n 10 20)) r).length : Nat) : Int) + (((P7.stuckL (makeC (someNet n 10 20)) r).length : Nat) : Int))).toNat) 0), (114, .val (.int .i64 ((P7.pushL (makeC (someNet n 10 20)) r).getD (((mv.getD i 0).tmod ((((P7.pushL (makeC (someNet n 10 20)) r).length : Nat) : Int) + (((P7.stuckL (makeC (someNet n 10 20)) r).length : Nat) : Int))).toNat) 0))), (115, .tup [.agg [.slc 24 0 ((P7.pushR (makeC (someNet n 10 20)) r ((P7.pushL (makeC (someNet n 10 20)) r).getD (((mv.getD i 0).tmod ((((P7.pushL (makeC (someNet n 10 20)) r).length : Nat) : Int) + (((P7.stuckL (makeC (someNet n 10 20)) r).length : Nat) : Int))).toNat) 0)).1.Res.length) none, .slc 25 0 ((P7.pushR (makeC (someNet n 10 20)) r ((P7.pushL (makeC (someNet n 10 20)) r).getD (((mv.getD i 0).tmod ((((P7.pushL (makeC (someNet n 10 20)) r).length : Nat) : Int) + (((P7.stuckL (makeC (someNet n 10 20)) r).length : Nat) : Int))).toNat) 0)).1.Ex.length) none, .slc 26 0 ((P7.pushR (makeC (someNet n 10 20)) r ((P7.pushL (makeC (someNet n 10 20)) r).getD (((mv.getD i 0).tmod ((((P7.pushL (makeC (someNet n 10 20)) r).length : Nat) : Int) + (((P7.stuckL (makeC (someNet n 10 20)) r).length : Nat) : Int))).toNat) 0)).1.H.length) none], .val (.int .i64 ((P7.pushR (makeC (someNet n 10 20)) r ((P7.pushL (makeC (someNet n 10 20)) r).getD (((mv.getD i 0).tmod ((((P7.pushL (makeC (someNet n 10 20)) r).length : Nat) : Int) + (((P7.stuckL (makeC (someNet n 10 20)) r).length : Nat) : Int))).toNat) 0)).2.1)), .val (.int .i64 ((P7.pushR (makeC (someNet n 10 20)) r ((P7.pushL (makeC (someNet n 10 20)) r).getD (((mv.getD i 0).tmod ((((P7.pushL (makeC (someNet n 10 20)) r).length : Nat) : Int) + (((P7.stuckL (makeC (someNet n 10 20)) r).length : Nat) : Int))).toNat) 0)).2.2))]), (116, .agg [.slc 24 0 ((P7.pushR (makeC (someNet n 10 20)) r ((P7.pushL (makeC (someNet n 10 20)) r).getD (((mv.getD i 0).tmod ((((P7.pushL (makeC (someNet n 10 20)) r).length : Nat) : Int) + (((P7.stuckL (makeC (someNet n 10 20)) r).length : Nat) : Int))).toNat) 0)).1.Res.length) none, .slc 25 0 ((P7.pushR (makeC (someNet n 10 20)) r ((P7.pushL (makeC (someNet n 10 20)) r).getD (((mv.getD i 0).tmod ((((P7.pushL (makeC (someNet n 10 20)) r).length : Nat) : Int) + (((P7.stuckL (makeC (someNet n 10 20)) r).length : Nat) : Int))).toNat) 0)).1.Ex.length) none, .slc 26 0 ((P7.pushR (makeC (someNet n 10 20)) r ((P7.pushL (makeC (someNet n 10 20)) r).getD (((mv.getD i 0).tmod ((((P7.pushL (makeC (someNet n 10 20)) r).length : Nat) : Int) + (((P7.stuckL (makeC (someNet n 10 20)) r).length : Nat) : Int))).toNat) 0)).1.H.length) none]), (117, .val (.int .i64 ((P7.pushR (makeC (someNet n 10 20)) r ((P7.pushL (makeC (someNet n 10 20)) r).getD (((mv.getD i 0).tmod ((((P7.pushL (makeC (someNet n 10 20)) r).length : Nat) : Int) + (((P7.stuckL (makeC (someNet n 10 20)) r).length : Nat) : Int))).toNat) 0)).2.1))), (118, .val (.int .i64 ((P7.pushR (makeC (someNet n 10 20)) r ((P7.pushL (makeC (someNet n 10 20)) r).getD (((mv.getD i 0).tmod ((((P7.pushL (makeC (someNet n 10 20)) r).length : Nat) : Int) + (((P7.stuckL (makeC (someNet n 10 20)) r).length : Nat) : Int))).toNat) 0)).2.2))), (136, .val (.bool b2)), (139, .val (.int .i64 ((P7.pushR (makeC (someNet n 10 20)) r ((P7.pushL (makeC (someNet n 10 20)) r).getD (((mv.getD i 0).tmod ((((P7.pushL (makeC (someNet n 10 20)) r).length : Nat) : Int) + (((P7.stuckL (makeC (someNet n 10 20)) r).length : Nat) : Int))).toNat) 0)).2.2))), (140, .val (.bool ((P7.pushR (makeC (someNet n 10 20)) r ((P7.pushL (makeC (someNet n 10 20)) r).getD (((mv.getD i 0).tmod ((((P7.pushL (makeC (someNet n 10 20)) r).length : Nat) : Int) + (((P7.stuckL (makeC (someNet n 10 20)) r).length : Nat) : Int))).toNat) 0)).2.2 != 0)))]) (fun _ => [SO.arcs false n.arcs, SO.ints false .u16 mv, SO.acts false l, .box [.val (.int .i64 n.N), .val (.int .i64 n.S), .val (.int .i64 n.T), .slc 0 0 n.arcs.length none], SO.arcs true ((someNet n 10 20).arcs), SO.ints true .i64 ((makeC (someNet n 10 20)).First), SO.ints true .i64 ((makeC (someNet n 10 20)).Head), SO.ints true .i64 ((makeC (someNet n 10 20)).Rev), SO.ints true .i64 ((makeC (someNet n 10 20)).Cap), SO.ints true .i64 ((makeC (someNet n 10 20)).Arc), SO.bools true ((makeC (someNet n 10 20)).Back), SO.ints true .i64 ((begP (someNet n 10 20)).Res), SO.ints true .i64 ((begP (someNet n 10 20)).Ex), SO.ints true .i64 ((begP (someNet n 10 20)).H), .box [.val (.int .i64 ((makeC (someNet n 10 20)).N)), .val (.int .i64 ((makeC (someNet n 10 20)).S)), .val (.int .i64 ((makeC (someNet n 10 20)).T)), .slc 5 0 ((makeC (someNet n 10 20)).First.length) none, .slc 6 0 ((makeC (someNet n 10 20)).Head.length) none, .slc 7 0 ((makeC (someNet n 10 20)).Rev.length) none, .slc 8 0 ((makeC (someNet n 10 20)).Cap.length) none, .slc 9 0 ((makeC (someNet n 10 20)).Arc.length) none, .slc 10 0 ((makeC (someNet n 10 20)).Back.length) none], .box [.slc 11 0 ((begP (someNet n 10 20)).Res.length) none, .slc 12 0 ((begP (someNet n 10 20)).Ex.length) none, .slc 13 0 ((begP (someNet n 10 20)).H.length) none], SO.ints true .i64 r.Res, SO.ints true .i64 r.Ex, SO.ints true .i64 r.H, .box [.slc 16 0 r.Res.length none, .slc 17 0 r.Ex.length none, .slc 18 0 r.H.length none], SO.ints true .i64 (P7.pushL (makeC (someNet n 10 20)) r), SO.ints true .i64 (P7.stuckL (makeC (someNet n 10 20)) r), .box [.val (.int .i64 0), .val (.int .u8 1), .val (.int .i64 ((j : Nat) : Int)), .val (.int .i64 ((P7.pushL (makeC (someNet n 10 20)) r).getD (((mv.getD i 0).tmod ((((P7.pushL (makeC (someNet n 10 20)) r).length : Nat) : Int) + (((P7.stuckL (makeC (someNet n 10 20)) r).length : Nat) : Int))).toNat) 0)), .val (.int .i64 ((P7.pushR (makeC (someNet n 10 20)) r ((P7.pushL (makeC (someNet n 10 20)) r).getD (((mv.getD i 0).tmod ((((P7.pushL (makeC (someNet n 10 20)) r).length : Nat) : Int) + (((P7.stuckL (makeC (someNet n 10 20)) r).length : Nat) : Int))).toNat) 0)).2.1)), .val (.int .i64 (r.H.getD j 0)), .val (.int .i64 ((r.H.getD j 0) - 1))], .box [.slc 24 0 ((P7.pushR (makeC (someNet n 10 20)) r ((P7.pushL (makeC (someNet n 10 20)) r).getD (((mv.getD i 0).tmod ((((P7.pushL (makeC (someNet n 10 20)) r).length : Nat) : Int) + (((P7.stuckL (makeC (someNet n 10 20)) r).length : Nat) : Int))).toNat) 0)).1.Res.length) none, .slc 25 0 ((P7.pushR (makeC (someNet n 10 20)) r ((P7.pushL (makeC (someNet n 10 20)) r).getD (((mv.getD i 0).tmod ((((P7.pushL (makeC (someNet n 10 20)) r).length : Nat) : Int) + (((P7.stuckL (makeC (someNet n 10 20)) r).length : Nat) : Int))).toNat) 0)).1.Ex.length) none, .slc 26 0 ((P7.pushR (makeC (someNet n 10 20)) r ((P7.pushL (makeC (someNet n 10 20)) r).getD (((mv.getD i 0).tmod ((((P7.pushL (makeC (someNet n 10 20)) r).length : Nat) : Int) + (((P7.stuckL (makeC (someNet n 10 20)) r).length : Nat) : Int))).toNat) 0)).1.H.length) none], SO.ints true .i64 ((P7.pushR (makeC (someNet n 10 20)) r ((P7.pushL (makeC (someNet n 10 20)) r).getD (((mv.getD i 0).tmod ((((P7.pushL (makeC (someNet n 10 20)) r).length : Nat) : Int) + (((P7.stuckL (makeC (someNet n 10 20)) r).length : Nat) : Int))).toNat) 0)).1.Res), SO.ints true .i64 ((P7.pushR (makeC (someNet n 10 20)) r ((P7.pushL (makeC (someNet n 10 20)) r).getD (((mv.getD i 0).tmod ((((P7.pushL (makeC (someNet n 10 20)) r).length : Nat) : Int) + (((P7.stuckL (makeC (someNet n 10 20)) r).length : Nat) : Int))).toNat) 0)).1.Ex), SO.ints true .i64 ((P7.pushR (makeC (someNet n 10 20)) r ((P7.pushL (makeC (someNet n 10 20)) r).getD (((mv.getD i 0).tmod ((((P7.pushL (makeC (someNet n 10 20)) r).length : Nat) : Int) + (((P7.stuckL (makeC (someNet n 10 20)) r).length : Nat) : Int))).toNat) 0)).1.H), .box [.slc 24 0 ((P7.pushR (makeC (someNet n 10 20)) r ((P7.pushL (makeC (someNet n 10 20)) r).getD (((mv.getD i 0).tmod ((((P7.pushL (makeC (someNet n 10 20)) r).length : Nat) : Int) + (((P7.stuckL (makeC (someNet n 10 20)) r).length : Nat) : Int))).toNat) 0)).1.Res.length) none, .slc 25 0 ((P7.pushR (makeC (someNet n 10 20)) r ((P7.pushL (makeC (someNet n 10 20)) r).getD (((mv.getD i 0).tmod ((((P7.pushL (makeC (someNet n 10 20)) r).length : Nat) : Int) + (((P7.stuckL (makeC (someNet n 10 20)) r).length : Nat) : Int))).toNat) 0)).1.Ex.length) none, .slc 26 0 ((P7.pushR (makeC (someNet n 10 20)) r ((P7.pushL (makeC (someNet n 10 20)) r).getD (((mv.getD i 0).tmod ((((P7.pushL (makeC (someNet n 10 20)) r).length : Nat) : Int) + (((P7.stuckL (makeC (someNet n 10 20)) r).length : Nat) : Int))).toNat) 0)).1.H.length) none]]) (fun _ => True) hρ ?_ ?_
        · -- region 25
          refine w_any mixed ?_
          refine wa_drawZ [0, 0, 0, 6, 14, 0, 0, 64, 0, 448, 960, 0, 2048, 0, 14336, 30720, 63488, 131071, 0] [262143, 1048575] [18] 262144 rfl rfl (by decide) (by kernel_rfl) (by kernel_rfl) rfl rfl rfl (hle hρ rfl) ?_
          refine ra_q (j := 0) rfl rfl rfl rfl (do_move rfl ⟨rfl, rfl⟩) (by rfl) ?_
          refine ra_q (j := 1) rfl rfl rfl rfl (do_move rfl ⟨rfl, rfl⟩) (by rfl) ?_
          refine ra_q (j := 2) rfl rfl rfl rfl (do_move rfl ⟨rfl, rfl⟩) (by rfl) ?_
          refine ra_q (j := 3) rfl rfl rfl rfl (do_ix0 rfl rfl rfl (by first | omega | (simp only [ls] <;> omega)) ⟨rfl, rfl⟩) (by rfl) ?_
          refine ra_q (j := 4) rfl rfl rfl rfl (do_load_arr rfl rfl (by first | omega | (simp only [ls] <;> omega)) rfl ⟨rfl, rfl⟩) (by rfl) ?_
          refine ra_q (j := 5) rfl rfl rfl rfl (do_move rfl ⟨rfl, rfl⟩) (by rfl) ?_
          refine ra_q (j := 6) rfl rfl rfl rfl (do_fieldaddr rfl ⟨rfl, rfl⟩) (by rfl) ?_
          refine ra_q (j := 7) rfl rfl rfl rfl (do_load_box rfl rfl rfl ⟨rfl, rfl⟩) (by rfl) ?_
          refine ra_q (j := 8) rfl rfl rfl rfl (do_move rfl ⟨rfl, rfl⟩) (by rfl) ?_
          refine ra_q (j := 9) rfl rfl rfl rfl (do_ixn rfl rfl rfl (by first | omega | (simp only [ls] <;> omega)) ⟨rfl, rfl⟩) (by rfl) ?_
          refine ra_q (j := 10) rfl rfl rfl rfl (do_load_arr rfl rfl (by first | omega | (simp only [ls] <;> omega)) rfl ⟨rfl, rfl⟩) (by rfl) ?_
          refine ra_q (j := 11) rfl rfl rfl rfl (do_fieldaddr rfl ⟨rfl, rfl⟩) (by rfl) ?_
          refine ra_q (j := 12) rfl rfl rfl rfl (do_load_box rfl rfl rfl ⟨rfl, rfl⟩) (by rfl) ?_
          refine ra_q (j := 13) rfl rfl rfl rfl (do_move rfl ⟨rfl, rfl⟩) (by rfl) ?_
          refine ra_q (j := 14) rfl rfl rfl rfl (do_ixn rfl rfl rfl (by first | omega | (simp only [ls] <;> omega)) ⟨rfl, rfl⟩) (by rfl) ?_
          refine ra_q (j := 15) rfl rfl rfl rfl (do_load_arr rfl rfl (by first | omega | (simp only [ls] <;> omega)) rfl ⟨rfl, rfl⟩) (by rfl) ?_
          refine ra_q (j := 16) rfl rfl rfl rfl (do_sub rfl rfl (by omega) ⟨rfl, rfl⟩) (by rfl) ?_
          refine ra_q (j := 17) rfl rfl rfl rfl (do_build (out := [_, _, _, _, _, _, _]) rfl rfl ⟨rfl, rfl⟩) (by rfl) ?_
          refine ra_q (j := 18) rfl rfl rfl rfl (n_load_boxagg [_, _, _] rfl rfl (Nat.le_of_ble_eq_true rfl) rfl ⟨rfl, rfl⟩) (by rfl) ?_
          refine n_fin ?_ ?_
          · refine rw_u rfl rfl (n_store_whole rfl rfl rfl rfl rfl rfl ?_)
            refine rw_u rfl rfl (n_store_whole rfl rfl rfl rfl rfl rfl ?_)
            refine rw_nil ?_
            exact ⟨(), [0, 1, 2, 3, 4, 5, 6, 7, 8, 9, 10, 11, 12, 13, 14, 15, 16, 17, 18, 19, 20, 21, 22, 23, 24, 25, 26, 27], trivial, ⟨shR rfl, shR rfl, shR rfl, shR rfl, shR rfl, shR rfl, shR rfl, shR rfl, shR rfl, shR rfl, shR rfl, shR rfl, shR rfl, shR rfl, shR rfl, shR rfl, shR rfl, shR rfl, shR rfl, shR rfl, shR rfl, shR rfl, shR rfl, shR rfl, shR rfl, shR rfl, shR rfl, shR rfl, trivial⟩, rfl, pre_ok rfl, ⟨⟨_, rfl, rfl⟩, ⟨_, rfl, rfl⟩, ⟨_, rfl, rfl⟩, ⟨_, rfl, rfl⟩, ⟨_, rfl, rfl⟩, ⟨_, rfl, rfl⟩, ⟨_, rfl, rfl⟩, ⟨_, rfl, rfl⟩, ⟨_, rfl, rfl⟩, ⟨_, rfl, rfl⟩, ⟨_, rfl, rfl⟩, ⟨_, rfl, rfl⟩, ⟨_, rfl, rfl⟩, ⟨_, rfl, rfl⟩, ⟨_, rfl, rfl⟩, ⟨_, rfl, rfl⟩, ⟨_, rfl, rfl⟩, ⟨_, rfl, rfl⟩, ⟨_, rfl, rfl⟩, ⟨_, rfl, rfl⟩, ⟨_, rfl, rfl⟩, ⟨_, rfl, rfl⟩, ⟨_, rfl, rfl⟩, ⟨_, rfl, rfl⟩, ⟨_, rfl, rfl⟩, ⟨_, rfl, rfl⟩, ⟨_, rfl, rfl⟩, ⟨_, rfl, rfl⟩, ⟨_, rfl, rfl⟩, ⟨_, rfl, rfl⟩, ⟨_, rfl, rfl⟩, ⟨_, rfl, rfl⟩, ⟨_, rfl, rfl⟩, ⟨_, rfl, rfl⟩, ⟨_, rfl, rfl⟩, ⟨_, rfl, rfl⟩, ⟨_, rfl, rfl⟩, ⟨_, rfl, rfl⟩, ⟨_, rfl, rfl⟩, ⟨_, rfl, rfl⟩, ⟨_, rfl, rfl⟩, ⟨_, rfl, rfl⟩, ⟨_, rfl, rfl⟩, ⟨_, rfl, rfl⟩, ⟨_, rfl, rfl⟩, ⟨_, rfl, rfl⟩, ⟨_, rfl, rfl⟩, ⟨_, rfl, rfl⟩, ⟨_, rfl, rfl⟩, ⟨_, rfl, rfl⟩, ⟨_, rfl, rfl⟩, ⟨_, rfl, rfl⟩, ⟨_, rfl, rfl⟩, ⟨_, rfl, rfl⟩, ⟨_, rfl, rfl⟩, ⟨_, rfl, rfl⟩, ⟨_, rfl, rfl⟩, ⟨_, rfl, rfl⟩, ⟨_, rfl, rfl⟩, trivial⟩⟩
          refine all_cons ?_ ?_
          · refine rx_step [18, 19] rfl (by kernel_rfl) rfl ?_
            refine rx_cons ?_ ?_
            · refine ⟨_, rfl, rfl, rfl, n_load_boxagg [_, _, _] rfl rfl (Nat.le_of_ble_eq_true rfl) rfl ?_⟩
              refine rx_step [19] rfl (by kernel_rfl) rfl ?_
              refine rx_cons ?_ ?_
              · refine ⟨_, rfl, rfl, rfl, do_store_boxagg rfl rfl rfl (Nat.le_of_ble_eq_true rfl) rfl (allPlain rfl) ?_⟩
                refine rx_step [20] rfl (by kernel_rfl) rfl ?_
                refine rx_cons ?_ ?_
                · refine ⟨_, rfl, rfl, rfl, do_store_boxagg rfl rfl rfl (Nat.le_of_ble_eq_true rfl) rfl (allPlain rfl) ?_⟩
                  refine rx_done (by kernel_rfl) ?_
                  exact ⟨(), [0, 1, 2, 3, 4, 5, 6, 7, 8, 9, 10, 11, 12, 13, 14, 15, 16, 17, 18, 19, 20, 21, 22, 23, 24, 25, 26, 27], trivial, ⟨shR rfl, shR rfl, shR rfl, shR rfl, shR rfl, shR rfl, shR rfl, shR rfl, shR rfl, shR rfl, shR rfl, shR rfl, shR rfl, shR rfl, shR rfl, shR rfl, shR rfl, shR rfl, shR rfl, shR rfl, shR rfl, shR rfl, shR rfl, shR rfl, shR rfl, shR rfl, shR rfl, shR rfl, trivial⟩, rfl, pre_ok rfl, ⟨⟨_, rfl, rfl⟩, ⟨_, rfl, rfl⟩, ⟨_, rfl, rfl⟩, ⟨_, rfl, rfl⟩, ⟨_, rfl, rfl⟩, ⟨_, rfl, rfl⟩, ⟨_, rfl, rfl⟩, ⟨_, rfl, rfl⟩, ⟨_, rfl, rfl⟩, ⟨_, rfl, rfl⟩, ⟨_, rfl, rfl⟩, ⟨_, rfl, rfl⟩, ⟨_, rfl, rfl⟩, ⟨_, rfl, rfl⟩, ⟨_, rfl, rfl⟩, ⟨_, rfl, rfl⟩, ⟨_, rfl, rfl⟩, ⟨_, rfl, rfl⟩, ⟨_, rfl, rfl⟩, ⟨_, rfl, rfl⟩, ⟨_, rfl, rfl⟩, ⟨_, rfl, rfl⟩, ⟨_, rfl, rfl⟩, ⟨_, rfl, rfl⟩, ⟨_, rfl, rfl⟩, ⟨_, rfl, rfl⟩, ⟨_, rfl, rfl⟩, ⟨_, rfl, rfl⟩, ⟨_, rfl, rfl⟩, ⟨_, rfl, rfl⟩, ⟨_, rfl, rfl⟩, ⟨_, rfl, rfl⟩, ⟨_, rfl, rfl⟩, ⟨_, rfl, rfl⟩, ⟨_, rfl, rfl⟩, ⟨_, rfl, rfl⟩, ⟨_, rfl, rfl⟩, ⟨_, rfl, rfl⟩, ⟨_, rfl, rfl⟩, ⟨_, rfl, rfl⟩, ⟨_, rfl, rfl⟩, ⟨_, rfl, rfl⟩, ⟨_, rfl, rfl⟩, ⟨_, rfl, rfl⟩, ⟨_, rfl, rfl⟩, ⟨_, rfl, rfl⟩, ⟨_, rfl, rfl⟩, ⟨_, rfl, rfl⟩, ⟨_, rfl, rfl⟩, ⟨_, rfl, rfl⟩, ⟨_, rfl, rfl⟩, ⟨_, rfl, rfl⟩, ⟨_, rfl, rfl⟩, ⟨_, rfl, rfl⟩, ⟨_, rfl, rfl⟩, ⟨_, rfl, rfl⟩, ⟨_, rfl, rfl⟩, ⟨_, rfl, rfl⟩, ⟨_, rfl, rfl⟩, trivial⟩⟩
                exact rx_nil
              exact rx_nil
            refine rx_cons ?_ ?_
            · refine ⟨_, rfl, rfl, rfl, do_store_boxagg rfl rfl rfl (Nat.le_of_ble_eq_true rfl) rfl (allPlain rfl) ?_⟩
              refine rx_step [18] rfl (by kernel_rfl) rfl ?_
              refine rx_cons ?_ ?_
              · refine ⟨_, rfl, rfl, rfl, n_load_boxagg [_, _, _] rfl rfl (Nat.le_of_ble_eq_true rfl) rfl ?_⟩
                refine rx_step [20] rfl (by kernel_rfl) rfl ?_
                refine rx_cons ?_ ?_
                · refine ⟨_, rfl, rfl, rfl, do_store_boxagg rfl rfl rfl (Nat.le_of_ble_eq_true rfl) rfl (allPlain rfl) ?_⟩
                  refine rx_done (by kernel_rfl) ?_
                  exact ⟨(), [0, 1, 2, 3, 4, 5, 6, 7, 8, 9, 10, 11, 12, 13, 14, 15, 16, 17, 18, 19, 20, 21, 22, 23, 24, 25, 26, 27], trivial, ⟨shR rfl, shR rfl, shR rfl, shR rfl, shR rfl, shR rfl, shR rfl, shR rfl, shR rfl, shR rfl, shR rfl, shR rfl, shR rfl, shR rfl, shR rfl, shR rfl, shR rfl, shR rfl, shR rfl, shR rfl, shR rfl, shR rfl, shR rfl, shR rfl, shR rfl, shR rfl, shR rfl, shR rfl, trivial⟩, rfl, pre_ok rfl, ⟨⟨_, rfl, rfl⟩, ⟨_, rfl, rfl⟩, ⟨_, rfl, rfl⟩, ⟨_, rfl, rfl⟩, ⟨_, rfl, rfl⟩, ⟨_, rfl, rfl⟩, ⟨_, rfl, rfl⟩, ⟨_, rfl, rfl⟩, ⟨_, rfl, rfl⟩, ⟨_, rfl, rfl⟩, ⟨_, rfl, rfl⟩, ⟨_, rfl, rfl⟩, ⟨_, rfl, rfl⟩, ⟨_, rfl, rfl⟩, ⟨_, rfl, rfl⟩, ⟨_, rfl, rfl⟩, ⟨_, rfl, rfl⟩, ⟨_, rfl, rfl⟩, ⟨_, rfl, rfl⟩, ⟨_, rfl, rfl⟩, ⟨_, rfl, rfl⟩, ⟨_, rfl, rfl⟩, ⟨_, rfl, rfl⟩, ⟨_, rfl, rfl⟩, ⟨_, rfl, rfl⟩, ⟨_, rfl, rfl⟩, ⟨_, rfl, rfl⟩, ⟨_, rfl, rfl⟩, ⟨_, rfl, rfl⟩, ⟨_, rfl, rfl⟩, ⟨_, rfl, rfl⟩, ⟨_, rfl, rfl⟩, ⟨_, rfl, rfl⟩, ⟨_, rfl, rfl⟩, ⟨_, rfl, rfl⟩, ⟨_, rfl, rfl⟩, ⟨_, rfl, rfl⟩, ⟨_, rfl, rfl⟩, ⟨_, rfl, rfl⟩, ⟨_, rfl, rfl⟩, ⟨_, rfl, rfl⟩, ⟨_, rfl, rfl⟩, ⟨_, rfl, rfl⟩, ⟨_, rfl, rfl⟩, ⟨_, rfl, rfl⟩, ⟨_, rfl, rfl⟩, ⟨_, rfl, rfl⟩, ⟨_, rfl, rfl⟩, ⟨_, rfl, rfl⟩, ⟨_, rfl, rfl⟩, ⟨_, rfl, rfl⟩, ⟨_, rfl, rfl⟩, ⟨_, rfl, rfl⟩, ⟨_, rfl, rfl⟩, ⟨_, rfl, rfl⟩, ⟨_, rfl, rfl⟩, ⟨_, rfl, rfl⟩, ⟨_, rfl, rfl⟩, ⟨_, rfl, rfl⟩, trivial⟩⟩
                exact rx_nil
              exact rx_nil
            exact rx_nil
          exact all_nil
        rintro ⟨⟩ -
        exact ⟨((⟨0, 1, ((j : Nat) : Int), ((P7.pushL (makeC (someNet n 10 20)) r).getD ((mv.getD i 0).tmod ((((P7.pushL (makeC (someNet n 10 20)) r).length : Nat) : Int) + (((P7.stuckL (makeC (someNet n 10 20)) r).length : Nat) : Int))).toNat 0), (P7.pushR (makeC (someNet n 10 20)) r ((P7.pushL (makeC (someNet n 10 20)) r).getD ((mv.getD i 0).tmod ((((P7.pushL (makeC (someNet n 10 20)) r).length : Nat) : Int) + (((P7.stuckL (makeC (someNet n 10 20)) r).length : Nat) : Int))).toNat 0)).2.1, r.H.getD j 0, r.H.getD j 0 - 1⟩ : Event), (P7.pushR (makeC (someNet n 10 20)) r ((P7.pushL (makeC (someNet n 10 20)) r).getD ((mv.getD i 0).tmod ((((P7.pushL (makeC (someNet n 10 20)) r).length : Nat) : Int) + (((P7.stuckL (makeC (someNet n 10 20)) r).length : Nat) : Int))).toNat 0)).1), [0, 1, 2, 3, 4, 5, 6, 7, 8, 9, 10, 11, 12, 13, 14, 15, 16, 17, 18, 19, 20, 21, 22, 23, 24, 25, 26], hcs, ⟨shR rfl, shR rfl, shR rfl, shR rfl, shR rfl, shR rfl, shR rfl, shR rfl, shR rfl, shR rfl, shR rfl, shR rfl, shR rfl, shR rfl, shR rfl, shR rfl, shR rfl, shR rfl, shR rfl, shR rfl, shR rfl, shR rfl, shR rfl, shR rfl, shR rfl, shR rfl, shR rfl, trivial⟩, rfl, pre_ok rfl, ⟨⟨_, rfl, rfl⟩, ⟨_, rfl, rfl⟩, ⟨_, rfl, rfl⟩, ⟨_, rfl, rfl⟩, ⟨_, rfl, rfl⟩, ⟨_, rfl, rfl⟩, ⟨_, rfl, rfl⟩, ⟨_, rfl, rfl⟩, ⟨_, rfl, rfl⟩, ⟨_, rfl, rfl⟩, ⟨_, rfl, rfl⟩, ⟨_, rfl, rfl⟩, ⟨_, rfl, rfl⟩, ⟨_, rfl, rfl⟩, ⟨_, rfl, rfl⟩, ⟨_, rfl, rfl⟩, ⟨_, rfl, rfl⟩, ⟨_, rfl, rfl⟩, ⟨_, rfl, rfl⟩, ⟨_, rfl, rfl⟩, ⟨_, rfl, rfl⟩, ⟨_, rfl, rfl⟩, ⟨_, rfl, rfl⟩, ⟨_, rfl, rfl⟩, ⟨_, rfl, rfl⟩, ⟨_, rfl, rfl⟩, ⟨_, rfl, rfl⟩, ⟨_, rfl, rfl⟩, ⟨_, rfl, rfl⟩, ⟨_, rfl, rfl⟩, ⟨_, rfl, rfl⟩, ⟨_, rfl, rfl⟩, ⟨_, rfl, rfl⟩, ⟨_, rfl, rfl⟩, ⟨_, rfl, rfl⟩, ⟨_, rfl, rfl⟩, ⟨_, rfl, rfl⟩, trivial⟩⟩
      refine w_skip ?_
      refine w_block ?_
      refine w_region ?_
      refine rw_t 137 rfl rfl rfl (do_move rfl ?_)
      refine rw_t 138 rfl rfl rfl (do_add rfl rfl (by omega) ?_)
      refine rw_t 23 rfl rfl rfl (do_assign rfl ?_)
      refine rw_nil ?_
      refine ⟨j + 1, [0, 1, 2, 3, 4, 5, 6, 7, 8, 9, 10, 11, 12, 13, 14, 15, 16, 17, 18, 19, 20, 21, 22, 23, 24, 25, 26, 27], by dsimp only; omega, ⟨by omega, by have q := hc7.2; rw [hj1] at q; exact q⟩, ⟨shR rfl, shR rfl, shR rfl, shR rfl, shR rfl, shR rfl, shR rfl, shR rfl, shR rfl, shR rfl, shR rfl, shR rfl, shR rfl, shR rfl, shR rfl, shR rfl, shR rfl, shR rfl, shR rfl, shR rfl, shR rfl, shR rfl, shR rfl, shR rfl, shR rfl, shR rfl, shR rfl, shR rfl, trivial⟩, rfl, pre_ok rfl, ⟨⟨_, rfl, rfl⟩, ⟨_, rfl, rfl⟩, ⟨_, rfl, rfl⟩, ⟨_, rfl, rfl⟩, ⟨_, rfl, rfl⟩, ⟨_, rfl, rfl⟩, ⟨_, rfl, rfl⟩, ⟨_, rfl, rfl⟩, ⟨_, rfl, rfl⟩, ⟨_, rfl, rfl⟩, ⟨_, rfl, rfl⟩, ⟨_, rfl, rfl⟩, ⟨_, rfl, rfl⟩, ⟨_, rfl, rfl⟩, ⟨_, rfl, rfl⟩, ⟨_, rfl, rfl⟩, ⟨_, rfl, rfl⟩, ⟨_, rfl, rfl⟩, ⟨_, rfl, rfl⟩, ⟨_, rfl, rfl⟩, ⟨_, rfl, rfl⟩, ⟨_, rfl, rfl⟩, ⟨_, rfl, rfl⟩, ⟨_, rfl, rfl⟩, ⟨_, rfl, rfl⟩, ⟨_, rfl, rfl⟩, ⟨_, rfl, rfl⟩, ⟨_, rfl, rfl⟩, ⟨_, rfl, rfl⟩, ⟨_, rfl, rfl⟩, ⟨_, rfl, rfl⟩, ⟨_, rfl, rfl⟩, ⟨_, rfl, rfl⟩, ⟨_, rfl, rfl⟩, ⟨_, rfl, rfl⟩, ⟨_, rfl, rfl⟩, ⟨_, rfl, rfl⟩, ⟨_, rfl, rfl⟩, ⟨_, rfl, rfl⟩, ⟨_, rfl, rfl⟩, ⟨_, rfl, rfl⟩, ⟨_, rfl, rfl⟩, ⟨_, rfl, rfl⟩, ⟨_, rfl, rfl⟩, ⟨_, rfl, rfl⟩, ⟨_, rfl, rfl⟩, ⟨_, rfl, rfl⟩, ⟨_, rfl, rfl⟩, ⟨_, rfl, rfl⟩, ⟨_, rfl, rfl⟩, ⟨_, rfl, rfl⟩, ⟨_, rfl, rfl⟩, ⟨_, rfl, rfl⟩, ⟨_, rfl, rfl⟩, ⟨_, rfl, rfl⟩, ⟨_, rfl, rfl⟩, trivial⟩⟩
    · refine w_seq ?_
      have hixs : (((mv.getD i 0).tmod ((((P7.pushL (makeC (someNet n 10 20)) r).length : Nat) : Int) + (((P7.stuckL (makeC (someNet n 10 20)) r).length : Nat) : Int))) - (((P7.pushL (makeC (someNet n 10 20)) r).length : Nat) : Int)).toNat < (P7.stuckL (makeC (someNet n 10 20)) r).length := by omega
      have hsa := P7.stuck_at (c := (makeC (someNet n 10 20))) (p := r) (by omega) hixs
      have hok3 := P7.lift_ok (c := (makeC (someNet n 10 20))) (p := r) (by omega) hixs
      have hcs := P7.lift_case hcq gr hixs
      have hzl := (P7.refR_in hg (P7.walk_lift hg gr hixs)).h
      refine w_region ?_
      refine rw_t 160 rfl rfl rfl (do_move rfl ?_)
      refine rw_t 161 rfl rfl rfl (do_move rfl ?_)
      refine rw_t 162 rfl rfl rfl (do_move rfl ?_)
      refine rw_t 163 rfl rfl rfl (do_len rfl ?_)
      refine rw_t 164 rfl rfl rfl (do_sub rfl rfl (by omega) ?_)
      refine rw_t 165 rfl rfl rfl (do_ix0 rfl rfl rfl (by first | omega | (simp only [ls] <;> omega)) ?_)
      refine rw_t 166 rfl rfl rfl (do_load_arr rfl rfl (by first | omega | (simp only [ls] <;> omega)) rfl ?_)
      refine rw_t 24 rfl rfl rfl (do_assign rfl ?_)
      refine rw_nil ?_
      refine w_seq ?_
      refine w_region ?_
      refine rw_t 168 rfl rfl rfl (n_load_boxagg [_, _, _, _, _, _, _, _, _] rfl rfl (Nat.le_of_ble_eq_true rfl) rfl ?_)
      refine rw_t 169 rfl rfl rfl (n_load_boxagg [_, _, _] rfl rfl (Nat.le_of_ble_eq_true rfl) rfl ?_)
      refine rw_t 170 rfl rfl rfl (do_move rfl ?_)
      refine rw_t 171 rfl rfl rfl (n_callN (X' := .tup [.agg [.slc 24 0 ((P7.liftR (makeC (someNet n 10 20)) r ((P7.stuckL (makeC (someNet n 10 20)) r).getD (((mv.getD i 0).tmod ((((P7.pushL (makeC (someNet n 10 20)) r).length : Nat) : Int) + (((P7.stuckL (makeC (someNet n 10 20)) r).length : Nat) : Int)) - (((P7.pushL (makeC (someNet n 10 20)) r).length : Nat) : Int)).toNat) 0)).1.Res.length) none, .slc 25 0 ((P7.liftR (makeC (someNet n 10 20)) r ((P7.stuckL (makeC (someNet n 10 20)) r).getD (((mv.getD i 0).tmod ((((P7.pushL (makeC (someNet n 10 20)) r).length : Nat) : Int) + (((P7.stuckL (makeC (someNet n 10 20)) r).length : Nat) : Int)) - (((P7.pushL (makeC (someNet n 10 20)) r).length : Nat) : Int)).toNat) 0)).1.Ex.length) none, .slc 26 0 ((P7.liftR (makeC (someNet n 10 20)) r ((P7.stuckL (makeC (someNet n 10 20)) r).getD (((mv.getD i 0).tmod ((((P7.pushL (makeC (someNet n 10 20)) r).length : Nat) : Int) + (((P7.stuckL (makeC (someNet n 10 20)) r).length : Nat) : Int)) - (((P7.pushL (makeC (someNet n 10 20)) r).length : Nat) : Int)).toNat) 0)).1.H.length) none], .val (.int .i64 ((P7.liftR (makeC (someNet n 10 20)) r ((P7.stuckL (makeC (someNet n 10 20)) r).getD (((mv.getD i 0).tmod ((((P7.pushL (makeC (someNet n 10 20)) r).length : Nat) : Int) + (((P7.stuckL (makeC (someNet n 10 20)) r).length : Nat) : Int)) - (((P7.pushL (makeC (someNet n 10 20)) r).length : Nat) : Int)).toNat) 0)).2))]) (N' := [SO.ints true .i64 ((P7.liftR (makeC (someNet n 10 20)) r ((P7.stuckL (makeC (someNet n 10 20)) r).getD (((mv.getD i 0).tmod ((((P7.pushL (makeC (someNet n 10 20)) r).length : Nat) : Int) + (((P7.stuckL (makeC (someNet n 10 20)) r).length : Nat) : Int)) - (((P7.pushL (makeC (someNet n 10 20)) r).length : Nat) : Int)).toNat) 0)).1.Res), SO.ints true .i64 ((P7.liftR (makeC (someNet n 10 20)) r ((P7.stuckL (makeC (someNet n 10 20)) r).getD (((mv.getD i 0).tmod ((((P7.pushL (makeC (someNet n 10 20)) r).length : Nat) : Int) + (((P7.stuckL (makeC (someNet n 10 20)) r).length : Nat) : Int)) - (((P7.pushL (makeC (someNet n 10 20)) r).length : Nat) : Int)).toNat) 0)).1.Ex), SO.ints true .i64 ((P7.liftR (makeC (someNet n 10 20)) r ((P7.stuckL (makeC (someNet n 10 20)) r).getD (((mv.getD i 0).tmod ((((P7.pushL (makeC (someNet n 10 20)) r).length : Nat) : Int) + (((P7.stuckL (makeC (someNet n 10 20)) r).length : Nat) : Int)) - (((P7.pushL (makeC (someNet n 10 20)) r).length : Nat) : Int)).toNat) 0)).1.H)]) rfl rfl (P7.t_Lift (c := (makeC (someNet n 10 20))) (p := r) (u := ((P7.stuckL (makeC (someNet n 10 20)) r).getD (((mv.getD i 0).tmod ((((P7.pushL (makeC (someNet n 10 20)) r).length : Nat) : Int) + (((P7.stuckL (makeC (someNet n 10 20)) r).length : Nat) : Int)) - (((P7.pushL (makeC (someNet n 10 20)) r).length : Nat) : Int)).toNat) 0)) (hg.toCsrT) (hin)) [5, 6, 7, 8, 9, 10, 16, 17, 18] ⟨.inr ⟨_, rfl, srv⟩, .inr ⟨_, rfl, srv⟩, .inr ⟨_, rfl, srv⟩, .inr ⟨_, rfl, srv⟩, .inr ⟨_, rfl, srv⟩, .inr ⟨_, rfl, srv⟩, .inr ⟨_, rfl, srv⟩, .inr ⟨_, rfl, srv⟩, .inr ⟨_, rfl, srv⟩, trivial⟩ rfl rfl rfl rfl rfl ?_)
      refine rw_t 167 rfl rfl rfl (do_move rfl ?_)
      refine rw_t 172 rfl rfl rfl (do_extract rfl rfl ?_)
      refine rw_t 173 rfl rfl rfl (do_extract rfl rfl ?_)
      refine rw_t 25 rfl rfl rfl (n_alloc (n := 27) rfl ?_)
      refine rw_u rfl rfl (n_store_whole rfl rfl rfl rfl rfl rfl ?_)
      refine rw_t 26 rfl rfl rfl (do_assign rfl ?_)
      refine rw_nil ?_
      refine w_seq ?_
      refine w_seq ?_
      refine w_region ?_
      refine rw_t 174 rfl rfl rfl (do_move rfl ?_)
      refine rw_t 175 rfl rfl rfl (do_bin rfl rfl rfl ?_)
      refine rw_nil ?_
      refine w_cond rfl (fun hc9 => ?_) (fun hc9 => ?_)
      · exfalso; rw [hok3] at hc9; exact absurd hc9 (by decide)
      refine w_skip ?_
      refine w_midS1 (ι := Unit) (fun _ => [(2, .slc 2 0 l.length none), (7, .ptr 14 0 0), (9, .ptr 19 0 0), (10, .val (.int .i64 ((i : Nat) : Int))), (11, .val (.int .u16 (mv.getD i 0))), (15, .slc 20 0 ((P7.pushL (makeC (someNet n 10 20)) r).length) none), (16, .slc 21 0 ((P7.stuckL (makeC (someNet n 10 20)) r).length) none), (17, .val (.int .i64 ((mv.getD i 0).tmod ((((P7.pushL (makeC (someNet n 10 20)) r).length : Nat) : Int) + (((P7.stuckL (makeC (someNet n 10 20)) r).length : Nat) : Int))))), (18, .ptr 22 0 0), (19, .ptr 23 0 0), (24, .val (.int .i64 ((P7.stuckL (makeC (someNet n 10 20)) r).getD (((mv.getD i 0).tmod ((((P7.pushL (makeC (someNet n 10 20)) r).length : Nat) : Int) + (((P7.stuckL (makeC (someNet n 10 20)) r).length : Nat) : Int)) - (((P7.pushL (makeC (someNet n 10 20)) r).length : Nat) : Int)).toNat) 0))), (25, .ptr 27 0 0), (26, .val (.int .i64 ((P7.liftR (makeC (someNet n 10 20)) r ((P7.stuckL (makeC (someNet n 10 20)) r).getD (((mv.getD i 0).tmod ((((P7.pushL (makeC (someNet n 10 20)) r).length : Nat) : Int) + (((P7.stuckL (makeC (someNet n 10 20)) r).length : Nat) : Int)) - (((P7.pushL (makeC (someNet n 10 20)) r).length : Nat) : Int)).toNat) 0)).2))), (45, .slc 1 0 (min mv.length 80) none), (46, .val (.int .i64 (((min mv.length 80) : Nat) : Int))), (47, .val (.int .i64 ((i : Nat) : Int))), (48, .val (.bool (decide (((i : Nat) : Int) < (((min mv.length 80) : Nat) : Int))))), (49, .val (.int .i64 ((i : Nat) : Int))), (50, .ptr 1 i 0), (51, .val (.int .u16 (mv.getD i 0))), (84, .tup [.slc 20 0 ((P7.pushL (makeC (someNet n 10 20)) r).length) none, .slc 21 0 ((P7.stuckL (makeC (someNet n 10 20)) r).length) none]), (85, .agg [.val (.int .i64 ((makeC (someNet n 10 20)).N)), .val (.int .i64 ((makeC (someNet n 10 20)).S)), .val (.int .i64 ((makeC (someNet n 10 20)).T)), .slc 5 0 ((makeC (someNet n 10 20)).First.length) none, .slc 6 0 ((makeC (someNet n 10 20)).Head.length) none, .slc 7 0 ((makeC (someNet n 10 20)).Rev.length) none, .slc 8 0 ((makeC (someNet n 10 20)).Cap.length) none, .slc 9 0 ((makeC (someNet n 10 20)).Arc.length) none, .slc 10 0 ((makeC (someNet n 10 20)).Back.length) none]), (86, .agg [.slc 16 0 r.Res.length none, .slc 17 0 r.Ex.length none, .slc 18 0 r.H.length none]), (87, .tup [.slc 20 0 ((P7.pushL (makeC (someNet n 10 20)) r).length) none, .slc 21 0 ((P7.stuckL (makeC (someNet n 10 20)) r).length) none]), (88, .slc 20 0 ((P7.pushL (makeC (someNet n 10 20)) r).length) none), (89, .slc 21 0 ((P7.stuckL (makeC (someNet n 10 20)) r).length) none), (90, .slc 20 0 ((P7.pushL (makeC (someNet n 10 20)) r).length) none), (91, .val (.int .i64 (((P7.pushL (makeC (someNet n 10 20)) r).length : Nat) : Int))), (92, .slc 21 0 ((P7.stuckL (makeC (someNet n 10 20)) r).length) none), (93, .val (.int .i64 (((P7.stuckL (makeC (someNet n 10 20)) r).length : Nat) : Int))), (94, .val (.int .i64 ((((P7.pushL (makeC (someNet n 10 20)) r).length : Nat) : Int) + (((P7.stuckL (makeC (someNet n 10 20)) r).length : Nat) : Int)))), (95, .val (.bool (((((P7.pushL (makeC (someNet n 10 20)) r).length : Nat) : Int) + (((P7.stuckL (makeC (someNet n 10 20)) r).length : Nat) : Int)) == 0))), (96, .val (.int .u16 (mv.getD i 0))), (97, .val (.int .i64 (mv.getD i 0))), (98, .slc 20 0 ((P7.pushL (makeC (someNet n 10 20)) r).length) none), (99, .val (.int .i64 (((P7.pushL (makeC (someNet n 10 20)) r).length : Nat) : Int))), (100, .slc 21 0 ((P7.stuckL (makeC (someNet n 10 20)) r).length) none), (101, .val (.int .i64 (((P7.stuckL (makeC (someNet n 10 20)) r).length : Nat) : Int))), (102, .val (.int .i64 ((((P7.pushL (makeC (someNet n 10 20)) r).length : Nat) : Int) + (((P7.stuckL (makeC (someNet n 10 20)) r).length : Nat) : Int)))), (103, .val (.int .i64 ((mv.getD i 0).tmod ((((P7.pushL (makeC (someNet n 10 20)) r).length : Nat) : Int) + (((P7.stuckL (makeC (someNet n 10 20)) r).length : Nat) : Int))))), (104, .val (.int .i64 ((mv.getD i 0).tmod ((((P7.pushL (makeC (someNet n 10 20)) r).length : Nat) : Int) + (((P7.stuckL (makeC (someNet n 10 20)) r).length : Nat) : Int))))), (105, .slc 20 0 ((P7.pushL (makeC (someNet n 10 20)) r).length) none), (106, .val (.int .i64 (((P7.pushL (makeC (someNet n 10 20)) r).length : Nat) : Int))), (107, .val (.bool (decide ((mv.getD i 0).tmod ((((P7.pushL (makeC (someNet n 10 20)) r).length : Nat) : Int) + (((P7.stuckL (makeC (someNet n 10 20)) r).length : Nat) : Int)) < (((P7.pushL (makeC (someNet n 10 20)) r).length : Nat) : Int))))), (160, .slc 21 0 ((P7.stuckL (makeC (someNet n 10 20)) r).length) none), (161, .val (.int .i64 ((mv.getD i 0).tmod ((((P7.pushL (makeC (someNet n 10 20)) r).length : Nat) : Int) + (((P7.stuckL (makeC (someNet n 10 20)) r).length : Nat) : Int))))), (162, .slc 20 0 ((P7.pushL (makeC (someNet n 10 20)) r).length) none), (163, .val (.int .i64 (((P7.pushL (makeC (someNet n 10 20)) r).length : Nat) : Int))), (164, .val (.int .i64 ((mv.getD i 0).tmod ((((P7.pushL (makeC (someNet n 10 20)) r).length : Nat) : Int) + (((P7.stuckL (makeC (someNet n 10 20)) r).length : Nat) : Int)) - (((P7.pushL (makeC (someNet n 10 20)) r).length : Nat) : Int)))), (165, .ptr 21 (((mv.getD i 0).tmod ((((P7.pushL (makeC (someNet n 10 20)) r).length : Nat) : Int) + (((P7.stuckL (makeC (someNet n 10 20)) r).length : Nat) : Int)) - (((P7.pushL (makeC (someNet n 10 20)) r).length : Nat) : Int)).toNat) 0), (166, .val (.int .i64 ((P7.stuckL (makeC (someNet n 10 20)) r).getD (((mv.getD i 0).tmod ((((P7.pushL (makeC (someNet n 10 20)) r).length : Nat) : Int) + (((P7.stuckL (makeC (someNet n 10 20)) r).length : Nat) : Int)) - (((P7.pushL (makeC (someNet n 10 20)) r).length : Nat) : Int)).toNat) 0))), (167, .tup [.agg [.slc 24 0 ((P7.liftR (makeC (someNet n 10 20)) r ((P7.stuckL (makeC (someNet n 10 20)) r).getD (((mv.getD i 0).tmod ((((P7.pushL (makeC (someNet n 10 20)) r).length : Nat) : Int) + (((P7.stuckL (makeC (someNet n 10 20)) r).length : Nat) : Int)) - (((P7.pushL (makeC (someNet n 10 20)) r).length : Nat) : Int)).toNat) 0)).1.Res.length) none, .slc 25 0 ((P7.liftR (makeC (someNet n 10 20)) r ((P7.stuckL (makeC (someNet n 10 20)) r).getD (((mv.getD i 0).tmod ((((P7.pushL (makeC (someNet n 10 20)) r).length : Nat) : Int) + (((P7.stuckL (makeC (someNet n 10 20)) r).length : Nat) : Int)) - (((P7.pushL (makeC (someNet n 10 20)) r).length : Nat) : Int)).toNat) 0)).1.Ex.length) none, .slc 26 0 ((P7.liftR (makeC (someNet n 10 20)) r ((P7.stuckL (makeC (someNet n 10 20)) r).getD (((mv.getD i 0).tmod ((((P7.pushL (makeC (someNet n 10 20)) r).length : Nat) : Int) + (((P7.stuckL (makeC (someNet n 10 20)) r).length : Nat) : Int)) - (((P7.pushL (makeC (someNet n 10 20)) r).length : Nat) : Int)).toNat) 0)).1.H.length) none], .val (.int .i64 ((P7.liftR (makeC (someNet n 10 20)) r ((P7.stuckL (makeC (someNet n 10 20)) r).getD (((mv.getD i 0).tmod ((((P7.pushL (makeC (someNet n 10 20)) r).length : Nat) : Int) + (((P7.stuckL (makeC (someNet n 10 20)) r).length : Nat) : Int)) - (((P7.pushL (makeC (someNet n 10 20)) r).length : Nat) : Int)).toNat) 0)).2))]), (168, .agg [.val (.int .i64 ((makeC (someNet n 10 20)).N)), .val (.int .i64 ((makeC (someNet n 10 20)).S)), .val (.int .i64 ((makeC (someNet n 10 20)).T)), .slc 5 0 ((makeC (someNet n 10 20)).First.length) none, .slc 6 0 ((makeC (someNet n 10 20)).Head.length) none, .slc 7 0 ((makeC (someNet n 10 20)).Rev.length) none, .slc 8 0 ((makeC (someNet n 10 20)).Cap.length) none, .slc 9 0 ((makeC (someNet n 10 20)).Arc.length) none, .slc 10 0 ((makeC (someNet n 10 20)).Back.length) none]), (169, .agg [.slc 16 0 r.Res.length none, .slc 17 0 r.Ex.length none, .slc 18 0 r.H.length none]), (170, .val (.int .i64 ((P7.stuckL (makeC (someNet n 10 20)) r).getD (((mv.getD i 0).tmod ((((P7.pushL (makeC (someNet n 10 20)) r).length : Nat) : Int) + (((P7.stuckL (makeC (someNet n 10 20)) r).length : Nat) : Int)) - (((P7.pushL (makeC (someNet n 10 20)) r).length : Nat) : Int)).toNat) 0))), (171, .tup [.agg [.slc 24 0 ((P7.liftR (makeC (someNet n 10 20)) r ((P7.stuckL (makeC (someNet n 10 20)) r).getD (((mv.getD i 0).tmod ((((P7.pushL (makeC (someNet n 10 20)) r).length : Nat) : Int) + (((P7.stuckL (makeC (someNet n 10 20)) r).length : Nat) : Int)) - (((P7.pushL (makeC (someNet n 10 20)) r).length : Nat) : Int)).toNat) 0)).1.Res.length) none, .slc 25 0 ((P7.liftR (makeC (someNet n 10 20)) r ((P7.stuckL (makeC (someNet n 10 20)) r).getD (((mv.getD i 0).tmod ((((P7.pushL (makeC (someNet n 10 20)) r).length : Nat) : Int) + (((P7.stuckL (makeC (someNet n 10 20)) r).length : Nat) : Int)) - (((P7.pushL (makeC (someNet n 10 20)) r).length : Nat) : Int)).toNat) 0)).1.Ex.length) none, .slc 26 0 ((P7.liftR (makeC (someNet n 10 20)) r ((P7.stuckL (makeC (someNet n 10 20)) r).getD (((mv.getD i 0).tmod ((((P7.pushL (makeC (someNet n 10 20)) r).length : Nat) : Int) + (((P7.stuckL (makeC (someNet n 10 20)) r).length : Nat) : Int)) - (((P7.pushL (makeC (someNet n 10 20)) r).length : Nat) : Int)).toNat) 0)).1.H.length) none], .val (.int .i64 ((P7.liftR (makeC (someNet n 10 20)) r ((P7.stuckL (makeC (someNet n 10 20)) r).getD (((mv.getD i 0).tmod ((((P7.pushL (makeC (someNet n 10 20)) r).length : Nat) : Int) + (((P7.stuckL (makeC (someNet n 10 20)) r).length : Nat) : Int)) - (((P7.pushL (makeC (someNet n 10 20)) r).length : Nat) : Int)).toNat) 0)).2))]), (172, .agg [.slc 24 0 ((P7.liftR (makeC (someNet n 10 20)) r ((P7.stuckL (makeC (someNet n 10 20)) r).getD (((mv.getD i 0).tmod ((((P7.pushL (makeC (someNet n 10 20)) r).length : Nat) : Int) + (((P7.stuckL (makeC (someNet n 10 20)) r).length : Nat) : Int)) - (((P7.pushL (makeC (someNet n 10 20)) r).length : Nat) : Int)).toNat) 0)).1.Res.length) none, .slc 25 0 ((P7.liftR (makeC (someNet n 10 20)) r ((P7.stuckL (makeC (someNet n 10 20)) r).getD (((mv.getD i 0).tmod ((((P7.pushL (makeC (someNet n 10 20)) r).length : Nat) : Int) + (((P7.stuckL (makeC (someNet n 10 20)) r).length : Nat) : Int)) - (((P7.pushL (makeC (someNet n 10 20)) r).length : Nat) : Int)).toNat) 0)).1.Ex.length) none, .slc 26 0 ((P7.liftR (makeC (someNet n 10 20)) r ((P7.stuckL (makeC (someNet n 10 20)) r).getD (((mv.getD i 0).tmod ((((P7.pushL (makeC (someNet n 10 20)) r).length : Nat) : Int) + (((P7.stuckL (makeC (someNet n 10 20)) r).length : Nat) : Int)) - (((P7.pushL (makeC (someNet n 10 20)) r).length : Nat) : Int)).toNat) 0)).1.H.length) none]), (173, .val (.int .i64 ((P7.liftR (makeC (someNet n 10 20)) r ((P7.stuckL (makeC (someNet n 10 20)) r).getD (((mv.getD i 0).tmod ((((P7.pushL (makeC (someNet n 10 20)) r).length : Nat) : Int) + (((P7.stuckL (makeC (someNet n 10 20)) r).length : Nat) : Int)) - (((P7.pushL (makeC (someNet n 10 20)) r).length : Nat) : Int)).toNat) 0)).2))), (174, .val (.int .i64 ((P7.liftR (makeC (someNet n 10 20)) r ((P7.stuckL (makeC (someNet n 10 20)) r).getD (((mv.getD i 0).tmod ((((P7.pushL (makeC (someNet n 10 20)) r).length : Nat) : Int) + (((P7.stuckL (makeC (someNet n 10 20)) r).length : Nat) : Int)) - (((P7.pushL (makeC (someNet n 10 20)) r).length : Nat) : Int)).toNat) 0)).2))), (175, .val (.bool ((P7.liftR (makeC (someNet n 10 20)) r ((P7.stuckL (makeC (someNet n 10 20)) r).getD (((mv.getD i 0).tmod ((((P7.pushL (makeC (someNet n 10 20)) r).length : Nat) : Int) + (((P7.stuckL (makeC (someNet n 10 20)) r).length : Nat) : Int)) - (((P7.pushL (makeC (someNet n 10 20)) r).length : Nat) : Int)).toNat) 0)).2 != 0)))]) (fun _ => [SO.arcs false n.arcs, SO.ints false .u16 mv, SO.acts false l, .box [.val (.int .i64 n.N), .val (.int .i64 n.S), .val (.int .i64 n.T), .slc 0 0 n.arcs.length none], SO.arcs true ((someNet n 10 20).arcs), SO.ints true .i64 ((makeC (someNet n 10 20)).First), SO.ints true .i64 ((makeC (someNet n 10 20)).Head), SO.ints true .i64 ((makeC (someNet n 10 20)).Rev), SO.ints true .i64 ((makeC (someNet n 10 20)).Cap), SO.ints true .i64 ((makeC (someNet n 10 20)).Arc), SO.bools true ((makeC (someNet n 10 20)).Back), SO.ints true .i64 ((begP (someNet n 10 20)).Res), SO.ints true .i64 ((begP (someNet n 10 20)).Ex), SO.ints true .i64 ((begP (someNet n 10 20)).H), .box [.val (.int .i64 ((makeC (someNet n 10 20)).N)), .val (.int .i64 ((makeC (someNet n 10 20)).S)), .val (.int .i64 ((makeC (someNet n 10 20)).T)), .slc 5 0 ((makeC (someNet n 10 20)).First.length) none, .slc 6 0 ((makeC (someNet n 10 20)).Head.length) none, .slc 7 0 ((makeC (someNet n 10 20)).Rev.length) none, .slc 8 0 ((makeC (someNet n 10 20)).Cap.length) none, .slc 9 0 ((makeC (someNet n 10 20)).Arc.length) none, .slc 10 0 ((makeC (someNet n 10 20)).Back.length) none], .box [.slc 11 0 ((begP (someNet n 10 20)).Res.length) none, .slc 12 0 ((begP (someNet n 10 20)).Ex.length) none, .slc 13 0 ((begP (someNet n 10 20)).H.length) none], SO.ints true .i64 r.Res, SO.ints true .i64 r.Ex, SO.ints true .i64 r.H, .box [.slc 16 0 r.Res.length none, .slc 17 0 r.Ex.length none, .slc 18 0 r.H.length none], SO.ints true .i64 (P7.pushL (makeC (someNet n 10 20)) r), SO.ints true .i64 (P7.stuckL (makeC (someNet n 10 20)) r), .box [.val (.int .i64 0), .val (.int .u8 2), .val (.int .i64 ((P7.stuckL (makeC (someNet n 10 20)) r).getD (((mv.getD i 0).tmod ((((P7.pushL (makeC (someNet n 10 20)) r).length : Nat) : Int) + (((P7.stuckL (makeC (someNet n 10 20)) r).length : Nat) : Int)) - (((P7.pushL (makeC (someNet n 10 20)) r).length : Nat) : Int)).toNat) 0)), .val (.int .i64 0), .val (.int .i64 0), .val (.int .i64 (((P7.liftR (makeC (someNet n 10 20)) r ((P7.stuckL (makeC (someNet n 10 20)) r).getD (((mv.getD i 0).tmod ((((P7.pushL (makeC (someNet n 10 20)) r).length : Nat) : Int) + (((P7.stuckL (makeC (someNet n 10 20)) r).length : Nat) : Int)) - (((P7.pushL (makeC (someNet n 10 20)) r).length : Nat) : Int)).toNat) 0)).1.H).getD (((P7.stuckL (makeC (someNet n 10 20)) r).getD (((mv.getD i 0).tmod ((((P7.pushL (makeC (someNet n 10 20)) r).length : Nat) : Int) + (((P7.stuckL (makeC (someNet n 10 20)) r).length : Nat) : Int)) - (((P7.pushL (makeC (someNet n 10 20)) r).length : Nat) : Int)).toNat) 0).toNat) 0)), .val (.int .i64 0)], .box [.slc 24 0 ((P7.liftR (makeC (someNet n 10 20)) r ((P7.stuckL (makeC (someNet n 10 20)) r).getD (((mv.getD i 0).tmod ((((P7.pushL (makeC (someNet n 10 20)) r).length : Nat) : Int) + (((P7.stuckL (makeC (someNet n 10 20)) r).length : Nat) : Int)) - (((P7.pushL (makeC (someNet n 10 20)) r).length : Nat) : Int)).toNat) 0)).1.Res.length) none, .slc 25 0 ((P7.liftR (makeC (someNet n 10 20)) r ((P7.stuckL (makeC (someNet n 10 20)) r).getD (((mv.getD i 0).tmod ((((P7.pushL (makeC (someNet n 10 20)) r).length : Nat) : Int) + (((P7.stuckL (makeC (someNet n 10 20)) r).length : Nat) : Int)) - (((P7.pushL (makeC (someNet n 10 20)) r).length : Nat) : Int)).toNat) 0)).1.Ex.length) none, .slc 26 0 ((P7.liftR (makeC (someNet n 10 20)) r ((P7.stuckL (makeC (someNet n 10 20)) r).getD (((mv.getD i 0).tmod ((((P7.pushL (makeC (someNet n 10 20)) r).length : Nat) : Int) + (((P7.stuckL (makeC (someNet n 10 20)) r).length : Nat) : Int)) - (((P7.pushL (makeC (someNet n 10 20)) r).length : Nat) : Int)).toNat) 0)).1.H.length) none], SO.ints true .i64 ((P7.liftR (makeC (someNet n 10 20)) r ((P7.stuckL (makeC (someNet n 10 20)) r).getD (((mv.getD i 0).tmod ((((P7.pushL (makeC (someNet n 10 20)) r).length : Nat) : Int) + (((P7.stuckL (makeC (someNet n 10 20)) r).length : Nat) : Int)) - (((P7.pushL (makeC (someNet n 10 20)) r).length : Nat) : Int)).toNat) 0)).1.Res), SO.ints true .i64 ((P7.liftR (makeC (someNet n 10 20)) r ((P7.stuckL (makeC (someNet n 10 20)) r).getD (((mv.getD i 0).tmod ((((P7.pushL (makeC (someNet n 10 20)) r).length : Nat) : Int) + (((P7.stuckL (makeC (someNet n 10 20)) r).length : Nat) : Int)) - (((P7.pushL (makeC (someNet n 10 20)) r).length : Nat) : Int)).toNat) 0)).1.Ex), SO.ints true .i64 ((P7.liftR (makeC (someNet n 10 20)) r ((P7.stuckL (makeC (someNet n 10 20)) r).getD (((mv.getD i 0).tmod ((((P7.pushL (makeC (someNet n 10 20)) r).length : Nat) : Int) + (((P7.stuckL (makeC (someNet n 10 20)) r).length : Nat) : Int)) - (((P7.pushL (makeC (someNet n 10 20)) r).length : Nat) : Int)).toNat) 0)).1.H), .box [.slc 24 0 ((P7.liftR (makeC (someNet n 10 20)) r ((P7.stuckL (makeC (someNet n 10 20)) r).getD (((mv.getD i 0).tmod ((((P7.pushL (makeC (someNet n 10 20)) r).length : Nat) : Int) + (((P7.stuckL (makeC (someNet n 10 20)) r).length : Nat) : Int)) - (((P7.pushL (makeC (someNet n 10 20)) r).length : Nat) : Int)).toNat) 0)).1.Res.length) none, .slc 25 0 ((P7.liftR (makeC (someNet n 10 20)) r ((P7.stuckL (makeC (someNet n 10 20)) r).getD (((mv.getD i 0).tmod ((((P7.pushL (makeC (someNet n 10 20)) r).length : Nat) : Int) + (((P7.stuckL (makeC (someNet n 10 20)) r).length : Nat) : Int)) - (((P7.pushL (makeC (someNet n 10 20)) r).length : Nat) : Int)).toNat) 0)).1.Ex.length) none, .slc 26 0 ((P7.liftR (makeC (someNet n 10 20)) r ((P7.stuckL (makeC (someNet n 10 20)) r).getD (((mv.getD i 0).tmod ((((P7.pushL (makeC (someNet n 10 20)) r).length : Nat) : Int) + (((P7.stuckL (makeC (someNet n 10 20)) r).length : Nat) : Int)) - (((P7.pushL (makeC (someNet n 10 20)) r).length : Nat) : Int)).toNat) 0)).1.H.length) none]]) (fun _ => True) hρ ?_ ?_
      · -- region 30
        refine w_any mixed ?_
        refine wa_drawZ [0, 0, 2, 0, 14, 30, 63, 0] [127, 511] [7] 128 rfl rfl (by decide) (by kernel_rfl) (by kernel_rfl) rfl rfl rfl (hle hρ rfl) ?_
        refine ra_q (j := 0) rfl rfl rfl rfl (do_move rfl ⟨rfl, rfl⟩) (by rfl) ?_
        refine ra_q (j := 1) rfl rfl rfl rfl (do_fieldaddr rfl ⟨rfl, rfl⟩) (by rfl) ?_
        refine ra_q (j := 2) rfl rfl rfl rfl (do_load_box rfl rfl rfl ⟨rfl, rfl⟩) (by rfl) ?_
        refine ra_q (j := 3) rfl rfl rfl rfl (do_move rfl ⟨rfl, rfl⟩) (by rfl) ?_
        refine ra_q (j := 4) rfl rfl rfl rfl (do_ix0 rfl rfl rfl (by first | omega | (simp only [ls] <;> omega)) ⟨rfl, rfl⟩) (by rfl) ?_
        refine ra_q (j := 5) rfl rfl rfl rfl (do_load_arr rfl rfl (by first | omega | (simp only [ls] <;> omega)) rfl ⟨rfl, rfl⟩) (by rfl) ?_
        refine ra_q (j := 6) rfl rfl rfl rfl (do_build (out := [_, _, _, _, _, _, _]) rfl rfl ⟨rfl, rfl⟩) (by rfl) ?_
        refine ra_q (j := 7) rfl rfl rfl rfl (n_load_boxagg [_, _, _] rfl rfl (Nat.le_of_ble_eq_true rfl) rfl ⟨rfl, rfl⟩) (by rfl) ?_
        refine n_fin ?_ ?_
        · refine rw_u rfl rfl (n_store_whole rfl rfl rfl rfl rfl rfl ?_)
          refine rw_u rfl rfl (n_store_whole rfl rfl rfl rfl rfl rfl ?_)
          refine rw_nil ?_
          exact ⟨(), [0, 1, 2, 3, 4, 5, 6, 7, 8, 9, 10, 11, 12, 13, 14, 15, 16, 17, 18, 19, 20, 21, 22, 23, 24, 25, 26, 27], trivial, ⟨shR rfl, shR rfl, shR rfl, shR rfl, shR rfl, shR rfl, shR rfl, shR rfl, shR rfl, shR rfl, shR rfl, shR rfl, shR rfl, shR rfl, shR rfl, shR rfl, shR rfl, shR rfl, shR rfl, shR rfl, shR rfl, shR rfl, shR rfl, shR rfl, shR rfl, shR rfl, shR rfl, shR rfl, trivial⟩, rfl, pre_ok rfl, ⟨⟨_, rfl, rfl⟩, ⟨_, rfl, rfl⟩, ⟨_, rfl, rfl⟩, ⟨_, rfl, rfl⟩, ⟨_, rfl, rfl⟩, ⟨_, rfl, rfl⟩, ⟨_, rfl, rfl⟩, ⟨_, rfl, rfl⟩, ⟨_, rfl, rfl⟩, ⟨_, rfl, rfl⟩, ⟨_, rfl, rfl⟩, ⟨_, rfl, rfl⟩, ⟨_, rfl, rfl⟩, ⟨_, rfl, rfl⟩, ⟨_, rfl, rfl⟩, ⟨_, rfl, rfl⟩, ⟨_, rfl, rfl⟩, ⟨_, rfl, rfl⟩, ⟨_, rfl, rfl⟩, ⟨_, rfl, rfl⟩, ⟨_, rfl, rfl⟩, ⟨_, rfl, rfl⟩, ⟨_, rfl, rfl⟩, ⟨_, rfl, rfl⟩, ⟨_, rfl, rfl⟩, ⟨_, rfl, rfl⟩, ⟨_, rfl, rfl⟩, ⟨_, rfl, rfl⟩, ⟨_, rfl, rfl⟩, ⟨_, rfl, rfl⟩, ⟨_, rfl, rfl⟩, ⟨_, rfl, rfl⟩, ⟨_, rfl, rfl⟩, ⟨_, rfl, rfl⟩, ⟨_, rfl, rfl⟩, ⟨_, rfl, rfl⟩, ⟨_, rfl, rfl⟩, ⟨_, rfl, rfl⟩, ⟨_, rfl, rfl⟩, ⟨_, rfl, rfl⟩, ⟨_, rfl, rfl⟩, ⟨_, rfl, rfl⟩, ⟨_, rfl, rfl⟩, ⟨_, rfl, rfl⟩, ⟨_, rfl, rfl⟩, ⟨_, rfl, rfl⟩, ⟨_, rfl, rfl⟩, ⟨_, rfl, rfl⟩, ⟨_, rfl, rfl⟩, ⟨_, rfl, rfl⟩, ⟨_, rfl, rfl⟩, ⟨_, rfl, rfl⟩, ⟨_, rfl, rfl⟩, ⟨_, rfl, rfl⟩, ⟨_, rfl, rfl⟩, ⟨_, rfl, rfl⟩, ⟨_, rfl, rfl⟩, ⟨_, rfl, rfl⟩, ⟨_, rfl, rfl⟩, ⟨_, rfl, rfl⟩, trivial⟩⟩
        refine all_cons ?_ ?_
        · refine rx_step [7, 8] rfl (by kernel_rfl) rfl ?_
          refine rx_cons ?_ ?_
          · refine ⟨_, rfl, rfl, rfl, n_load_boxagg [_, _, _] rfl rfl (Nat.le_of_ble_eq_true rfl) rfl ?_⟩
            refine rx_step [8] rfl (by kernel_rfl) rfl ?_
            refine rx_cons ?_ ?_
            · refine ⟨_, rfl, rfl, rfl, do_store_boxagg rfl rfl rfl (Nat.le_of_ble_eq_true rfl) rfl (allPlain rfl) ?_⟩
              refine rx_step [9] rfl (by kernel_rfl) rfl ?_
              refine rx_cons ?_ ?_
              · refine ⟨_, rfl, rfl, rfl, do_store_boxagg rfl rfl rfl (Nat.le_of_ble_eq_true rfl) rfl (allPlain rfl) ?_⟩
                refine rx_done (by kernel_rfl) ?_
                exact ⟨(), [0, 1, 2, 3, 4, 5, 6, 7, 8, 9, 10, 11, 12, 13, 14, 15, 16, 17, 18, 19, 20, 21, 22, 23, 24, 25, 26, 27], trivial, ⟨shR rfl, shR rfl, shR rfl, shR rfl, shR rfl, shR rfl, shR rfl, shR rfl, shR rfl, shR rfl, shR rfl, shR rfl, shR rfl, shR rfl, shR rfl, shR rfl, shR rfl, shR rfl, shR rfl, shR rfl, shR rfl, shR rfl, shR rfl, shR rfl, shR rfl, shR rfl, shR rfl, shR rfl, trivial⟩, rfl, pre_ok rfl, ⟨⟨_, rfl, rfl⟩, ⟨_, rfl, rfl⟩, ⟨_, rfl, rfl⟩, ⟨_, rfl, rfl⟩, ⟨_, rfl, rfl⟩, ⟨_, rfl, rfl⟩, ⟨_, rfl, rfl⟩, ⟨_, rfl, rfl⟩, ⟨_, rfl, rfl⟩, ⟨_, rfl, rfl⟩, ⟨_, rfl, rfl⟩, ⟨_, rfl, rfl⟩, ⟨_, rfl, rfl⟩, ⟨_, rfl, rfl⟩, ⟨_, rfl, rfl⟩, ⟨_, rfl, rfl⟩, ⟨_, rfl, rfl⟩, ⟨_, rfl, rfl⟩, ⟨_, rfl, rfl⟩, ⟨_, rfl, rfl⟩, ⟨_, rfl, rfl⟩, ⟨_, rfl, rfl⟩, ⟨_, rfl, rfl⟩, ⟨_, rfl, rfl⟩, ⟨_, rfl, rfl⟩, ⟨_, rfl, rfl⟩, ⟨_, rfl, rfl⟩, ⟨_, rfl, rfl⟩, ⟨_, rfl, rfl⟩, ⟨_, rfl, rfl⟩, ⟨_, rfl, rfl⟩, ⟨_, rfl, rfl⟩, ⟨_, rfl, rfl⟩, ⟨_, rfl, rfl⟩, ⟨_, rfl, rfl⟩, ⟨_, rfl, rfl⟩, ⟨_, rfl, rfl⟩, ⟨_, rfl, rfl⟩, ⟨_, rfl, rfl⟩, ⟨_, rfl, rfl⟩, ⟨_, rfl, rfl⟩, ⟨_, rfl, rfl⟩, ⟨_, rfl, rfl⟩, ⟨_, rfl, rfl⟩, ⟨_, rfl, rfl⟩, ⟨_, rfl, rfl⟩, ⟨_, rfl, rfl⟩, ⟨_, rfl, rfl⟩, ⟨_, rfl, rfl⟩, ⟨_, rfl, rfl⟩, ⟨_, rfl, rfl⟩, ⟨_, rfl, rfl⟩, ⟨_, rfl, rfl⟩, ⟨_, rfl, rfl⟩, ⟨_, rfl, rfl⟩, ⟨_, rfl, rfl⟩, ⟨_, rfl, rfl⟩, ⟨_, rfl, rfl⟩, ⟨_, rfl, rfl⟩, ⟨_, rfl, rfl⟩, trivial⟩⟩
              exact rx_nil
            exact rx_nil
          refine rx_cons ?_ ?_
          · refine ⟨_, rfl, rfl, rfl, do_store_boxagg rfl rfl rfl (Nat.le_of_ble_eq_true rfl) rfl (allPlain rfl) ?_⟩
            refine rx_step [7] rfl (by kernel_rfl) rfl ?_
            refine rx_cons ?_ ?_
            · refine ⟨_, rfl, rfl, rfl, n_load_boxagg [_, _, _] rfl rfl (Nat.le_of_ble_eq_true rfl) rfl ?_⟩
              refine rx_step [9] rfl (by kernel_rfl) rfl ?_
              refine rx_cons ?_ ?_
              · refine ⟨_, rfl, rfl, rfl, do_store_boxagg rfl rfl rfl (Nat.le_of_ble_eq_true rfl) rfl (allPlain rfl) ?_⟩
                refine rx_done (by kernel_rfl) ?_
                exact ⟨(), [0, 1, 2, 3, 4, 5, 6, 7, 8, 9, 10, 11, 12, 13, 14, 15, 16, 17, 18, 19, 20, 21, 22, 23, 24, 25, 26, 27], trivial, ⟨shR rfl, shR rfl, shR rfl, shR rfl, shR rfl, shR rfl, shR rfl, shR rfl, shR rfl, shR rfl, shR rfl, shR rfl, shR rfl, shR rfl, shR rfl, shR rfl, shR rfl, shR rfl, shR rfl, shR rfl, shR rfl, shR rfl, shR rfl, shR rfl, shR rfl, shR rfl, shR rfl, shR rfl, trivial⟩, rfl, pre_ok rfl, ⟨⟨_, rfl, rfl⟩, ⟨_, rfl, rfl⟩, ⟨_, rfl, rfl⟩, ⟨_, rfl, rfl⟩, ⟨_, rfl, rfl⟩, ⟨_, rfl, rfl⟩, ⟨_, rfl, rfl⟩, ⟨_, rfl, rfl⟩, ⟨_, rfl, rfl⟩, ⟨_, rfl, rfl⟩, ⟨_, rfl, rfl⟩, ⟨_, rfl, rfl⟩, ⟨_, rfl, rfl⟩, ⟨_, rfl, rfl⟩, ⟨_, rfl, rfl⟩, ⟨_, rfl, rfl⟩, ⟨_, rfl, rfl⟩, ⟨_, rfl, rfl⟩, ⟨_, rfl, rfl⟩, ⟨_, rfl, rfl⟩, ⟨_, rfl, rfl⟩, ⟨_, rfl, rfl⟩, ⟨_, rfl, rfl⟩, ⟨_, rfl, rfl⟩, ⟨_, rfl, rfl⟩, ⟨_, rfl, rfl⟩, ⟨_, rfl, rfl⟩, ⟨_, rfl, rfl⟩, ⟨_, rfl, rfl⟩, ⟨_, rfl, rfl⟩, ⟨_, rfl, rfl⟩, ⟨_, rfl, rfl⟩, ⟨_, rfl, rfl⟩, ⟨_, rfl, rfl⟩, ⟨_, rfl, rfl⟩, ⟨_, rfl, rfl⟩, ⟨_, rfl, rfl⟩, ⟨_, rfl, rfl⟩, ⟨_, rfl, rfl⟩, ⟨_, rfl, rfl⟩, ⟨_, rfl, rfl⟩, ⟨_, rfl, rfl⟩, ⟨_, rfl, rfl⟩, ⟨_, rfl, rfl⟩, ⟨_, rfl, rfl⟩, ⟨_, rfl, rfl⟩, ⟨_, rfl, rfl⟩, ⟨_, rfl, rfl⟩, ⟨_, rfl, rfl⟩, ⟨_, rfl, rfl⟩, ⟨_, rfl, rfl⟩, ⟨_, rfl, rfl⟩, ⟨_, rfl, rfl⟩, ⟨_, rfl, rfl⟩, ⟨_, rfl, rfl⟩, ⟨_, rfl, rfl⟩, ⟨_, rfl, rfl⟩, ⟨_, rfl, rfl⟩, ⟨_, rfl, rfl⟩, ⟨_, rfl, rfl⟩, trivial⟩⟩
              exact rx_nil
            exact rx_nil
          exact rx_nil
        exact all_nil
      rintro ⟨⟩ -
      exact ⟨((⟨0, 2, ((P7.stuckL (makeC (someNet n 10 20)) r).getD (((mv.getD i 0).tmod ((((P7.pushL (makeC (someNet n 10 20)) r).length : Nat) : Int) + (((P7.stuckL (makeC (someNet n 10 20)) r).length : Nat) : Int))) - (((P7.pushL (makeC (someNet n 10 20)) r).length : Nat) : Int)).toNat 0), 0, 0, (P7.liftR (makeC (someNet n 10 20)) r ((P7.stuckL (makeC (someNet n 10 20)) r).getD (((mv.getD i 0).tmod ((((P7.pushL (makeC (someNet n 10 20)) r).length : Nat) : Int) + (((P7.stuckL (makeC (someNet n 10 20)) r).length : Nat) : Int))) - (((P7.pushL (makeC (someNet n 10 20)) r).length : Nat) : Int)).toNat 0)).1.H.getD ((P7.stuckL (makeC (someNet n 10 20)) r).getD (((mv.getD i 0).tmod ((((P7.pushL (makeC (someNet n 10 20)) r).length : Nat) : Int) + (((P7.stuckL (makeC (someNet n 10 20)) r).length : Nat) : Int))) - (((P7.pushL (makeC (someNet n 10 20)) r).length : Nat) : Int)).toNat 0).toNat 0, 0⟩ : Event), (P7.liftR (makeC (someNet n 10 20)) r ((P7.stuckL (makeC (someNet n 10 20)) r).getD (((mv.getD i 0).tmod ((((P7.pushL (makeC (someNet n 10 20)) r).length : Nat) : Int) + (((P7.stuckL (makeC (someNet n 10 20)) r).length : Nat) : Int))) - (((P7.pushL (makeC (someNet n 10 20)) r).length : Nat) : Int)).toNat 0)).1), [0, 1, 2, 3, 4, 5, 6, 7, 8, 9, 10, 11, 12, 13, 14, 15, 16, 17, 18, 19, 20, 21, 22, 23, 24, 25, 26], hcs, ⟨shR rfl, shR rfl, shR rfl, shR rfl, shR rfl, shR rfl, shR rfl, shR rfl, shR rfl, shR rfl, shR rfl, shR rfl, shR rfl, shR rfl, shR rfl, shR rfl, shR rfl, shR rfl, shR rfl, shR rfl, shR rfl, shR rfl, shR rfl, shR rfl, shR rfl, shR rfl, shR rfl, trivial⟩, rfl, pre_ok rfl, ⟨⟨_, rfl, rfl⟩, ⟨_, rfl, rfl⟩, ⟨_, rfl, rfl⟩, ⟨_, rfl, rfl⟩, ⟨_, rfl, rfl⟩, ⟨_, rfl, rfl⟩, ⟨_, rfl, rfl⟩, ⟨_, rfl, rfl⟩, ⟨_, rfl, rfl⟩, ⟨_, rfl, rfl⟩, ⟨_, rfl, rfl⟩, ⟨_, rfl, rfl⟩, ⟨_, rfl, rfl⟩, ⟨_, rfl, rfl⟩, ⟨_, rfl, rfl⟩, ⟨_, rfl, rfl⟩, ⟨_, rfl, rfl⟩, ⟨_, rfl, rfl⟩, ⟨_, rfl, rfl⟩, ⟨_, rfl, rfl⟩, ⟨_, rfl, rfl⟩, ⟨_, rfl, rfl⟩, ⟨_, rfl, rfl⟩, ⟨_, rfl, rfl⟩, ⟨_, rfl, rfl⟩, ⟨_, rfl, rfl⟩, ⟨_, rfl, rfl⟩, ⟨_, rfl, rfl⟩, ⟨_, rfl, rfl⟩, ⟨_, rfl, rfl⟩, ⟨_, rfl, rfl⟩, ⟨_, rfl, rfl⟩, ⟨_, rfl, rfl⟩, ⟨_, rfl, rfl⟩, ⟨_, rfl, rfl⟩, ⟨_, rfl, rfl⟩, ⟨_, rfl, rfl⟩, trivial⟩⟩
  rintro ⟨e, z⟩ hz
  dsimp only at hz ⊢
  refine w_seq ?_
  have hmv := P7.case_move hz
  have hin2 := P7.refR_in hg hz.2.2.2
  have hz1 := hin2.res
  have hz2 := hin2.ex
  have hz3 := hin2.h
  have hm1 : (moveE (makeC (someNet n 10 20)) r e).1 = z := by rw [hmv]
  refine w_region ?_
  refine rw_t 185 rfl rfl rfl (n_load_boxagg [_, _, _, _, _, _, _, _, _] rfl rfl (Nat.le_of_ble_eq_true rfl) rfl ?_)
  refine rw_t 186 rfl rfl rfl (n_load_boxagg [_, _, _] rfl rfl (Nat.le_of_ble_eq_true rfl) rfl ?_)
  refine rw_t 187 rfl rfl rfl (n_load_boxagg [_, _, _, _, _, _, _] rfl rfl (Nat.le_of_ble_eq_true rfl) rfl ?_)
  refine rw_t 188 rfl rfl rfl (n_callN (X' := .tup [.agg [.slc 27 0 ((moveE (makeC (someNet n 10 20)) r e).1.Res.length) none, .slc 28 0 ((moveE (makeC (someNet n 10 20)) r e).1.Ex.length) none, .slc 29 0 ((moveE (makeC (someNet n 10 20)) r e).1.H.length) none], .val (.int .i64 ((moveE (makeC (someNet n 10 20)) r e).2))]) (N' := [SO.ints true .i64 ((moveE (makeC (someNet n 10 20)) r e).1.Res), SO.ints true .i64 ((moveE (makeC (someNet n 10 20)) r e).1.Ex), SO.ints true .i64 ((moveE (makeC (someNet n 10 20)) r e).1.H)]) rfl rfl (t_Move (c := (makeC (someNet n 10 20))) (p := r) (e := e) (hg) (hR) (hz.2.2.1)) [5, 6, 7, 8, 9, 10, 16, 17, 18] ⟨.inr ⟨_, rfl, srv⟩, .inr ⟨_, rfl, srv⟩, .inr ⟨_, rfl, srv⟩, .inr ⟨_, rfl, srv⟩, .inr ⟨_, rfl, srv⟩, .inr ⟨_, rfl, srv⟩, .inr ⟨_, rfl, srv⟩, .inr ⟨_, rfl, srv⟩, .inr ⟨_, rfl, srv⟩, trivial⟩ rfl rfl rfl rfl rfl ?_)
  refine rw_t 184 rfl rfl rfl (do_move rfl ?_)
  refine rw_t 189 rfl rfl rfl (do_extract rfl rfl ?_)
  refine rw_t 190 rfl rfl rfl (do_extract rfl rfl ?_)
  refine rw_t 27 rfl rfl rfl (n_alloc (n := 30) rfl ?_)
  refine rw_u rfl rfl (n_store_whole rfl rfl rfl rfl rfl rfl ?_)
  refine rw_t 28 rfl rfl rfl (do_assign rfl ?_)
  refine rw_nil ?_
  refine w_seq ?_
  refine w_seq ?_
  refine w_region ?_
  refine rw_t 191 rfl rfl rfl (do_move rfl ?_)
  refine rw_t 192 rfl rfl rfl (do_bin rfl rfl rfl ?_)
  refine rw_t 193 rfl rfl rfl (do_move rfl ?_)
  have hkn1 : (((moveE (makeC (someNet n 10 20)) r e).2 != 0)) = false := by rw [hmv]; rfl
  refine rw_gt 194 2 193 false rfl rfl rfl rfl rfl rfl hkn1 (n_load_boxagg [_, _, _, _, _, _, _, _, _] rfl rfl (Nat.le_of_ble_eq_true rfl) rfl ?_)
  refine rw_gt 195 2 193 false rfl rfl rfl rfl rfl rfl hkn1 (n_load_boxagg [_, _, _] rfl rfl (Nat.le_of_ble_eq_true rfl) rfl ?_)
  refine rw_gt 196 2 193 false rfl rfl rfl rfl rfl rfl hkn1 (n_load_boxagg [_, _, _, _, _, _, _] rfl rfl (Nat.le_of_ble_eq_true rfl) rfl ?_)
  refine rw_gt 197 2 193 false rfl rfl rfl rfl rfl rfl hkn1 (do_callR (X' := .val (.bool (decide (strictP (makeC (someNet n 10 20)) r e)))) rfl rfl (t_Strict (c := (makeC (someNet n 10 20))) (p := r) (e := e) (hg) (hR) (hz.2.2.1)) [5, 6, 7, 8, 9, 10, 16, 17, 18] ⟨.inr ⟨_, rfl, srv⟩, .inr ⟨_, rfl, srv⟩, .inr ⟨_, rfl, srv⟩, .inr ⟨_, rfl, srv⟩, .inr ⟨_, rfl, srv⟩, .inr ⟨_, rfl, srv⟩, .inr ⟨_, rfl, srv⟩, .inr ⟨_, rfl, srv⟩, .inr ⟨_, rfl, srv⟩, trivial⟩ rfl rfl rfl ?_)
  refine rw_gt 198 2 193 false rfl rfl rfl rfl rfl rfl hkn1 (do_not rfl ?_)
  refine rw_t 199 rfl rfl rfl (do_pick_f rfl hkn1 rfl ?_)
  refine rw_t 200 rfl rfl rfl (do_move rfl ?_)
  have hkn2 : (!(decide (strictP (makeC (someNet n 10 20)) r e))) = false := by rw [decide_eq_true hz.1]; rfl
  refine rw_gt 201 9 200 false rfl rfl rfl rfl rfl rfl hkn2 (n_load_boxagg [_, _, _] rfl rfl (Nat.le_of_ble_eq_true rfl) rfl ?_)
  refine rw_gt 202 9 200 false rfl rfl rfl rfl rfl rfl hkn2 (n_load_boxagg [_, _, _] rfl rfl (Nat.le_of_ble_eq_true rfl) rfl ?_)
  refine rw_gt 203 9 200 false rfl rfl rfl rfl rfl rfl hkn2 (do_callR (X' := .val (.bool (decide (sameP z ((moveE (makeC (someNet n 10 20)) r e).1))))) rfl rfl (t_same (a := z) (b := (moveE (makeC (someNet n 10 20)) r e).1) (by omega)) [24, 25, 26, 27, 28, 29] ⟨.inr ⟨_, rfl, srv⟩, .inr ⟨_, rfl, srv⟩, .inr ⟨_, rfl, srv⟩, .inr ⟨_, rfl, srv⟩, .inr ⟨_, rfl, srv⟩, .inr ⟨_, rfl, srv⟩, trivial⟩ rfl rfl rfl ?_)
  refine rw_gt 204 9 200 false rfl rfl rfl rfl rfl rfl hkn2 (do_not rfl ?_)
  refine rw_t 205 rfl rfl rfl (do_pick_f rfl hkn2 rfl ?_)
  refine rw_nil ?_
  refine w_cond rfl (fun hc10 => ?_) (fun hc10 => ?_)
  · exfalso; rw [hm1] at hc10; exact absurd hc10 (by simp [sameP])
  refine w_skip ?_
  refine w_region ?_
  refine rw_t 206 rfl rfl rfl (n_load_boxagg [_, _, _] rfl rfl (Nat.le_of_ble_eq_true rfl) rfl ?_)
  refine rw_u rfl rfl (n_store_whole rfl rfl rfl rfl rfl rfl ?_)
  refine rw_nil ?_
  refine w_region ?_
  refine rw_t 207 rfl rfl rfl (do_add rfl rfl (by omega) ?_)
  refine rw_t 47 rfl rfl rfl (do_move rfl ?_)
  refine rw_nil ?_
  refine ⟨(i + 1, z), [0, 1, 2, 3, 4, 5, 6, 7, 8, 9, 10, 11, 12, 13, 14, 15, 24, 25, 26, 19], by dsimp only; omega, ⟨by dsimp only; omega, hz.2.2.2⟩, ⟨shR rfl, shR rfl, shR rfl, shR rfl, shR rfl, shR rfl, shR rfl, shR rfl, shR rfl, shR rfl, shR rfl, shR rfl, shR rfl, shR rfl, shR rfl, shR rfl, shR rfl, shR rfl, shR rfl, shR rfl, trivial⟩, rfl, pre_ok rfl, ⟨⟨_, rfl, rfl⟩, ⟨_, rfl, rfl⟩, ⟨_, rfl, rfl⟩, ⟨_, rfl, rfl⟩, ⟨_, rfl, rfl⟩, ⟨_, rfl, rfl⟩, trivial⟩⟩
end Go.Proofs
