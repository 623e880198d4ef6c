/- RelaxedStrict answers true for every input that can be read, and leaves the input as it was. Part 4. -/
import Derived.Test.YtnjmdlnaelpakaaW3
set_option linter.unusedVariables false
set_option linter.unusedSimpArgs false
set_option linter.unusedVariables false
namespace Go.Proofs
open Go Go.Sx Go.RowKit
/-- The lowest end of the first k arcs from a place on of which something is left. -/
def leastK (c : Csr) (p : Pre) (a0 : Int) : Nat → Int × Bool
  | 0 => (0, false)
  | k + 1 => if p.Res.getD (a0 + k).toNat 0 > 0 ∧ (¬ (leastK c p a0 k).2 = true ∨ p.H.getD (c.Head.getD (a0 + k).toNat 0).toNat 0 < (leastK c p a0 k).1) then (p.H.getD (c.Head.getD (a0 + k).toNat 0).toNat 0, true) else leastK c p a0 k
def manyOf (c : Csr) (u : Int) : Nat := (c.First.getD (u + 1).toNat 0 - c.First.getD u.toNat 0).toNat
def leastOf (c : Csr) (p : Pre) (u : Int) : Int × Bool := leastK c p (c.First.getD u.toNat 0) (manyOf c u)
theorem leastK_in {c : Csr} {p : Pre} {M : Int} (hM : 0 ≤ M) (hh : ∀ v, 0 ≤ p.H.getD v 0 ∧ p.H.getD v 0 ≤ M) (a0 : Int) : ∀ k, 0 ≤ (leastK c p a0 k).1 ∧ (leastK c p a0 k).1 ≤ M
  | 0 => ⟨Int.le_refl 0, hM⟩
  | k + 1 => by
    simp only [leastK]
    split
    · exact hh _
    · exact leastK_in hM hh a0 k
theorem high_all {c : Csr} {p : Pre} (hp : rightP c p) (h : CsrT c) (v : Nat) : 0 ≤ p.H.getD v 0 ∧ p.H.getD v 0 ≤ 8192 := by
  rcases Nat.lt_or_ge v c.N.toNat with hv | hv
  · exact (right_ok h hp).hv v hv
  · have := hp.1.2.2
    simp only [List.getD, List.getElem?_eq_none (show p.H.length ≤ v by omega)]
    decide
def idxI (q : Int → Bool) (xs : List Int) : Int := match (List.range xs.length).find? (fun i => q (xs.getD i 0)) with
  | some i => (i : Int)
  | none => -1
theorem idx_at {q : Int → Bool} {xs : List Int} {i : Nat} (hi : i < xs.length) (h : q (xs.getD i 0) = true) (hno : ∀ k, k < i → q (xs.getD k 0) = false) : idxI q xs = i := by
  unfold idxI
  have : (List.range xs.length).find? (fun i => q (xs.getD i 0)) = some i := by
    rw [List.find?_range_eq_some]
    exact ⟨h, by simpa using hi, fun j hj => by rw [hno j hj]; rfl⟩
  rw [this]
theorem idx_none {q : Int → Bool} {xs : List Int} (hno : ∀ k, k < xs.length → q (xs.getD k 0) = false) : idxI q xs = -1 := by
  unfold idxI
  have : (List.range xs.length).find? (fun i => q (xs.getD i 0)) = none := by
    rw [List.find?_range_eq_none]
    exact fun i hi => by rw [hno i hi]; rfl
  rw [this]
theorem idx_neg {q : Int → Bool} {xs : List Int} : ¬ (idxI q xs ≥ 0) ↔ ∀ k, k < xs.length → q (xs.getD k 0) = false := by
  constructor
  · intro hn k hk
    cases hf : (List.range xs.length).find? (fun i => q (xs.getD i 0)) with
    | some i => exact (hn (by unfold idxI; rw [hf]; exact Int.natCast_nonneg i)).elim
    | none =>
      rw [List.find?_range_eq_none] at hf
      have := hf k hk
      simpa using this
  · intro hno
    rw [idx_none hno]; decide
theorem idx_high {c : Csr} {p : Pre} (h : CsrOK c) (hp : PreLen c p) : ¬ (idxI (fun x => decide (x < 0 ∨ x > 2 * c.N)) p.H ≥ 0) ↔ highP c p := by
  rw [idx_neg, hp.h]
  unfold highP
  refine forall_congr' fun k => forall_congr' fun hk => ?_
  rw [decide_eq_false_iff_not]
  omega
theorem in64_wrap {x : Int} (h : In64 x) : IntKind.i64.wrap x = x := in64 h.1 h.2
theorem wrap_sub (a x : Int) : IntKind.i64.wrap (IntKind.i64.wrap a - x) = IntKind.i64.wrap (a - x) := by rw [IntKind.wrap_i64, IntKind.wrap_i64, IntKind.wrap_i64]; omega
theorem wrap_add (a x : Int) : IntKind.i64.wrap (IntKind.i64.wrap a + x) = IntKind.i64.wrap (a + x) := by rw [IntKind.wrap_i64, IntKind.wrap_i64, IntKind.wrap_i64]; omega
theorem ex_step {c : Csr} {p : Pre} {l : List Int} {i : Nat} (hb : c.Back.getD i false = true) (ht : 0 ≤ tailOf c i) (ht2 : (tailOf c i).toNat < l.length) (hh : 0 ≤ c.Head.getD i 0) (hh2 : (c.Head.getD i 0).toNat < l.length)
    (hg : ∀ v : Nat, v < c.N.toNat → l.getD v 0 = IntKind.i64.wrap (p.Ex.getD v 0 - exK c p.Res i v)) :
    ∀ v : Nat, v < c.N.toNat → ((l.set (tailOf c i).toNat (IntKind.i64.wrap (l.getD (tailOf c i).toNat 0 - p.Res.getD i 0))).set (c.Head.getD i 0).toNat (IntKind.i64.wrap ((l.set (tailOf c i).toNat (IntKind.i64.wrap (l.getD (tailOf c i).toNat 0 - p.Res.getD i 0))).getD (c.Head.getD i 0).toNat 0 + p.Res.getD i 0))).getD v 0 = IntKind.i64.wrap (p.Ex.getD v 0 - exK c p.Res (i + 1) v) := by
  intro v hv
  have h1 := hg v hv
  rw [exK, if_pos hb, getD_set _ _ _ _ (by rw [List.length_set]; exact hh2), getD_set _ _ _ _ ht2, getD_set _ _ _ _ ht2]
  by_cases e1 : (c.Head.getD i 0).toNat = v
  · rw [if_pos e1, if_pos (show c.Head.getD i 0 = (v : Int) by omega)]
    by_cases e2 : tailOf c i = (v : Int)
    · rw [if_pos e2, if_pos (by omega), e2, Int.toNat_natCast, h1, wrap_sub, wrap_add]; congr 1; omega
    · rw [if_neg e2, if_neg (by omega), e1, h1, wrap_add]; congr 1; omega
  · rw [if_neg e1, if_neg (show ¬ c.Head.getD i 0 = (v : Int) by omega)]
    by_cases e2 : tailOf c i = (v : Int)
    · rw [if_pos e2, if_pos (by omega), e2, Int.toNat_natCast, h1, wrap_sub]; congr 1; omega
    · rw [if_neg e2, if_neg (by omega), h1]; congr 1; omega
theorem ex_no {x y z : Int} (h : z = IntKind.i64.wrap (x - y)) {P : Prop} (hq : x = y ∧ (P → 0 ≤ x)) (hc : z ≠ 0 ∨ (P ∧ x < 0)) : False := by
  rcases hc with hc | ⟨h1, h2⟩
  · apply hc; rw [h, hq.1, Int.sub_self]; rfl
  · have := hq.2 h1; omega
theorem ex_yes {x y z : Int} {P : Prop} (hy : -2305843009213693952 ≤ y ∧ y ≤ 2305843009213693952) (hx : In64 x) (h : z = IntKind.i64.wrap (x - y)) (hc : ¬ (z ≠ 0 ∨ (P ∧ x < 0))) : x = y ∧ (P → 0 ≤ x) := by
  obtain ⟨h1, h2⟩ := hx
  rw [IntKind.wrap_i64] at h
  have h0 : z = 0 := Decidable.byContradiction fun q => hc (.inl q)
  have h3 : x - y = 0 := by
    rcases Int.lt_or_le (x - y + 9223372036854775808) 0 with q | q
    · have : (x - y + 9223372036854775808) % 18446744073709551616 = x - y + 9223372036854775808 + 18446744073709551616 := by omega
      omega
    · rcases Int.lt_or_le (x - y + 9223372036854775808) 18446744073709551616 with q2 | q2
      · rw [Int.emod_eq_of_lt q q2] at h; omega
      · omega
  refine ⟨by omega, fun hp => ?_⟩
  rcases Int.lt_or_le x 0 with q | q
  · exact (hc (.inr ⟨hp, q⟩)).elim
  · exact q
/-- P9.3: which moves are strict. -/
def strictP (c : Csr) (p : Pre) (e : Event) : Prop := legalE c p e = 0 ∧
  (if e.what = 1 then p.H.getD e.u.toNat 0 - p.H.getD (c.Head.getD e.arc.toNat 0).toNat 0 = 1 ∧ e.d = (if p.Res.getD e.arc.toNat 0 < p.Ex.getD e.u.toNat 0 then p.Res.getD e.arc.toNat 0 else p.Ex.getD e.u.toNat 0)
   else (leastOf c p e.u).2 = true ∧ p.Ex.getD e.u.toNat 0 > 0 ∧ (leastOf c p e.u).1 ≥ p.H.getD e.u.toNat 0 ∧ e.h = (leastOf c p e.u).1 + 1)
instance (c : Csr) (p : Pre) (e : Event) : Decidable (strictP c p e) := by unfold strictP; infer_instance
set_option maxHeartbeats 8000000 in
set_option synthInstance.maxHeartbeats 400000 in
set_option synthInstance.maxSize 2000 in
theorem t_least (c : Csr) (p : Pre) (h : CsrG c) (hp : rightP c p) (u : Int) (hu : 0 ≤ u ∧ u < c.N) : Tri Try.prog 41 [.agg [.val (.int .i64 c.N), .val (.int .i64 c.S), .val (.int .i64 c.T), .slc 0 0 c.First.length none, .slc 1 0 c.Head.length none, .slc 2 0 c.Rev.length none, .slc 3 0 c.Cap.length none, .slc 4 0 c.Arc.length none, .slc 5 0 c.Back.length none, .slc 6 0 p.Res.length none, .slc 7 0 p.Ex.length none, .slc 8 0 p.H.length none], .val (.int .i64 u)] [SO.ints false .i64 c.First, SO.ints false .i64 c.Head, SO.ints false .i64 c.Rev, SO.ints false .i64 c.Cap, SO.ints false .i64 c.Arc, SO.bools false c.Back, SO.ints false .i64 p.Res, SO.ints false .i64 p.Ex, SO.ints false .i64 p.H] (fun s H => s = .tup [.val (.int .i64 ((leastOf c p u).1)), .val (.bool ((leastOf c p u).2))] ∧ H = [SO.ints false .i64 c.First, SO.ints false .i64 c.Head, SO.ints false .i64 c.Rev, SO.ints false .i64 c.Cap, SO.ints false .i64 c.Arc, SO.bools false c.Back, SO.ints false .i64 p.Res, SO.ints false .i64 p.Ex, SO.ints false .i64 p.H]) := by
  refine tri_of_w (fn := Try.f41) Try.func41 rfl (by simp [Try.f41]) ?_
  intro ρ w hρ
  refine w_seq ?_
  have hn := h.n
  have hf := h.first
  have hhd := h.head
  have hrl := h.rev
  have hcl := h.cap
  have hal := h.arc
  have hbl := h.back
  have hr := hp.1.1
  have hx := hp.1.2.1
  have hh := hp.1.2.2
  have hS := h.s
  have hT := h.t
  have hm := h.mono u.toNat (by omega)
  have hmt : (u + 1).toNat = u.toNat + 1 := by omega
  rw [← hmt] at hm
  refine w_region ?_
  refine rw_t 2 rfl rfl rfl (n_box_agg (n := 9) rfl rfl ?_)
  refine rw_t 4 rfl rfl rfl (do_assign rfl ?_)
  refine rw_t 5 rfl rfl rfl (do_assign rfl ?_)
  refine rw_nil ?_
  refine w_seq ?_
  refine w_region ?_
  refine rw_t 6 rfl rfl rfl (do_assign rfl ?_)
  refine rw_t 7 rfl rfl rfl (do_assign rfl ?_)
  refine rw_nil ?_
  refine w_seq ?_
  refine w_seq ?_
  refine w_region ?_
  refine rw_t 10 rfl rfl rfl (do_fieldaddr rfl ?_)
  refine rw_t 11 rfl rfl rfl (do_fieldaddr rfl ?_)
  refine rw_t 12 rfl rfl rfl (do_load_box rfl rfl rfl ?_)
  refine rw_t 13 rfl rfl rfl (do_move rfl ?_)
  refine rw_t 14 rfl rfl rfl (do_ix0 rfl rfl rfl (by first | omega | (simp only [ls] <;> omega)) ?_)
  refine rw_t 15 rfl rfl rfl (do_load_arr rfl rfl (by first | omega | (simp only [ls] <;> omega)) rfl ?_)
  refine rw_t 8 rfl rfl rfl (do_assign rfl ?_)
  refine rw_nil ?_
  refine w_block ?_
  refine w_loopS (ι := Nat) (fun i => [(1, .val (.int .i64 u)), (2, .ptr 9 0 0), (4, .val (.int .i64 0)), (5, .val (.bool false)), (6, .val (.int .i64 ((leastK c p (c.First.getD u.toNat 0) i).1))), (7, .val (.bool ((leastK c p (c.First.getD u.toNat 0) i).2))), (8, .val (.int .i64 (c.First.getD u.toNat 0 + (i : Int))))]) (fun i => [SO.ints false .i64 c.First, SO.ints false .i64 c.Head, SO.ints false .i64 c.Rev, SO.ints false .i64 c.Cap, SO.ints false .i64 c.Arc, SO.bools false c.Back, SO.ints false .i64 p.Res, SO.ints false .i64 p.Ex, SO.ints false .i64 p.H, .box [.val (.int .i64 c.N), .val (.int .i64 c.S), .val (.int .i64 c.T), .slc 0 0 c.First.length none, .slc 1 0 c.Head.length none, .slc 2 0 c.Rev.length none, .slc 3 0 c.Cap.length none, .slc 4 0 c.Arc.length none, .slc 5 0 c.Back.length none, .slc 6 0 p.Res.length none, .slc 7 0 p.Ex.length none, .slc 8 0 p.H.length none]]) (fun i => manyOf c u - i) (fun i => i ≤ manyOf c u) (0) [0, 1, 2, 3, 4, 5, 6, 7, 8, 9] (by simp) ⟨shR rfl, shR rfl, shR rfl, shR rfl, shR rfl, shR rfl, shR rfl, shR rfl, shR rfl, shR rfl, trivial⟩ rfl (pre_ok rfl) hρ ⟨⟨_, rfl, rfl⟩, ⟨_, rfl, rfl⟩, ⟨_, rfl, rfl⟩, ⟨_, rfl, rfl⟩, ⟨_, rfl, rfl⟩, ⟨_, rfl, rfl⟩, ⟨_, rfl, Eq.symm (val_congr (by simp))⟩, trivial⟩ ?_
  intro i hi
  have hmo : (manyOf c u : Int) = c.First.getD (u + 1).toNat 0 - c.First.getD u.toNat 0 := by unfold manyOf; omega
  refine w_seq ?_
  refine w_seq ?_
  refine w_region ?_
  refine rw_t 16 rfl rfl rfl (do_move rfl ?_)
  refine rw_t 17 rfl rfl rfl (do_fieldaddr rfl ?_)
  refine rw_t 18 rfl rfl rfl (do_fieldaddr rfl ?_)
  refine rw_t 19 rfl rfl rfl (do_load_box rfl rfl rfl ?_)
  refine rw_t 20 rfl rfl rfl (do_move rfl ?_)
  refine rw_t 21 rfl rfl rfl (do_add rfl rfl (by omega) ?_)
  refine rw_t 22 rfl rfl rfl (do_ix0 rfl rfl rfl (by first | omega | (simp only [ls] <;> omega)) ?_)
  refine rw_t 23 rfl rfl rfl (do_load_arr rfl rfl (by first | omega | (simp only [ls] <;> omega)) rfl ?_)
  refine rw_t 24 rfl rfl rfl (do_bin rfl rfl rfl ?_)
  refine rw_nil ?_
  refine w_cond rfl (fun hc1 => ?_) (fun hc1 => ?_)
  all_goals try simp only [bs] at hc1
  rotate_left
  · refine w_exit ?_
    refine w_seq ?_
    refine w_region ?_
    refine rw_t 55 rfl rfl rfl (do_move rfl ?_)
    refine rw_t 56 rfl rfl rfl (do_move rfl ?_)
    refine rw_t 4 rfl rfl rfl (do_assign rfl ?_)
    refine rw_t 5 rfl rfl rfl (do_assign rfl ?_)
    refine rw_nil ?_
    have hi' : i = manyOf c u := by omega
    subst hi'
    refine w_ret ?_
    exact ret_eq (.inl rfl) (.cons (res_tmp rfl) (.cons (res_tmp rfl) .nil)) [0, 1, 2, 3, 4, 5, 6, 7, 8] (rfl) ⟨shR rfl, shR rfl, shR rfl, shR rfl, shR rfl, shR rfl, shR rfl, shR rfl, shR rfl, trivial⟩ rfl (pre_ok rfl)
  refine w_skip ?_
  refine w_seq ?_
  refine w_block ?_
  refine w_seq ?_
  have hA : (c.First.getD u.toNat 0 + (i : Int)).toNat < c.Head.length := by omega
  have hhd2 := h.hd _ hA
  have hla := leastK_in (M := 8192) (by omega) (high_all hp h.toCsrT) (c := c) (c.First.getD u.toNat 0) i
  refine w_draw mixed [0, 1, 3, 0, 8, 24, 0, 120, 248] [511, 1023, 2047] (by kernel_rfl) (by kernel_rfl) rfl rfl rfl (hle hρ rfl) ?_
  refine ra_q (j := 0) rfl rfl rfl rfl (do_fieldaddr rfl ⟨rfl, rfl⟩) (by rfl) ?_
  refine ra_q (j := 1) rfl rfl rfl rfl (do_fieldaddr rfl ⟨rfl, rfl⟩) (by rfl) ?_
  refine ra_q (j := 2) rfl rfl rfl rfl (do_load_box rfl rfl rfl ⟨rfl, rfl⟩) (by rfl) ?_
  refine ra_q (j := 3) rfl rfl rfl rfl (do_fieldaddr rfl ⟨rfl, rfl⟩) (by rfl) ?_
  refine ra_q (j := 4) rfl rfl rfl rfl (do_fieldaddr rfl ⟨rfl, rfl⟩) (by rfl) ?_
  refine ra_q (j := 5) rfl rfl rfl rfl (do_load_box rfl rfl rfl ⟨rfl, rfl⟩) (by rfl) ?_
  refine ra_q (j := 6) rfl rfl rfl rfl (do_move rfl ⟨rfl, rfl⟩) (by rfl) ?_
  refine ra_q (j := 7) rfl rfl rfl rfl (do_ix0 rfl rfl rfl (by first | omega | (simp only [ls] <;> omega)) ⟨rfl, rfl⟩) (by rfl) ?_
  refine ra_q (j := 8) rfl rfl rfl rfl (do_load_arr rfl rfl (by first | omega | (simp only [ls] <;> omega)) rfl ⟨rfl, rfl⟩) (by rfl) ?_
  refine n_done ?_
  refine rw_t 36 rfl rfl rfl (do_ix0 rfl rfl rfl (by first | omega | (simp only [ls] <;> omega)) ?_)
  refine rw_t 37 rfl rfl rfl (do_load_arr rfl rfl (by first | omega | (simp only [ls] <;> omega)) rfl ?_)
  refine rw_t 9 rfl rfl rfl (do_assign rfl ?_)
  refine rw_nil ?_
  refine w_seqB 53 (((p.Res.getD ((c.First.getD u.toNat 0 + (i : Int)).toNat) 0) > 0 ∧ (¬ (((leastK c p (c.First.getD u.toNat 0) i).2) = true) ∨ (p.H.getD ((c.Head.getD ((c.First.getD u.toNat 0 + (i : Int)).toNat) 0).toNat) 0) < (leastK c p (c.First.getD u.toNat 0) i).1))) ?_ ?_
  · -- region 6
    refine w_region ?_
    refine rw_t 38 rfl rfl rfl (do_fieldaddr rfl ?_)
    refine rw_t 39 rfl rfl rfl (do_fieldaddr rfl ?_)
    refine rw_t 40 rfl rfl rfl (do_load_box rfl rfl rfl ?_)
    refine rw_t 41 rfl rfl rfl (do_move rfl ?_)
    refine rw_t 42 rfl rfl rfl (do_ix0 rfl rfl rfl (by first | omega | (simp only [ls] <;> omega)) ?_)
    refine rw_t 43 rfl rfl rfl (do_load_arr rfl rfl (by first | omega | (simp only [ls] <;> omega)) rfl ?_)
    refine rw_t 44 rfl rfl rfl (do_bin rfl rfl rfl ?_)
    refine rw_t 45 rfl rfl rfl (do_move rfl ?_)
    refine rw_case 45 rfl (fun g1 => ?_) (fun g1 => ?_)
    · have kg1 := g1
      try simp only [bs] at kg1
      refine rw_gt 46 7 45 true rfl rfl rfl rfl rfl rfl g1 (do_move rfl ?_)
      refine rw_gt 47 7 45 true rfl rfl rfl rfl rfl rfl g1 (do_not rfl ?_)
      refine rw_gt 48 7 45 true rfl rfl rfl rfl rfl rfl g1 (do_move rfl ?_)
      refine rw_case 48 rfl (fun g2 => ?_) (fun g2 => ?_)
      · have kg2 := g2
        try simp only [bs] at kg2
        refine rw_gf 49 10 48 false rfl rfl rfl rfl rfl rfl (by rw [g2]; decide) ?_
        refine rw_gf 50 10 48 false rfl rfl rfl rfl rfl rfl (by rw [g2]; decide) ?_
        refine rw_gf 51 10 48 false rfl rfl rfl rfl rfl rfl (by rw [g2]; decide) ?_
        refine rw_gt 52 7 45 true rfl rfl rfl rfl rfl rfl g1 (do_pick_t rfl g2 rfl ?_)
        refine rw_t 53 rfl rfl rfl (do_pick_t rfl g1 rfl ?_)
        refine rw_nil ?_
        refine ⟨rfl, ⟨_, rfl, by first | (simp; done) | (simp only [bs]; omega) | (simp [*]; done) | (simp; omega) | (constructor <;> intro h <;> simp_all <;> omega)⟩, ?_⟩
        repeat (refine ⟨⟨_, rfl, rfl⟩, ?_⟩)
        exact trivial
      · have kg2 := g2
        try simp only [bs] at kg2
        refine rw_gt 49 10 48 false rfl rfl rfl rfl rfl rfl g2 (do_move rfl ?_)
        refine rw_gt 50 10 48 false rfl rfl rfl rfl rfl rfl g2 (do_move rfl ?_)
        refine rw_gt 51 10 48 false rfl rfl rfl rfl rfl rfl g2 (do_bin rfl rfl rfl ?_)
        refine rw_gt 52 7 45 true rfl rfl rfl rfl rfl rfl g1 (do_pick_f rfl g2 rfl ?_)
        refine rw_t 53 rfl rfl rfl (do_pick_t rfl g1 rfl ?_)
        refine rw_nil ?_
        refine ⟨rfl, ⟨_, rfl, by first | (simp; done) | (simp only [bs]; omega) | (simp [*]; done) | (simp; omega) | (constructor <;> intro h <;> simp_all <;> omega)⟩, ?_⟩
        repeat (refine ⟨⟨_, rfl, rfl⟩, ?_⟩)
        exact trivial
    · have kg1 := g1
      try simp only [bs] at kg1
      refine rw_gf 46 7 45 true rfl rfl rfl rfl rfl rfl (by rw [g1]; decide) ?_
      refine rw_gf 47 7 45 true rfl rfl rfl rfl rfl rfl (by rw [g1]; decide) ?_
      refine rw_gf 48 7 45 true rfl rfl rfl rfl rfl rfl (by rw [g1]; decide) ?_
      refine rw_gu 49 10 48 false rfl rfl rfl rfl rfl rfl ?_
      refine rw_gu 50 10 48 false rfl rfl rfl rfl rfl rfl ?_
      refine rw_gu 51 10 48 false rfl rfl rfl rfl rfl rfl ?_
      refine rw_gf 52 7 45 true rfl rfl rfl rfl rfl rfl (by rw [g1]; decide) ?_
      refine rw_t 53 rfl rfl rfl (do_pick_f rfl g1 rfl ?_)
      refine rw_nil ?_
      refine ⟨rfl, ⟨_, rfl, by first | (simp; done) | (simp only [bs]; omega) | (simp [*]; done) | (simp; omega) | (constructor <;> intro h <;> simp_all <;> omega)⟩, ?_⟩
      repeat (refine ⟨⟨_, rfl, rfl⟩, ?_⟩)
      exact trivial
  intro b1 hb1
  refine w_condP hb1 rfl (fun hc2 => ?_) (fun hc2 => ?_)
  · -- region 7
    refine w_region ?_
    refine rw_t 54 rfl rfl rfl (do_move rfl ?_)
    refine rw_t 6 rfl rfl rfl (do_assign rfl ?_)
    refine rw_t 7 rfl rfl rfl (do_assign rfl ?_)
    refine rw_nil ?_
    refine w_region ?_
    refine rw_t 25 rfl rfl rfl (do_move rfl ?_)
    refine rw_t 26 rfl rfl rfl (do_add rfl rfl (by omega) ?_)
    refine rw_t 8 rfl rfl rfl (do_assign rfl ?_)
    refine rw_nil ?_
    refine ⟨i + 1, [0, 1, 2, 3, 4, 5, 6, 7, 8, 9], by dsimp only; omega, by omega, ⟨shR rfl, shR rfl, shR rfl, shR rfl, shR rfl, shR rfl, shR rfl, shR rfl, shR rfl, shR rfl, trivial⟩, rfl, pre_ok rfl, ⟨⟨_, rfl, rfl⟩, ⟨_, rfl, rfl⟩, ⟨_, rfl, rfl⟩, ⟨_, rfl, rfl⟩, ⟨_, rfl, Eq.symm (val_congr (by simp only [leastK]; rw [if_pos hc2]))⟩, ⟨_, rfl, Eq.symm (bool_congr (by simp only [leastK]; rw [if_pos hc2]))⟩, ⟨_, rfl, Eq.symm (val_congr (by omega))⟩, trivial⟩⟩
  · refine w_skip ?_
    refine w_region ?_
    refine rw_t 25 rfl rfl rfl (do_move rfl ?_)
    refine rw_t 26 rfl rfl rfl (do_add rfl rfl (by omega) ?_)
    refine rw_t 8 rfl rfl rfl (do_assign rfl ?_)
    refine rw_nil ?_
    refine ⟨i + 1, [0, 1, 2, 3, 4, 5, 6, 7, 8, 9], by dsimp only; omega, by omega, ⟨shR rfl, shR rfl, shR rfl, shR rfl, shR rfl, shR rfl, shR rfl, shR rfl, shR rfl, shR rfl, trivial⟩, rfl, pre_ok rfl, ⟨⟨_, rfl, rfl⟩, ⟨_, rfl, rfl⟩, ⟨_, rfl, rfl⟩, ⟨_, rfl, rfl⟩, ⟨_, rfl, Eq.symm (val_congr (by simp only [leastK]; rw [if_neg hc2]))⟩, ⟨_, rfl, Eq.symm (bool_congr (by simp only [leastK]; rw [if_neg hc2]))⟩, ⟨_, rfl, Eq.symm (val_congr (by omega))⟩, trivial⟩⟩
set_option maxHeartbeats 8000000 in
set_option synthInstance.maxHeartbeats 400000 in
set_option synthInstance.maxSize 2000 in
theorem t_Strict (c : Csr) (p : Pre) (h : CsrG c) (hp : rightP c p) (e : Event) (he : EvIn e) : Tri Try.prog 17 [.agg [.val (.int .i64 c.N), .val (.int .i64 c.S), .val (.int .i64 c.T), .slc 0 0 c.First.length none, .slc 1 0 c.Head.length none, .slc 2 0 c.Rev.length none, .slc 3 0 c.Cap.length none, .slc 4 0 c.Arc.length none, .slc 5 0 c.Back.length none], .agg [.slc 6 0 p.Res.length none, .slc 7 0 p.Ex.length none, .slc 8 0 p.H.length none], .agg [.val (.int .i64 e.who), .val (.int .u8 e.what), .val (.int .i64 e.u), .val (.int .i64 e.arc), .val (.int .i64 e.d), .val (.int .i64 e.h), .val (.int .i64 e.low)]] [SO.ints false .i64 c.First, SO.ints false .i64 c.Head, SO.ints false .i64 c.Rev, SO.ints false .i64 c.Cap, SO.ints false .i64 c.Arc, SO.bools false c.Back, SO.ints false .i64 p.Res, SO.ints false .i64 p.Ex, SO.ints false .i64 p.H] (fun s H => s = .val (.bool (decide (strictP c p e))) ∧ H = [SO.ints false .i64 c.First, SO.ints false .i64 c.Head, SO.ints false .i64 c.Rev, SO.ints false .i64 c.Cap, SO.ints false .i64 c.Arc, SO.bools false c.Back, SO.ints false .i64 p.Res, SO.ints false .i64 p.Ex, SO.ints false .i64 p.H]) := by
  refine tri_of_w (fn := Try.f17) Try.func17 rfl (by simp [Try.f17]) ?_
  intro ρ w hρ
  refine w_seq ?_
  have hn := h.n
  have hf := h.first
  have hhd := h.head
  have hrl := h.rev
  have hcl := h.cap
  have hal := h.arc
  have hbl := h.back
  have hr := hp.1.1
  have hx := hp.1.2.1
  have hh := hp.1.2.2
  have hS := h.s
  have hT := h.t
  have hha := high_all hp h.toCsrT
  refine w_region ?_
  refine rw_t 3 rfl rfl rfl (n_box_agg (n := 9) rfl rfl ?_)
  refine rw_t 4 rfl rfl rfl (n_box_agg (n := 10) rfl rfl ?_)
  refine rw_t 5 rfl rfl rfl (n_box_agg (n := 11) rfl rfl ?_)
  refine rw_t 6 rfl rfl rfl (do_assign rfl ?_)
  refine rw_nil ?_
  refine w_seq ?_
  refine w_region ?_
  refine rw_t 10 rfl rfl rfl (n_load_boxagg [_, _, _, _, _, _, _, _, _] rfl rfl (Nat.le_of_ble_eq_true rfl) rfl ?_)
  refine rw_t 11 rfl rfl rfl (n_load_boxagg [_, _, _] rfl rfl (Nat.le_of_ble_eq_true rfl) rfl ?_)
  refine rw_t 12 rfl rfl rfl (do_build (out := [_, _, _, _, _, _, _, _, _, _, _, _]) rfl rfl ?_)
  refine rw_t 7 rfl rfl rfl (n_alloc (n := 12) rfl ?_)
  refine rw_u rfl rfl (n_store_whole rfl rfl rfl rfl rfl rfl ?_)
  refine rw_nil ?_
  refine w_seq ?_
  refine w_seq ?_
  refine w_region ?_
  refine rw_t 13 rfl rfl rfl (n_load_boxagg [_, _, _, _, _, _, _, _, _] rfl rfl (Nat.le_of_ble_eq_true rfl) rfl ?_)
  refine rw_t 14 rfl rfl rfl (n_load_boxagg [_, _, _] rfl rfl (Nat.le_of_ble_eq_true rfl) rfl ?_)
  refine rw_t 15 rfl rfl rfl (n_load_boxagg [_, _, _, _, _, _, _] rfl rfl (Nat.le_of_ble_eq_true rfl) rfl ?_)
  refine rw_t 16 rfl rfl rfl (do_callR (X' := .val (.int .i64 (legalE c p e))) rfl rfl (t_Legal (c := c) (p := p) (e := e) (h.toCsrOK) (right_len hp) (he)) [0, 1, 2, 3, 4, 5, 6, 7, 8] ⟨.inr ⟨_, rfl, srv⟩, .inr ⟨_, rfl, srv⟩, .inr ⟨_, rfl, srv⟩, .inr ⟨_, rfl, srv⟩, .inr ⟨_, rfl, srv⟩, .inr ⟨_, rfl, srv⟩, .inr ⟨_, rfl, srv⟩, .inr ⟨_, rfl, srv⟩, .inr ⟨_, rfl, srv⟩, trivial⟩ rfl rfl rfl ?_)
  refine rw_t 17 rfl rfl rfl (do_bin rfl rfl rfl ?_)
  refine rw_nil ?_
  refine w_cond rfl (fun hc1 => ?_) (fun hc1 => ?_)
  all_goals try simp only [bs] at hc1
  · refine w_seq ?_
    refine w_region ?_
    refine rw_t 6 rfl rfl rfl (do_assign rfl ?_)
    refine rw_nil ?_
    refine w_ret ?_
    exact ret_eq (.inl rfl) (.cons (res_tmp rfl) .nil) [0, 1, 2, 3, 4, 5, 6, 7, 8] (Eq.symm (bool_congr (decide_eq_false (fun q => hc1 q.1)))) ⟨shR rfl, shR rfl, shR rfl, shR rfl, shR rfl, shR rfl, shR rfl, shR rfl, shR rfl, trivial⟩ rfl (pre_ok rfl)
  refine w_skip ?_
  refine w_seq ?_
  refine w_seq ?_
  have hu := legal_u hc1
  refine w_region ?_
  refine rw_t 18 rfl rfl rfl (do_fieldaddr rfl ?_)
  refine rw_t 19 rfl rfl rfl (do_load_box rfl rfl rfl ?_)
  refine rw_t 20 rfl rfl rfl (do_bin rfl rfl rfl ?_)
  refine rw_nil ?_
  refine w_cond rfl (fun hc2 => ?_) (fun hc2 => ?_)
  all_goals try simp only [bs] at hc2
  · obtain ⟨a1, a2, a3, a4, a5, a6, a7⟩ := legal_push hc1 (by omega)
    obtain ⟨t1, t2, t3⟩ := tail_of_arc h.toCsrT ⟨hu.2.1, hu.2.2.1⟩ a1 a2
    have hA : e.arc.toNat < c.Head.length := by omega
    have hhd2 := h.hd _ hA
    have y1 := hha e.u.toNat
    have y2 := hha (c.Head.getD e.arc.toNat 0).toNat
    refine w_env [(3, .ptr 9 0 0), (4, .ptr 10 0 0), (5, .ptr 11 0 0), (7, .ptr 12 0 0)] ⟨⟨_, rfl, rfl⟩, ⟨_, rfl, rfl⟩, ⟨_, rfl, rfl⟩, ⟨_, rfl, rfl⟩, trivial⟩ ?_
    refine w_seqB 6 ((((p.H.getD e.u.toNat 0) - (p.H.getD ((c.Head.getD e.arc.toNat 0).toNat) 0)) = 1 ∧ e.d = (if (p.Res.getD e.arc.toNat 0) < (p.Ex.getD e.u.toNat 0) then (p.Res.getD e.arc.toNat 0) else (p.Ex.getD e.u.toNat 0)))) ?_ ?_
    · -- region 5
      refine w_draw mixed [0, 1, 0, 4, 15, 31, 0, 64, 0, 256, 0, 1024, 3840, 7936, 16320, 32704, 65535, 131071, 262143, 524287, 1048575, 524287, 2621439, 524287, 8912895, 31981567, 65535999, 524287, 134742015, 524287, 537395199, 2013790207, 4161273855, 8588361727] [17179869183, 34359738367, 68719476735] (by kernel_rfl) (by kernel_rfl) rfl rfl rfl (hle hρ rfl) ?_
      refine ra_q (j := 0) rfl rfl rfl rfl (do_fieldaddr rfl ⟨rfl, rfl⟩) (by rfl) ?_
      refine ra_q (j := 1) rfl rfl rfl rfl (do_load_box rfl rfl rfl ⟨rfl, rfl⟩) (by rfl) ?_
      refine ra_q (j := 2) rfl rfl rfl rfl (do_fieldaddr rfl ⟨rfl, rfl⟩) (by rfl) ?_
      refine ra_q (j := 3) rfl rfl rfl rfl (do_load_box rfl rfl rfl ⟨rfl, rfl⟩) (by rfl) ?_
      refine ra_q (j := 4) rfl rfl rfl rfl (do_ix0 rfl rfl rfl (by first | omega | (simp only [ls] <;> omega)) ⟨rfl, rfl⟩) (by rfl) ?_
      refine ra_q (j := 5) rfl rfl rfl rfl (do_load_arr rfl rfl (by first | omega | (simp only [ls] <;> omega)) rfl ⟨rfl, rfl⟩) (by rfl) ?_
      refine ra_q (j := 6) rfl rfl rfl rfl (do_fieldaddr rfl ⟨rfl, rfl⟩) (by rfl) ?_
      refine ra_q (j := 7) rfl rfl rfl rfl (do_load_box rfl rfl rfl ⟨rfl, rfl⟩) (by rfl) ?_
      refine ra_q (j := 8) rfl rfl rfl rfl (do_fieldaddr rfl ⟨rfl, rfl⟩) (by rfl) ?_
      refine ra_q (j := 9) rfl rfl rfl rfl (do_load_box rfl rfl rfl ⟨rfl, rfl⟩) (by rfl) ?_
      refine ra_q (j := 10) rfl rfl rfl rfl (do_fieldaddr rfl ⟨rfl, rfl⟩) (by rfl) ?_
      refine ra_q (j := 11) rfl rfl rfl rfl (do_load_box rfl rfl rfl ⟨rfl, rfl⟩) (by rfl) ?_
      refine ra_q (j := 12) rfl rfl rfl rfl (do_ix0 rfl rfl rfl (by first | omega | (simp only [ls] <;> omega)) ⟨rfl, rfl⟩) (by rfl) ?_
      refine ra_q (j := 13) rfl rfl rfl rfl (do_load_arr rfl rfl (by first | omega | (simp only [ls] <;> omega)) rfl ⟨rfl, rfl⟩) (by rfl) ?_
      refine ra_q (j := 14) rfl rfl rfl rfl (do_ix0 rfl rfl rfl (by first | omega | (simp only [ls] <;> omega)) ⟨rfl, rfl⟩) (by rfl) ?_
      refine ra_q (j := 15) rfl rfl rfl rfl (do_load_arr rfl rfl (by first | omega | (simp only [ls] <;> omega)) rfl ⟨rfl, rfl⟩) (by rfl) ?_
      refine ra_q (j := 16) rfl rfl rfl rfl (do_sub rfl rfl (by omega) ⟨rfl, rfl⟩) (by rfl) ?_
      refine ra_q (j := 17) rfl rfl rfl rfl (do_bin rfl rfl rfl ⟨rfl, rfl⟩) (by rfl) ?_
      refine ra_q (j := 18) rfl rfl rfl rfl (do_move rfl ⟨rfl, rfl⟩) (by rfl) ?_
      refine ra_case 39 rfl (fun g1 => ?_) (fun g1 => ?_)
      · have kg1 := g1
        try simp only [bs] at kg1
        refine ra_gt (j := 19) rfl rfl rfl rfl g1 rfl rfl rfl (do_fieldaddr rfl ⟨rfl, rfl⟩) (by rfl) ?_
        refine ra_gt (j := 20) rfl rfl rfl rfl g1 rfl rfl rfl (do_load_box rfl rfl rfl ⟨rfl, rfl⟩) (by rfl) ?_
        refine ra_gt (j := 21) rfl rfl rfl rfl g1 rfl rfl rfl (do_fieldaddr rfl ⟨rfl, rfl⟩) (by rfl) ?_
        refine ra_gt (j := 22) rfl rfl rfl rfl g1 rfl rfl rfl (do_load_box rfl rfl rfl ⟨rfl, rfl⟩) (by rfl) ?_
        refine ra_gt (j := 23) rfl rfl rfl rfl g1 rfl rfl rfl (do_fieldaddr rfl ⟨rfl, rfl⟩) (by rfl) ?_
        refine ra_gt (j := 24) rfl rfl rfl rfl g1 rfl rfl rfl (do_load_box rfl rfl rfl ⟨rfl, rfl⟩) (by rfl) ?_
        refine ra_gt (j := 25) rfl rfl rfl rfl g1 rfl rfl rfl (do_ix0 rfl rfl rfl (by first | omega | (simp only [ls] <;> omega)) ⟨rfl, rfl⟩) (by rfl) ?_
        refine ra_gt (j := 26) rfl rfl rfl rfl g1 rfl rfl rfl (do_load_arr rfl rfl (by first | omega | (simp only [ls] <;> omega)) rfl ⟨rfl, rfl⟩) (by rfl) ?_
        refine ra_gt (j := 27) rfl rfl rfl rfl g1 rfl rfl rfl (do_fieldaddr rfl ⟨rfl, rfl⟩) (by rfl) ?_
        refine ra_gt (j := 28) rfl rfl rfl rfl g1 rfl rfl rfl (do_load_box rfl rfl rfl ⟨rfl, rfl⟩) (by rfl) ?_
        refine ra_gt (j := 29) rfl rfl rfl rfl g1 rfl rfl rfl (do_fieldaddr rfl ⟨rfl, rfl⟩) (by rfl) ?_
        refine ra_gt (j := 30) rfl rfl rfl rfl g1 rfl rfl rfl (do_load_box rfl rfl rfl ⟨rfl, rfl⟩) (by rfl) ?_
        refine ra_gt (j := 31) rfl rfl rfl rfl g1 rfl rfl rfl (do_ix0 rfl rfl rfl (by first | omega | (simp only [ls] <;> omega)) ⟨rfl, rfl⟩) (by rfl) ?_
        refine ra_gt (j := 32) rfl rfl rfl rfl g1 rfl rfl rfl (do_load_arr rfl rfl (by first | omega | (simp only [ls] <;> omega)) rfl ⟨rfl, rfl⟩) (by rfl) ?_
        refine ra_gt (j := 33) rfl rfl rfl rfl g1 rfl rfl rfl (do_min rfl rfl ⟨rfl, rfl⟩) (by rfl) ?_
        refine n_done ?_
        refine rw_gt 55 18 39 true rfl rfl rfl rfl rfl rfl g1 (do_bin rfl rfl rfl ?_)
        refine rw_t 56 rfl rfl rfl (do_pick_t rfl g1 rfl ?_)
        refine rw_t 6 rfl rfl rfl (do_assign rfl ?_)
        refine rw_nil ?_
        refine ⟨rfl, ⟨_, rfl, by first | (simp; done) | (simp only [bs]; omega) | (simp [*]; done) | (simp; omega) | (constructor <;> intro h <;> simp_all <;> omega)⟩, ?_⟩
        repeat (refine ⟨⟨_, rfl, rfl⟩, ?_⟩)
        exact trivial
      · have kg1 := g1
        try simp only [bs] at kg1
        refine ra_gf (j := 19) rfl rfl rfl rfl (by rw [g1]; decide) rfl rfl rfl ?_
        refine ra_gf (j := 20) rfl rfl rfl rfl (by rw [g1]; decide) rfl rfl rfl ?_
        refine ra_gf (j := 21) rfl rfl rfl rfl (by rw [g1]; decide) rfl rfl rfl ?_
        refine ra_gf (j := 22) rfl rfl rfl rfl (by rw [g1]; decide) rfl rfl rfl ?_
        refine ra_gf (j := 23) rfl rfl rfl rfl (by rw [g1]; decide) rfl rfl rfl ?_
        refine ra_gf (j := 24) rfl rfl rfl rfl (by rw [g1]; decide) rfl rfl rfl ?_
        refine ra_gf (j := 25) rfl rfl rfl rfl (by rw [g1]; decide) rfl rfl rfl ?_
        refine ra_gf (j := 26) rfl rfl rfl rfl (by rw [g1]; decide) rfl rfl rfl ?_
        refine ra_gf (j := 27) rfl rfl rfl rfl (by rw [g1]; decide) rfl rfl rfl ?_
        refine ra_gf (j := 28) rfl rfl rfl rfl (by rw [g1]; decide) rfl rfl rfl ?_
        refine ra_gf (j := 29) rfl rfl rfl rfl (by rw [g1]; decide) rfl rfl rfl ?_
        refine ra_gf (j := 30) rfl rfl rfl rfl (by rw [g1]; decide) rfl rfl rfl ?_
        refine ra_gf (j := 31) rfl rfl rfl rfl (by rw [g1]; decide) rfl rfl rfl ?_
        refine ra_gf (j := 32) rfl rfl rfl rfl (by rw [g1]; decide) rfl rfl rfl ?_
        refine ra_gf (j := 33) rfl rfl rfl rfl (by rw [g1]; decide) rfl rfl rfl ?_
        refine n_done ?_
        refine rw_gf 55 18 39 true rfl rfl rfl rfl rfl rfl (by rw [g1]; decide) ?_
        refine rw_t 56 rfl rfl rfl (do_pick_f rfl g1 rfl ?_)
        refine rw_t 6 rfl rfl rfl (do_assign rfl ?_)
        refine rw_nil ?_
        refine ⟨rfl, ⟨_, rfl, by first | (simp; done) | (simp only [bs]; omega) | (simp [*]; done) | (simp; omega) | (constructor <;> intro h <;> simp_all <;> omega)⟩, ?_⟩
        repeat (refine ⟨⟨_, rfl, rfl⟩, ?_⟩)
        exact trivial
    intro b1 hb1
    refine w_ret ?_
    exact ret_eq (.inl rfl) (.cons (res_tmp rfl) .nil) [0, 1, 2, 3, 4, 5, 6, 7, 8] (Eq.symm (bool_congr (dec_of hb1 (by unfold strictP; rw [if_pos hc2]; exact ⟨fun q => q.2, fun q => ⟨hc1, q⟩⟩)))) ⟨shR rfl, shR rfl, shR rfl, shR rfl, shR rfl, shR rfl, shR rfl, shR rfl, shR rfl, trivial⟩ rfl (pre_ok rfl)
  refine w_skip ?_
  refine w_seq ?_
  refine w_region ?_
  refine rw_t 58 rfl rfl rfl (n_load_boxagg [_, _, _, _, _, _, _, _, _, _, _, _] rfl rfl (Nat.le_of_ble_eq_true rfl) rfl ?_)
  refine rw_t 59 rfl rfl rfl (do_fieldaddr rfl ?_)
  refine rw_t 60 rfl rfl rfl (do_load_box rfl rfl rfl ?_)
  refine rw_t 61 rfl rfl rfl (do_callR (X' := .tup [.val (.int .i64 ((leastOf c p e.u).1)), .val (.bool ((leastOf c p e.u).2))]) rfl rfl (t_least (c := c) (p := p) (u := e.u) (h) (hp) (by omega)) [0, 1, 2, 3, 4, 5, 6, 7, 8] ⟨.inr ⟨_, rfl, srv⟩, .inr ⟨_, rfl, srv⟩, .inr ⟨_, rfl, srv⟩, .inr ⟨_, rfl, srv⟩, .inr ⟨_, rfl, srv⟩, .inr ⟨_, rfl, srv⟩, .inr ⟨_, rfl, srv⟩, .inr ⟨_, rfl, srv⟩, .inr ⟨_, rfl, srv⟩, trivial⟩ rfl rfl rfl ?_)
  refine rw_t 57 rfl rfl rfl (do_move rfl ?_)
  refine rw_t 62 rfl rfl rfl (do_extract rfl rfl ?_)
  refine rw_t 63 rfl rfl rfl (do_extract rfl rfl ?_)
  refine rw_t 8 rfl rfl rfl (do_assign rfl ?_)
  refine rw_t 9 rfl rfl rfl (do_assign rfl ?_)
  refine rw_nil ?_
  have hla : 0 ≤ (leastOf c p e.u).1 ∧ (leastOf c p e.u).1 ≤ 8192 := leastK_in (M := 8192) (by omega) hha (c := c) (c.First.getD e.u.toNat 0) (manyOf c e.u)
  refine w_env [(4, .ptr 10 0 0), (5, .ptr 11 0 0), (8, .val (.int .i64 ((leastOf c p e.u).1))), (9, .val (.bool ((leastOf c p e.u).2)))] ⟨⟨_, rfl, rfl⟩, ⟨_, rfl, rfl⟩, ⟨_, rfl, rfl⟩, ⟨_, rfl, rfl⟩, trivial⟩ ?_
  refine w_seqB 6 ((((((leastOf c p e.u).2) = true ∧ (p.Ex.getD e.u.toNat 0) > 0) ∧ (leastOf c p e.u).1 ≥ (p.H.getD e.u.toNat 0)) ∧ e.h = ((leastOf c p e.u).1 + 1))) ?_ ?_
  · -- region 7
    refine w_region ?_
    refine rw_t 64 rfl rfl rfl (do_move rfl ?_)
    refine rw_t 65 rfl rfl rfl (do_move rfl ?_)
    refine rw_case 65 rfl (fun g2 => ?_) (fun g2 => ?_)
    · have kg2 := g2
      try simp only [bs] at kg2
      refine rw_gt 66 1 65 true rfl rfl rfl rfl rfl rfl g2 (do_fieldaddr rfl ?_)
      refine rw_gt 67 1 65 true rfl rfl rfl rfl rfl rfl g2 (do_load_box rfl rfl rfl ?_)
      refine rw_gt 68 1 65 true rfl rfl rfl rfl rfl rfl g2 (do_fieldaddr rfl ?_)
      refine rw_gt 69 1 65 true rfl rfl rfl rfl rfl rfl g2 (do_load_box rfl rfl rfl ?_)
      refine rw_gt 70 1 65 true rfl rfl rfl rfl rfl rfl g2 (do_ix0 rfl rfl rfl (by first | omega | (simp only [ls] <;> omega)) ?_)
      refine rw_gt 71 1 65 true rfl rfl rfl rfl rfl rfl g2 (do_load_arr rfl rfl (by first | omega | (simp only [ls] <;> omega)) rfl ?_)
      refine rw_gt 72 1 65 true rfl rfl rfl rfl rfl rfl g2 (do_bin rfl rfl rfl ?_)
      refine rw_t 73 rfl rfl rfl (do_pick_t rfl g2 rfl ?_)
      refine rw_t 74 rfl rfl rfl (do_move rfl ?_)
      refine rw_case 74 rfl (fun g3 => ?_) (fun g3 => ?_)
      · have kg3 := g3
        try simp only [bs] at kg3
        refine rw_gt 75 10 74 true rfl rfl rfl rfl rfl rfl g3 (do_move rfl ?_)
        refine rw_gt 76 10 74 true rfl rfl rfl rfl rfl rfl g3 (do_fieldaddr rfl ?_)
        refine rw_gt 77 10 74 true rfl rfl rfl rfl rfl rfl g3 (do_load_box rfl rfl rfl ?_)
        refine rw_gt 78 10 74 true rfl rfl rfl rfl rfl rfl g3 (do_fieldaddr rfl ?_)
        refine rw_gt 79 10 74 true rfl rfl rfl rfl rfl rfl g3 (do_load_box rfl rfl rfl ?_)
        refine rw_gt 80 10 74 true rfl rfl rfl rfl rfl rfl g3 (do_ix0 rfl rfl rfl (by first | omega | (simp only [ls] <;> omega)) ?_)
        refine rw_gt 81 10 74 true rfl rfl rfl rfl rfl rfl g3 (do_load_arr rfl rfl (by first | omega | (simp only [ls] <;> omega)) rfl ?_)
        refine rw_gt 82 10 74 true rfl rfl rfl rfl rfl rfl g3 (do_bin rfl rfl rfl ?_)
        refine rw_t 83 rfl rfl rfl (do_pick_t rfl g3 rfl ?_)
        refine rw_t 84 rfl rfl rfl (do_move rfl ?_)
        refine rw_case 84 rfl (fun g4 => ?_) (fun g4 => ?_)
        · have kg4 := g4
          try simp only [bs] at kg4
          refine rw_gt 85 20 84 true rfl rfl rfl rfl rfl rfl g4 (do_fieldaddr rfl ?_)
          refine rw_gt 86 20 84 true rfl rfl rfl rfl rfl rfl g4 (do_load_box rfl rfl rfl ?_)
          refine rw_gt 87 20 84 true rfl rfl rfl rfl rfl rfl g4 (do_move rfl ?_)
          refine rw_gt 88 20 84 true rfl rfl rfl rfl rfl rfl g4 (do_add rfl rfl (by omega) ?_)
          refine rw_gt 89 20 84 true rfl rfl rfl rfl rfl rfl g4 (do_bin rfl rfl rfl ?_)
          refine rw_t 90 rfl rfl rfl (do_pick_t rfl g4 rfl ?_)
          refine rw_t 6 rfl rfl rfl (do_assign rfl ?_)
          refine rw_nil ?_
          refine ⟨rfl, ⟨_, rfl, by first | (simp; done) | (simp only [bs]; omega) | (simp [*]; done) | (simp; omega) | (constructor <;> intro h <;> simp_all <;> omega)⟩, ?_⟩
          repeat (refine ⟨⟨_, rfl, rfl⟩, ?_⟩)
          exact trivial
        · have kg4 := g4
          try simp only [bs] at kg4
          refine rw_gf 85 20 84 true rfl rfl rfl rfl rfl rfl (by rw [g4]; decide) ?_
          refine rw_gf 86 20 84 true rfl rfl rfl rfl rfl rfl (by rw [g4]; decide) ?_
          refine rw_gf 87 20 84 true rfl rfl rfl rfl rfl rfl (by rw [g4]; decide) ?_
          refine rw_gf 88 20 84 true rfl rfl rfl rfl rfl rfl (by rw [g4]; decide) ?_
          refine rw_gf 89 20 84 true rfl rfl rfl rfl rfl rfl (by rw [g4]; decide) ?_
          refine rw_t 90 rfl rfl rfl (do_pick_f rfl g4 rfl ?_)
          refine rw_t 6 rfl rfl rfl (do_assign rfl ?_)
          refine rw_nil ?_
          refine ⟨rfl, ⟨_, rfl, by first | (simp; done) | (simp only [bs]; omega) | (simp [*]; done) | (simp; omega) | (constructor <;> intro h <;> simp_all <;> omega)⟩, ?_⟩
          repeat (refine ⟨⟨_, rfl, rfl⟩, ?_⟩)
          exact trivial
      · have kg3 := g3
        try simp only [bs] at kg3
        refine rw_gf 75 10 74 true rfl rfl rfl rfl rfl rfl (by rw [g3]; decide) ?_
        refine rw_gf 76 10 74 true rfl rfl rfl rfl rfl rfl (by rw [g3]; decide) ?_
        refine rw_gf 77 10 74 true rfl rfl rfl rfl rfl rfl (by rw [g3]; decide) ?_
        refine rw_gf 78 10 74 true rfl rfl rfl rfl rfl rfl (by rw [g3]; decide) ?_
        refine rw_gf 79 10 74 true rfl rfl rfl rfl rfl rfl (by rw [g3]; decide) ?_
        refine rw_gf 80 10 74 true rfl rfl rfl rfl rfl rfl (by rw [g3]; decide) ?_
        refine rw_gf 81 10 74 true rfl rfl rfl rfl rfl rfl (by rw [g3]; decide) ?_
        refine rw_gf 82 10 74 true rfl rfl rfl rfl rfl rfl (by rw [g3]; decide) ?_
        refine rw_t 83 rfl rfl rfl (do_pick_f rfl g3 rfl ?_)
        refine rw_t 84 rfl rfl rfl (do_move rfl ?_)
        refine rw_gf 85 20 84 true rfl rfl rfl rfl rfl rfl (by decide) ?_
        refine rw_gf 86 20 84 true rfl rfl rfl rfl rfl rfl (by decide) ?_
        refine rw_gf 87 20 84 true rfl rfl rfl rfl rfl rfl (by decide) ?_
        refine rw_gf 88 20 84 true rfl rfl rfl rfl rfl rfl (by decide) ?_
        refine rw_gf 89 20 84 true rfl rfl rfl rfl rfl rfl (by decide) ?_
        refine rw_t 90 rfl rfl rfl (do_pick_f rfl rfl rfl ?_)
        refine rw_t 6 rfl rfl rfl (do_assign rfl ?_)
        refine rw_nil ?_
        refine ⟨rfl, ⟨_, rfl, by first | (simp; done) | (simp only [bs]; omega) | (simp [*]; done) | (simp; omega) | (constructor <;> intro h <;> simp_all <;> omega)⟩, ?_⟩
        repeat (refine ⟨⟨_, rfl, rfl⟩, ?_⟩)
        exact trivial
    · have kg2 := g2
      try simp only [bs] at kg2
      refine rw_gf 66 1 65 true rfl rfl rfl rfl rfl rfl (by rw [g2]; decide) ?_
      refine rw_gf 67 1 65 true rfl rfl rfl rfl rfl rfl (by rw [g2]; decide) ?_
      refine rw_gf 68 1 65 true rfl rfl rfl rfl rfl rfl (by rw [g2]; decide) ?_
      refine rw_gf 69 1 65 true rfl rfl rfl rfl rfl rfl (by rw [g2]; decide) ?_
      refine rw_gf 70 1 65 true rfl rfl rfl rfl rfl rfl (by rw [g2]; decide) ?_
      refine rw_gf 71 1 65 true rfl rfl rfl rfl rfl rfl (by rw [g2]; decide) ?_
      refine rw_gf 72 1 65 true rfl rfl rfl rfl rfl rfl (by rw [g2]; decide) ?_
      refine rw_t 73 rfl rfl rfl (do_pick_f rfl g2 rfl ?_)
      refine rw_t 74 rfl rfl rfl (do_move rfl ?_)
      refine rw_gf 75 10 74 true rfl rfl rfl rfl rfl rfl (by decide) ?_
      refine rw_gf 76 10 74 true rfl rfl rfl rfl rfl rfl (by decide) ?_
      refine rw_gf 77 10 74 true rfl rfl rfl rfl rfl rfl (by decide) ?_
      refine rw_gf 78 10 74 true rfl rfl rfl rfl rfl rfl (by decide) ?_
      refine rw_gf 79 10 74 true rfl rfl rfl rfl rfl rfl (by decide) ?_
      refine rw_gf 80 10 74 true rfl rfl rfl rfl rfl rfl (by decide) ?_
      refine rw_gf 81 10 74 true rfl rfl rfl rfl rfl rfl (by decide) ?_
      refine rw_gf 82 10 74 true rfl rfl rfl rfl rfl rfl (by decide) ?_
      refine rw_t 83 rfl rfl rfl (do_pick_f rfl rfl rfl ?_)
      refine rw_t 84 rfl rfl rfl (do_move rfl ?_)
      refine rw_gf 85 20 84 true rfl rfl rfl rfl rfl rfl (by decide) ?_
      refine rw_gf 86 20 84 true rfl rfl rfl rfl rfl rfl (by decide) ?_
      refine rw_gf 87 20 84 true rfl rfl rfl rfl rfl rfl (by decide) ?_
      refine rw_gf 88 20 84 true rfl rfl rfl rfl rfl rfl (by decide) ?_
      refine rw_gf 89 20 84 true rfl rfl rfl rfl rfl rfl (by decide) ?_
      refine rw_t 90 rfl rfl rfl (do_pick_f rfl rfl rfl ?_)
      refine rw_t 6 rfl rfl rfl (do_assign rfl ?_)
      refine rw_nil ?_
      refine ⟨rfl, ⟨_, rfl, by first | (simp; done) | (simp only [bs]; omega) | (simp [*]; done) | (simp; omega) | (constructor <;> intro h <;> simp_all <;> omega)⟩, ?_⟩
      repeat (refine ⟨⟨_, rfl, rfl⟩, ?_⟩)
      exact trivial
  intro b2 hb2
  refine w_ret ?_
  exact ret_eq (.inl rfl) (.cons (res_tmp rfl) .nil) [0, 1, 2, 3, 4, 5, 6, 7, 8] (Eq.symm (bool_congr (dec_of hb2 (by unfold strictP; rw [if_neg hc2]; exact ⟨fun q => ⟨⟨⟨q.2.1, q.2.2.1⟩, q.2.2.2.1⟩, q.2.2.2.2⟩, fun q => ⟨hc1, q.1.1.1, q.1.1.2, q.1.2, q.2⟩⟩)))) ⟨shR rfl, shR rfl, shR rfl, shR rfl, shR rfl, shR rfl, shR rfl, shR rfl, shR rfl, trivial⟩ rfl (pre_ok rfl)
set_option maxHeartbeats 8000000 in
set_option synthInstance.maxHeartbeats 400000 in
set_option synthInstance.maxSize 2000 in
theorem t_hwrong (c : Csr) (p : Pre) (h : CsrOK c) (x : Int) : Tri Try.prog 60 [.val (.int .i64 x), .ptr 9 0 0] [SO.ints false .i64 c.First, SO.ints false .i64 c.Head, SO.ints false .i64 c.Rev, SO.ints false .i64 c.Cap, SO.ints false .i64 c.Arc, SO.bools false c.Back, SO.ints false .i64 p.Res, SO.ints false .i64 p.Ex, SO.ints false .i64 p.H, .box [.val (.int .i64 c.N), .val (.int .i64 c.S), .val (.int .i64 c.T), .slc 0 0 c.First.length none, .slc 1 0 c.Head.length none, .slc 2 0 c.Rev.length none, .slc 3 0 c.Cap.length none, .slc 4 0 c.Arc.length none, .slc 5 0 c.Back.length none, .slc 6 0 p.Res.length none, .slc 7 0 p.Ex.length none, .slc 8 0 p.H.length none]] (fun s H => s = .val (.bool (decide (x < 0 ∨ x > 2 * c.N))) ∧ H = [SO.ints false .i64 c.First, SO.ints false .i64 c.Head, SO.ints false .i64 c.Rev, SO.ints false .i64 c.Cap, SO.ints false .i64 c.Arc, SO.bools false c.Back, SO.ints false .i64 p.Res, SO.ints false .i64 p.Ex, SO.ints false .i64 p.H, .box [.val (.int .i64 c.N), .val (.int .i64 c.S), .val (.int .i64 c.T), .slc 0 0 c.First.length none, .slc 1 0 c.Head.length none, .slc 2 0 c.Rev.length none, .slc 3 0 c.Cap.length none, .slc 4 0 c.Arc.length none, .slc 5 0 c.Back.length none, .slc 6 0 p.Res.length none, .slc 7 0 p.Ex.length none, .slc 8 0 p.H.length none]]) := by
  refine tri_of_w (fn := Try.f60) Try.func60 rfl (by simp [Try.f60]) ?_
  intro ρ w hρ
  refine w_seq ?_
  have hn := h.n
  refine w_region ?_
  refine rw_t 3 rfl rfl rfl (do_assign rfl ?_)
  refine rw_nil ?_
  refine w_env [(0, .val (.int .i64 x)), (1, .ptr 9 0 0)] ⟨⟨_, rfl, rfl⟩, ⟨_, rfl, rfl⟩, trivial⟩ ?_
  refine w_seqB 3 ((x < 0 ∨ x > (2 * c.N))) ?_ ?_
  · -- region 1
    refine w_region ?_
    refine rw_t 4 rfl rfl rfl (do_move rfl ?_)
    refine rw_t 5 rfl rfl rfl (do_bin rfl rfl rfl ?_)
    refine rw_t 6 rfl rfl rfl (do_move rfl ?_)
    refine rw_case 6 rfl (fun g1 => ?_) (fun g1 => ?_)
    · have kg1 := g1
      try simp only [bs] at kg1
      refine rw_gf 7 2 6 false rfl rfl rfl rfl rfl rfl (by rw [g1]; decide) ?_
      refine rw_gf 8 2 6 false rfl rfl rfl rfl rfl rfl (by rw [g1]; decide) ?_
      refine rw_gf 9 2 6 false rfl rfl rfl rfl rfl rfl (by rw [g1]; decide) ?_
      refine rw_gf 10 2 6 false rfl rfl rfl rfl rfl rfl (by rw [g1]; decide) ?_
      refine rw_gf 11 2 6 false rfl rfl rfl rfl rfl rfl (by rw [g1]; decide) ?_
      refine rw_gf 12 2 6 false rfl rfl rfl rfl rfl rfl (by rw [g1]; decide) ?_
      refine rw_t 13 rfl rfl rfl (do_pick_t rfl g1 rfl ?_)
      refine rw_t 3 rfl rfl rfl (do_assign rfl ?_)
      refine rw_nil ?_
      refine ⟨rfl, ⟨_, rfl, by first | (simp; done) | (simp only [bs]; omega) | (simp [*]; done) | (simp; omega) | (constructor <;> intro h <;> simp_all <;> omega)⟩, ?_⟩
      repeat (refine ⟨⟨_, rfl, rfl⟩, ?_⟩)
      exact trivial
    · have kg1 := g1
      try simp only [bs] at kg1
      refine rw_gt 7 2 6 false rfl rfl rfl rfl rfl rfl g1 (do_move rfl ?_)
      refine rw_gt 8 2 6 false rfl rfl rfl rfl rfl rfl g1 (do_fieldaddr rfl ?_)
      refine rw_gt 9 2 6 false rfl rfl rfl rfl rfl rfl g1 (do_fieldaddr rfl ?_)
      refine rw_gt 10 2 6 false rfl rfl rfl rfl rfl rfl g1 (do_load_box rfl rfl rfl ?_)
      refine rw_gt 11 2 6 false rfl rfl rfl rfl rfl rfl g1 (do_mul rfl rfl (by omega) ?_)
      refine rw_gt 12 2 6 false rfl rfl rfl rfl rfl rfl g1 (do_bin rfl rfl rfl ?_)
      refine rw_t 13 rfl rfl rfl (do_pick_f rfl g1 rfl ?_)
      refine rw_t 3 rfl rfl rfl (do_assign rfl ?_)
      refine rw_nil ?_
      refine ⟨rfl, ⟨_, rfl, by first | (simp; done) | (simp only [bs]; omega) | (simp [*]; done) | (simp; omega) | (constructor <;> intro h <;> simp_all <;> omega)⟩, ?_⟩
      repeat (refine ⟨⟨_, rfl, rfl⟩, ?_⟩)
      exact trivial
  intro b1 hb1
  refine w_ret ?_
  exact ret_eq (.inl rfl) (.cons (res_tmp rfl) .nil) [0, 1, 2, 3, 4, 5, 6, 7, 8, 9] (Eq.symm (bool_congr (dec_of hb1 Iff.rfl))) ⟨shR rfl, shR rfl, shR rfl, shR rfl, shR rfl, shR rfl, shR rfl, shR rfl, shR rfl, shR rfl, trivial⟩ rfl (pre_ok rfl)
set_option maxHeartbeats 8000000 in
set_option synthInstance.maxHeartbeats 400000 in
set_option synthInstance.maxSize 2000 in
theorem t_hIndex (c : Csr) (p : Pre) (h : CsrOK c) (hp : PreLen c p) : Tri Try.prog 73 [.slc 8 0 p.H.length none, .func 60 [] [.ptr 9 0 0]] [SO.ints false .i64 c.First, SO.ints false .i64 c.Head, SO.ints false .i64 c.Rev, SO.ints false .i64 c.Cap, SO.ints false .i64 c.Arc, SO.bools false c.Back, SO.ints false .i64 p.Res, SO.ints false .i64 p.Ex, SO.ints false .i64 p.H, .box [.val (.int .i64 c.N), .val (.int .i64 c.S), .val (.int .i64 c.T), .slc 0 0 c.First.length none, .slc 1 0 c.Head.length none, .slc 2 0 c.Rev.length none, .slc 3 0 c.Cap.length none, .slc 4 0 c.Arc.length none, .slc 5 0 c.Back.length none, .slc 6 0 p.Res.length none, .slc 7 0 p.Ex.length none, .slc 8 0 p.H.length none]] (fun s H => s = .val (.int .i64 (idxI (fun x => decide (x < 0 ∨ x > 2 * c.N)) p.H)) ∧ H = [SO.ints false .i64 c.First, SO.ints false .i64 c.Head, SO.ints false .i64 c.Rev, SO.ints false .i64 c.Cap, SO.ints false .i64 c.Arc, SO.bools false c.Back, SO.ints false .i64 p.Res, SO.ints false .i64 p.Ex, SO.ints false .i64 p.H, .box [.val (.int .i64 c.N), .val (.int .i64 c.S), .val (.int .i64 c.T), .slc 0 0 c.First.length none, .slc 1 0 c.Head.length none, .slc 2 0 c.Rev.length none, .slc 3 0 c.Cap.length none, .slc 4 0 c.Arc.length none, .slc 5 0 c.Back.length none, .slc 6 0 p.Res.length none, .slc 7 0 p.Ex.length none, .slc 8 0 p.H.length none]]) := by
  refine tri_of_w (fn := Try.f73) Try.func73 rfl (by simp [Try.f73]) ?_
  intro ρ w hρ
  refine w_seq ?_
  have hn := h.n
  have hh := hp.h
  refine w_region ?_
  refine rw_t 4 rfl rfl rfl (do_assign rfl ?_)
  refine rw_nil ?_
  refine w_seq ?_
  refine w_seq ?_
  refine w_region ?_
  refine rw_t 6 rfl rfl rfl (do_move rfl ?_)
  refine rw_t 7 rfl rfl rfl (do_len rfl ?_)
  refine rw_t 8 rfl rfl rfl (do_move rfl ?_)
  refine rw_nil ?_
  refine w_block ?_
  refine w_loopS (ι := Nat) (fun i => [(0, .slc 8 0 p.H.length none), (1, .func 60 [] [.ptr 9 0 0]), (7, .val (.int .i64 ((p.H.length : Nat) : Int))), (8, .val (.int .i64 ((i : Nat) : Int)))]) (fun i => [SO.ints false .i64 c.First, SO.ints false .i64 c.Head, SO.ints false .i64 c.Rev, SO.ints false .i64 c.Cap, SO.ints false .i64 c.Arc, SO.bools false c.Back, SO.ints false .i64 p.Res, SO.ints false .i64 p.Ex, SO.ints false .i64 p.H, .box [.val (.int .i64 c.N), .val (.int .i64 c.S), .val (.int .i64 c.T), .slc 0 0 c.First.length none, .slc 1 0 c.Head.length none, .slc 2 0 c.Rev.length none, .slc 3 0 c.Cap.length none, .slc 4 0 c.Arc.length none, .slc 5 0 c.Back.length none, .slc 6 0 p.Res.length none, .slc 7 0 p.Ex.length none, .slc 8 0 p.H.length none]]) (fun i => p.H.length - i) (fun i => i ≤ p.H.length ∧ ∀ k, k < i → ¬ (p.H.getD k 0 < 0 ∨ p.H.getD k 0 > 2 * c.N)) (0) [0, 1, 2, 3, 4, 5, 6, 7, 8, 9] (⟨by simp, fun k hk => by omega⟩) ⟨shR rfl, shR rfl, shR rfl, shR rfl, shR rfl, shR rfl, shR rfl, shR rfl, shR rfl, shR rfl, trivial⟩ rfl (pre_ok rfl) hρ ⟨⟨_, rfl, rfl⟩, ⟨_, rfl, rfl⟩, ⟨_, rfl, rfl⟩, ⟨_, rfl, rfl⟩, trivial⟩ ?_
  rintro i ⟨g1, g2⟩
  refine w_seq ?_
  refine w_region ?_
  refine rw_t 9 rfl rfl rfl (do_bin rfl rfl rfl ?_)
  refine rw_nil ?_
  refine w_seq ?_
  refine w_cond rfl (fun hc1 => ?_) (fun hc1 => ?_)
  all_goals try simp only [bs] at hc1
  rotate_left
  · refine w_exit ?_
    refine w_seq ?_
    refine w_region ?_
    refine rw_t 4 rfl rfl rfl (do_assign rfl ?_)
    refine rw_nil ?_
    refine w_ret ?_
    exact ret_eq (.inl rfl) (.cons (res_tmp rfl) .nil) [0, 1, 2, 3, 4, 5, 6, 7, 8, 9] (Eq.symm (val_congr (by rw [idx_none (fun k hk => decide_eq_false (g2 k (by omega)))]))) ⟨shR rfl, shR rfl, shR rfl, shR rfl, shR rfl, shR rfl, shR rfl, shR rfl, shR rfl, shR rfl, trivial⟩ rfl (pre_ok rfl)
  refine w_skip ?_
  refine w_seq ?_
  refine w_block ?_
  refine w_seq ?_
  refine w_region ?_
  refine rw_t 10 rfl rfl rfl (do_move rfl ?_)
  refine rw_t 5 rfl rfl rfl (do_assign rfl ?_)
  refine rw_nil ?_
  refine w_seq ?_
  refine w_region ?_
  refine rw_t 11 rfl rfl rfl (do_move rfl ?_)
  refine rw_t 12 rfl rfl rfl (do_move rfl ?_)
  refine rw_t 13 rfl rfl rfl (do_move rfl ?_)
  refine rw_t 14 rfl rfl rfl (do_ixn rfl rfl rfl (by first | omega | (simp only [ls] <;> omega)) ?_)
  refine rw_t 15 rfl rfl rfl (do_load_arr rfl rfl (by first | omega | (simp only [ls] <;> omega)) rfl ?_)
  refine rw_t 16 rfl rfl rfl (n_callW (X' := .val (.bool (decide ((p.H.getD i 0) < 0 ∨ (p.H.getD i 0) > 2 * c.N)))) (H' := [SO.ints false .i64 c.First, SO.ints false .i64 c.Head, SO.ints false .i64 c.Rev, SO.ints false .i64 c.Cap, SO.ints false .i64 c.Arc, SO.bools false c.Back, SO.ints false .i64 p.Res, SO.ints false .i64 p.Ex, SO.ints false .i64 p.H, .box [.val (.int .i64 c.N), .val (.int .i64 c.S), .val (.int .i64 c.T), .slc 0 0 c.First.length none, .slc 1 0 c.Head.length none, .slc 2 0 c.Rev.length none, .slc 3 0 c.Cap.length none, .slc 4 0 c.Arc.length none, .slc 5 0 c.Back.length none, .slc 6 0 p.Res.length none, .slc 7 0 p.Ex.length none, .slc 8 0 p.H.length none]]) rfl rfl (t_hwrong (c := c) (p := p) (x := (p.H.getD i 0)) (h)) [0, 1, 2, 3, 4, 5, 6, 7, 8, 9] ⟨.inr ⟨_, rfl, srv⟩, .inr ⟨_, rfl, srv⟩, .inr ⟨_, rfl, srv⟩, .inr ⟨_, rfl, srv⟩, .inr ⟨_, rfl, srv⟩, .inr ⟨_, rfl, srv⟩, .inr ⟨_, rfl, srv⟩, .inr ⟨_, rfl, srv⟩, .inr ⟨_, rfl, srv⟩, shR rfl, trivial⟩ rfl rfl ⟨fun h => (by cases h), ⟨fun h => (by cases h), ⟨fun h => (by cases h), ⟨fun h => (by cases h), ⟨fun h => (by cases h), ⟨fun h => (by cases h), ⟨fun h => (by cases h), ⟨fun h => (by cases h), ⟨fun h => (by cases h), ⟨fun h => .inl rfl, (fun y hy => by simp at hy)⟩⟩⟩⟩⟩⟩⟩⟩⟩⟩ rfl rfl ?_)
  refine rw_nil ?_
  refine w_cond rfl (fun hc2 => ?_) (fun hc2 => ?_)
  all_goals try simp only [bs] at hc2
  · refine w_seq ?_
    refine w_region ?_
    refine rw_t 17 rfl rfl rfl (do_move rfl ?_)
    refine rw_t 4 rfl rfl rfl (do_assign rfl ?_)
    refine rw_nil ?_
    refine w_ret ?_
    exact ret_eq (.inl rfl) (.cons (res_tmp rfl) .nil) [0, 1, 2, 3, 4, 5, 6, 7, 8, 9] (Eq.symm (val_congr (by rw [idx_at (by omega) (decide_eq_true hc2) (fun k hk => decide_eq_false (g2 k hk))]))) ⟨shR rfl, shR rfl, shR rfl, shR rfl, shR rfl, shR rfl, shR rfl, shR rfl, shR rfl, shR rfl, trivial⟩ rfl (pre_ok rfl)
  refine w_skip ?_
  refine w_region ?_
  refine rw_t 18 rfl rfl rfl (do_add rfl rfl (by omega) ?_)
  refine rw_t 8 rfl rfl rfl (do_move rfl ?_)
  refine rw_nil ?_
  refine ⟨i + 1, [0, 1, 2, 3, 4, 5, 6, 7, 8, 9], by dsimp only; omega, ⟨by omega, fun k hk => by rcases Nat.lt_or_ge k i with hki | hki; exact g2 k hki; have : k = i := (by omega); subst this; exact hc2⟩, ⟨shR rfl, shR rfl, shR rfl, shR rfl, shR rfl, shR rfl, shR rfl, shR rfl, shR rfl, shR rfl, trivial⟩, rfl, pre_ok rfl, ⟨⟨_, rfl, rfl⟩, ⟨_, rfl, rfl⟩, ⟨_, rfl, rfl⟩, ⟨_, rfl, rfl⟩, trivial⟩⟩
set_option maxHeartbeats 8000000 in
set_option synthInstance.maxHeartbeats 400000 in
set_option synthInstance.maxSize 2000 in
theorem t_hContains (c : Csr) (p : Pre) (h : CsrOK c) (hp : PreLen c p) : Tri Try.prog 61 [.slc 8 0 p.H.length none, .func 60 [] [.ptr 9 0 0]] [SO.ints false .i64 c.First, SO.ints false .i64 c.Head, SO.ints false .i64 c.Rev, SO.ints false .i64 c.Cap, SO.ints false .i64 c.Arc, SO.bools false c.Back, SO.ints false .i64 p.Res, SO.ints false .i64 p.Ex, SO.ints false .i64 p.H, .box [.val (.int .i64 c.N), .val (.int .i64 c.S), .val (.int .i64 c.T), .slc 0 0 c.First.length none, .slc 1 0 c.Head.length none, .slc 2 0 c.Rev.length none, .slc 3 0 c.Cap.length none, .slc 4 0 c.Arc.length none, .slc 5 0 c.Back.length none, .slc 6 0 p.Res.length none, .slc 7 0 p.Ex.length none, .slc 8 0 p.H.length none]] (fun s H => s = .val (.bool (decide (idxI (fun x => decide (x < 0 ∨ x > 2 * c.N)) p.H ≥ 0))) ∧ H = [SO.ints false .i64 c.First, SO.ints false .i64 c.Head, SO.ints false .i64 c.Rev, SO.ints false .i64 c.Cap, SO.ints false .i64 c.Arc, SO.bools false c.Back, SO.ints false .i64 p.Res, SO.ints false .i64 p.Ex, SO.ints false .i64 p.H, .box [.val (.int .i64 c.N), .val (.int .i64 c.S), .val (.int .i64 c.T), .slc 0 0 c.First.length none, .slc 1 0 c.Head.length none, .slc 2 0 c.Rev.length none, .slc 3 0 c.Cap.length none, .slc 4 0 c.Arc.length none, .slc 5 0 c.Back.length none, .slc 6 0 p.Res.length none, .slc 7 0 p.Ex.length none, .slc 8 0 p.H.length none]]) := by
  refine tri_of_w (fn := Try.f61) Try.func61 rfl (by simp [Try.f61]) ?_
  intro ρ w hρ
  refine w_seq ?_
  refine w_region ?_
  refine rw_t 4 rfl rfl rfl (do_assign rfl ?_)
  refine rw_nil ?_
  refine w_seq ?_
  refine w_region ?_
  refine rw_t 5 rfl rfl rfl (do_move rfl ?_)
  refine rw_t 6 rfl rfl rfl (do_move rfl ?_)
  refine rw_t 7 rfl rfl rfl (n_callW (X' := .val (.int .i64 (idxI (fun x => decide (x < 0 ∨ x > 2 * c.N)) p.H))) (H' := [SO.ints false .i64 c.First, SO.ints false .i64 c.Head, SO.ints false .i64 c.Rev, SO.ints false .i64 c.Cap, SO.ints false .i64 c.Arc, SO.bools false c.Back, SO.ints false .i64 p.Res, SO.ints false .i64 p.Ex, SO.ints false .i64 p.H, .box [.val (.int .i64 c.N), .val (.int .i64 c.S), .val (.int .i64 c.T), .slc 0 0 c.First.length none, .slc 1 0 c.Head.length none, .slc 2 0 c.Rev.length none, .slc 3 0 c.Cap.length none, .slc 4 0 c.Arc.length none, .slc 5 0 c.Back.length none, .slc 6 0 p.Res.length none, .slc 7 0 p.Ex.length none, .slc 8 0 p.H.length none]]) rfl rfl (t_hIndex (c := c) (p := p) (h) (hp)) [0, 1, 2, 3, 4, 5, 6, 7, 8, 9] ⟨.inr ⟨_, rfl, srv⟩, .inr ⟨_, rfl, srv⟩, .inr ⟨_, rfl, srv⟩, .inr ⟨_, rfl, srv⟩, .inr ⟨_, rfl, srv⟩, .inr ⟨_, rfl, srv⟩, .inr ⟨_, rfl, srv⟩, .inr ⟨_, rfl, srv⟩, .inr ⟨_, rfl, srv⟩, shR rfl, trivial⟩ rfl rfl ⟨fun h => (by cases h), ⟨fun h => (by cases h), ⟨fun h => (by cases h), ⟨fun h => (by cases h), ⟨fun h => (by cases h), ⟨fun h => (by cases h), ⟨fun h => (by cases h), ⟨fun h => (by cases h), ⟨fun h => (by cases h), ⟨fun h => .inl rfl, (fun y hy => by simp at hy)⟩⟩⟩⟩⟩⟩⟩⟩⟩⟩ rfl rfl ?_)
  refine rw_t 8 rfl rfl rfl (do_bin rfl rfl rfl ?_)
  refine rw_t 4 rfl rfl rfl (do_assign rfl ?_)
  refine rw_nil ?_
  refine w_ret ?_
  exact ret_eq (.inl rfl) (.cons (res_tmp rfl) .nil) [0, 1, 2, 3, 4, 5, 6, 7, 8, 9] (rfl) ⟨shR rfl, shR rfl, shR rfl, shR rfl, shR rfl, shR rfl, shR rfl, shR rfl, shR rfl, shR rfl, trivial⟩ rfl (pre_ok rfl)
set_option maxHeartbeats 8000000 in
set_option synthInstance.maxHeartbeats 400000 in
set_option synthInstance.maxSize 2000 in
theorem t_heights (c : Csr) (p : Pre) (h : CsrOK c) (hp : PreLen c p) : Tri Try.prog 32 [.agg [.val (.int .i64 c.N), .val (.int .i64 c.S), .val (.int .i64 c.T), .slc 0 0 c.First.length none, .slc 1 0 c.Head.length none, .slc 2 0 c.Rev.length none, .slc 3 0 c.Cap.length none, .slc 4 0 c.Arc.length none, .slc 5 0 c.Back.length none, .slc 6 0 p.Res.length none, .slc 7 0 p.Ex.length none, .slc 8 0 p.H.length none]] [SO.ints false .i64 c.First, SO.ints false .i64 c.Head, SO.ints false .i64 c.Rev, SO.ints false .i64 c.Cap, SO.ints false .i64 c.Arc, SO.bools false c.Back, SO.ints false .i64 p.Res, SO.ints false .i64 p.Ex, SO.ints false .i64 p.H] (fun s H => s = .val (.bool (decide (heightsP c p))) ∧ H = [SO.ints false .i64 c.First, SO.ints false .i64 c.Head, SO.ints false .i64 c.Rev, SO.ints false .i64 c.Cap, SO.ints false .i64 c.Arc, SO.bools false c.Back, SO.ints false .i64 p.Res, SO.ints false .i64 p.Ex, SO.ints false .i64 p.H]) := by
  refine tri_of_w (fn := Try.f32) Try.func32 rfl (by simp [Try.f32]) ?_
  intro ρ w hρ
  refine w_seq ?_
  have hn := h.n
  have hf := h.first
  have hhd := h.head
  have hrl := h.rev
  have hcl := h.cap
  have hal := h.arc
  have hbl := h.back
  have hr := hp.res
  have hx := hp.ex
  have hh := hp.h
  have hS := h.s
  have hT := h.t
  refine w_region ?_
  refine rw_t 1 rfl rfl rfl (n_box_agg (n := 9) rfl rfl ?_)
  refine rw_t 2 rfl rfl rfl (do_assign rfl ?_)
  refine rw_nil ?_
  refine w_seq ?_
  refine w_region ?_
  refine rw_t 4 rfl rfl rfl (do_makefunc rfl rfl ?_)
  refine rw_t 3 rfl rfl rfl (do_assign rfl ?_)
  refine rw_nil ?_
  refine w_env [(1, .ptr 9 0 0), (3, .func 60 [] [.ptr 9 0 0])] ⟨⟨_, rfl, rfl⟩, ⟨_, rfl, rfl⟩, trivial⟩ ?_
  refine w_seqB 2 (((¬ (idxI (fun x => decide (x < 0 ∨ x > 2 * c.N)) p.H ≥ 0) ∧ (p.H.getD c.S.toNat 0) = c.N) ∧ (p.H.getD c.T.toNat 0) = 0)) ?_ ?_
  · -- region 2
    refine w_draw mixed [0, 1, 3, 0, 15, 31, 63, 127, 255, 511, 127, 1151, 3199, 8191, 16383, 127, 32895, 98431, 262143, 524287, 1048575, 2097151, 4194303, 8388607, 2097151, 18874367, 52428799] [134217727, 268435455, 536870911, 1073741823, 2147483647] (by kernel_rfl) (by kernel_rfl) rfl rfl rfl (hle hρ rfl) ?_
    refine ra_q (j := 0) rfl rfl rfl rfl (do_fieldaddr rfl ⟨rfl, rfl⟩) (by rfl) ?_
    refine ra_q (j := 1) rfl rfl rfl rfl (do_fieldaddr rfl ⟨rfl, rfl⟩) (by rfl) ?_
    refine ra_q (j := 2) rfl rfl rfl rfl (do_load_box rfl rfl rfl ⟨rfl, rfl⟩) (by rfl) ?_
    refine ra_q (j := 3) rfl rfl rfl rfl (do_move rfl ⟨rfl, rfl⟩) (by rfl) ?_
    refine ra_q (j := 4) rfl rfl rfl rfl (n_callW (X' := .val (.bool (decide (idxI (fun x => decide (x < 0 ∨ x > 2 * c.N)) p.H ≥ 0)))) (H' := [SO.ints false .i64 c.First, SO.ints false .i64 c.Head, SO.ints false .i64 c.Rev, SO.ints false .i64 c.Cap, SO.ints false .i64 c.Arc, SO.bools false c.Back, SO.ints false .i64 p.Res, SO.ints false .i64 p.Ex, SO.ints false .i64 p.H, .box [.val (.int .i64 c.N), .val (.int .i64 c.S), .val (.int .i64 c.T), .slc 0 0 c.First.length none, .slc 1 0 c.Head.length none, .slc 2 0 c.Rev.length none, .slc 3 0 c.Cap.length none, .slc 4 0 c.Arc.length none, .slc 5 0 c.Back.length none, .slc 6 0 p.Res.length none, .slc 7 0 p.Ex.length none, .slc 8 0 p.H.length none]]) rfl rfl (t_hContains (c := c) (p := p) (h) (hp)) [0, 1, 2, 3, 4, 5, 6, 7, 8, 9] ⟨.inr ⟨_, rfl, srv⟩, .inr ⟨_, rfl, srv⟩, .inr ⟨_, rfl, srv⟩, .inr ⟨_, rfl, srv⟩, .inr ⟨_, rfl, srv⟩, .inr ⟨_, rfl, srv⟩, .inr ⟨_, rfl, srv⟩, .inr ⟨_, rfl, srv⟩, .inr ⟨_, rfl, srv⟩, shR rfl, trivial⟩ rfl rfl ⟨fun h => (by cases h), ⟨fun h => (by cases h), ⟨fun h => (by cases h), ⟨fun h => (by cases h), ⟨fun h => (by cases h), ⟨fun h => (by cases h), ⟨fun h => (by cases h), ⟨fun h => (by cases h), ⟨fun h => (by cases h), ⟨fun h => .inl rfl, (fun y hy => by simp at hy)⟩⟩⟩⟩⟩⟩⟩⟩⟩⟩ rfl rfl ⟨rfl, rfl⟩) (by rfl) ?_
    refine ra_q (j := 5) rfl rfl rfl rfl (do_not rfl ⟨rfl, rfl⟩) (by rfl) ?_
    refine ra_q (j := 6) rfl rfl rfl rfl (do_move rfl ⟨rfl, rfl⟩) (by rfl) ?_
    refine ra_case 11 rfl (fun g1 => ?_) (fun g1 => ?_)
    · have kg1 := g1
      try simp only [bs] at kg1
      refine ra_gt (j := 7) rfl rfl rfl rfl g1 rfl rfl rfl (do_fieldaddr rfl ⟨rfl, rfl⟩) (by rfl) ?_
      refine ra_gt (j := 8) rfl rfl rfl rfl g1 rfl rfl rfl (do_fieldaddr rfl ⟨rfl, rfl⟩) (by rfl) ?_
      refine ra_gt (j := 9) rfl rfl rfl rfl g1 rfl rfl rfl (do_load_box rfl rfl rfl ⟨rfl, rfl⟩) (by rfl) ?_
      refine ra_gt (j := 10) rfl rfl rfl rfl g1 rfl rfl rfl (do_fieldaddr rfl ⟨rfl, rfl⟩) (by rfl) ?_
      refine ra_gt (j := 11) rfl rfl rfl rfl g1 rfl rfl rfl (do_fieldaddr rfl ⟨rfl, rfl⟩) (by rfl) ?_
      refine ra_gt (j := 12) rfl rfl rfl rfl g1 rfl rfl rfl (do_load_box rfl rfl rfl ⟨rfl, rfl⟩) (by rfl) ?_
      refine ra_gt (j := 13) rfl rfl rfl rfl g1 rfl rfl rfl (do_ix0 rfl rfl rfl (by first | omega | (simp only [ls] <;> omega)) ⟨rfl, rfl⟩) (by rfl) ?_
      refine ra_gt (j := 14) rfl rfl rfl rfl g1 rfl rfl rfl (do_load_arr rfl rfl (by first | omega | (simp only [ls] <;> omega)) rfl ⟨rfl, rfl⟩) (by rfl) ?_
      refine ra_gt (j := 15) rfl rfl rfl rfl g1 rfl rfl rfl (do_fieldaddr rfl ⟨rfl, rfl⟩) (by rfl) ?_
      refine ra_gt (j := 16) rfl rfl rfl rfl g1 rfl rfl rfl (do_fieldaddr rfl ⟨rfl, rfl⟩) (by rfl) ?_
      refine ra_gt (j := 17) rfl rfl rfl rfl g1 rfl rfl rfl (do_load_box rfl rfl rfl ⟨rfl, rfl⟩) (by rfl) ?_
      refine ra_gt (j := 18) rfl rfl rfl rfl g1 rfl rfl rfl (do_bin rfl rfl rfl ⟨rfl, rfl⟩) (by rfl) ?_
      refine ra_q (j := 19) rfl rfl rfl rfl (do_pick_t rfl g1 rfl ⟨rfl, rfl⟩) (by rfl) ?_
      refine ra_q (j := 20) rfl rfl rfl rfl (do_move rfl ⟨rfl, rfl⟩) (by rfl) ?_
      refine ra_case 25 rfl (fun g2 => ?_) (fun g2 => ?_)
      · have kg2 := g2
        try simp only [bs] at kg2
        refine ra_gt (j := 21) rfl rfl rfl rfl g2 rfl rfl rfl (do_fieldaddr rfl ⟨rfl, rfl⟩) (by rfl) ?_
        refine ra_gt (j := 22) rfl rfl rfl rfl g2 rfl rfl rfl (do_fieldaddr rfl ⟨rfl, rfl⟩) (by rfl) ?_
        refine ra_gt (j := 23) rfl rfl rfl rfl g2 rfl rfl rfl (do_load_box rfl rfl rfl ⟨rfl, rfl⟩) (by rfl) ?_
        refine ra_gt (j := 24) rfl rfl rfl rfl g2 rfl rfl rfl (do_fieldaddr rfl ⟨rfl, rfl⟩) (by rfl) ?_
        refine ra_gt (j := 25) rfl rfl rfl rfl g2 rfl rfl rfl (do_fieldaddr rfl ⟨rfl, rfl⟩) (by rfl) ?_
        refine ra_gt (j := 26) rfl rfl rfl rfl g2 rfl rfl rfl (do_load_box rfl rfl rfl ⟨rfl, rfl⟩) (by rfl) ?_
        refine n_done ?_
        refine rw_gt 32 20 25 true rfl rfl rfl rfl rfl rfl g2 (do_ix0 rfl rfl rfl (by first | omega | (simp only [ls] <;> omega)) ?_)
        refine rw_gt 33 20 25 true rfl rfl rfl rfl rfl rfl g2 (do_load_arr rfl rfl (by first | omega | (simp only [ls] <;> omega)) rfl ?_)
        refine rw_gt 34 20 25 true rfl rfl rfl rfl rfl rfl g2 (do_bin rfl rfl rfl ?_)
        refine rw_t 35 rfl rfl rfl (do_pick_t rfl g2 rfl ?_)
        refine rw_t 2 rfl rfl rfl (do_assign rfl ?_)
        refine rw_nil ?_
        refine ⟨rfl, ⟨_, rfl, by first | (simp; done) | (simp only [bs]; omega) | (simp [*]; done) | (simp; omega) | (constructor <;> intro h <;> simp_all <;> omega)⟩, ?_⟩
        repeat (refine ⟨⟨_, rfl, rfl⟩, ?_⟩)
        exact trivial
      · have kg2 := g2
        try simp only [bs] at kg2
        refine ra_gf (j := 21) rfl rfl rfl rfl (by rw [g2]; decide) rfl rfl rfl ?_
        refine ra_gf (j := 22) rfl rfl rfl rfl (by rw [g2]; decide) rfl rfl rfl ?_
        refine ra_gf (j := 23) rfl rfl rfl rfl (by rw [g2]; decide) rfl rfl rfl ?_
        refine ra_gf (j := 24) rfl rfl rfl rfl (by rw [g2]; decide) rfl rfl rfl ?_
        refine ra_gf (j := 25) rfl rfl rfl rfl (by rw [g2]; decide) rfl rfl rfl ?_
        refine ra_gf (j := 26) rfl rfl rfl rfl (by rw [g2]; decide) rfl rfl rfl ?_
        refine n_done ?_
        refine rw_gf 32 20 25 true rfl rfl rfl rfl rfl rfl (by rw [g2]; decide) ?_
        refine rw_gf 33 20 25 true rfl rfl rfl rfl rfl rfl (by rw [g2]; decide) ?_
        refine rw_gf 34 20 25 true rfl rfl rfl rfl rfl rfl (by rw [g2]; decide) ?_
        refine rw_t 35 rfl rfl rfl (do_pick_f rfl g2 rfl ?_)
        refine rw_t 2 rfl rfl rfl (do_assign rfl ?_)
        refine rw_nil ?_
        refine ⟨rfl, ⟨_, rfl, by first | (simp; done) | (simp only [bs]; omega) | (simp [*]; done) | (simp; omega) | (constructor <;> intro h <;> simp_all <;> omega)⟩, ?_⟩
        repeat (refine ⟨⟨_, rfl, rfl⟩, ?_⟩)
        exact trivial
    · have kg1 := g1
      try simp only [bs] at kg1
      refine ra_gf (j := 7) rfl rfl rfl rfl (by rw [g1]; decide) rfl rfl rfl ?_
      refine ra_gf (j := 8) rfl rfl rfl rfl (by rw [g1]; decide) rfl rfl rfl ?_
      refine ra_gf (j := 9) rfl rfl rfl rfl (by rw [g1]; decide) rfl rfl rfl ?_
      refine ra_gf (j := 10) rfl rfl rfl rfl (by rw [g1]; decide) rfl rfl rfl ?_
      refine ra_gf (j := 11) rfl rfl rfl rfl (by rw [g1]; decide) rfl rfl rfl ?_
      refine ra_gf (j := 12) rfl rfl rfl rfl (by rw [g1]; decide) rfl rfl rfl ?_
      refine ra_gf (j := 13) rfl rfl rfl rfl (by rw [g1]; decide) rfl rfl rfl ?_
      refine ra_gf (j := 14) rfl rfl rfl rfl (by rw [g1]; decide) rfl rfl rfl ?_
      refine ra_gf (j := 15) rfl rfl rfl rfl (by rw [g1]; decide) rfl rfl rfl ?_
      refine ra_gf (j := 16) rfl rfl rfl rfl (by rw [g1]; decide) rfl rfl rfl ?_
      refine ra_gf (j := 17) rfl rfl rfl rfl (by rw [g1]; decide) rfl rfl rfl ?_
      refine ra_gf (j := 18) rfl rfl rfl rfl (by rw [g1]; decide) rfl rfl rfl ?_
      refine ra_q (j := 19) rfl rfl rfl rfl (do_pick_f rfl g1 rfl ⟨rfl, rfl⟩) (by rfl) ?_
      refine ra_q (j := 20) rfl rfl rfl rfl (do_move rfl ⟨rfl, rfl⟩) (by rfl) ?_
      refine ra_gf (j := 21) rfl rfl rfl rfl (by decide) rfl rfl rfl ?_
      refine ra_gf (j := 22) rfl rfl rfl rfl (by decide) rfl rfl rfl ?_
      refine ra_gf (j := 23) rfl rfl rfl rfl (by decide) rfl rfl rfl ?_
      refine ra_gf (j := 24) rfl rfl rfl rfl (by decide) rfl rfl rfl ?_
      refine ra_gf (j := 25) rfl rfl rfl rfl (by decide) rfl rfl rfl ?_
      refine ra_gf (j := 26) rfl rfl rfl rfl (by decide) rfl rfl rfl ?_
      refine n_done ?_
      refine rw_gf 32 20 25 true rfl rfl rfl rfl rfl rfl (by decide) ?_
      refine rw_gf 33 20 25 true rfl rfl rfl rfl rfl rfl (by decide) ?_
      refine rw_gf 34 20 25 true rfl rfl rfl rfl rfl rfl (by decide) ?_
      refine rw_t 35 rfl rfl rfl (do_pick_f rfl rfl rfl ?_)
      refine rw_t 2 rfl rfl rfl (do_assign rfl ?_)
      refine rw_nil ?_
      refine ⟨rfl, ⟨_, rfl, by first | (simp; done) | (simp only [bs]; omega) | (simp [*]; done) | (simp; omega) | (constructor <;> intro h <;> simp_all <;> omega)⟩, ?_⟩
      repeat (refine ⟨⟨_, rfl, rfl⟩, ?_⟩)
      exact trivial
  intro b1 hb1
  refine w_ret ?_
  exact ret_eq (.inl rfl) (.cons (res_tmp rfl) .nil) [0, 1, 2, 3, 4, 5, 6, 7, 8] (Eq.symm (bool_congr (dec_of hb1 (by unfold heightsP; rw [idx_high h hp, and_assoc])))) ⟨shR rfl, shR rfl, shR rfl, shR rfl, shR rfl, shR rfl, shR rfl, shR rfl, shR rfl, trivial⟩ rfl (pre_ok rfl)
set_option maxHeartbeats 8000000 in
set_option synthInstance.maxHeartbeats 400000 in
set_option synthInstance.maxSize 2000 in
theorem t_pairs (c : Csr) (p : Pre) (h : CsrOK c) (hp : PreLen c p) : Tri Try.prog 33 [.agg [.val (.int .i64 c.N), .val (.int .i64 c.S), .val (.int .i64 c.T), .slc 0 0 c.First.length none, .slc 1 0 c.Head.length none, .slc 2 0 c.Rev.length none, .slc 3 0 c.Cap.length none, .slc 4 0 c.Arc.length none, .slc 5 0 c.Back.length none, .slc 6 0 p.Res.length none, .slc 7 0 p.Ex.length none, .slc 8 0 p.H.length none]] [SO.ints false .i64 c.First, SO.ints false .i64 c.Head, SO.ints false .i64 c.Rev, SO.ints false .i64 c.Cap, SO.ints false .i64 c.Arc, SO.bools false c.Back, SO.ints false .i64 p.Res, SO.ints false .i64 p.Ex, SO.ints false .i64 p.H] (fun s H => s = .val (.bool (decide (pairsP c p.Res))) ∧ H = [SO.ints false .i64 c.First, SO.ints false .i64 c.Head, SO.ints false .i64 c.Rev, SO.ints false .i64 c.Cap, SO.ints false .i64 c.Arc, SO.bools false c.Back, SO.ints false .i64 p.Res, SO.ints false .i64 p.Ex, SO.ints false .i64 p.H]) := by
  refine tri_of_w (fn := Try.f33) Try.func33 rfl (by simp [Try.f33]) ?_
  intro ρ w hρ
  refine w_seq ?_
  have hn := h.n
  have hf := h.first
  have hhd := h.head
  have hrl := h.rev
  have hcl := h.cap
  have hal := h.arc
  have hbl := h.back
  have hr := hp.res
  have hx := hp.ex
  have hh := hp.h
  refine w_region ?_
  refine rw_t 1 rfl rfl rfl (n_box_agg (n := 9) rfl rfl ?_)
  refine rw_t 2 rfl rfl rfl (do_assign rfl ?_)
  refine rw_nil ?_
  refine w_seq ?_
  refine w_seq ?_
  refine w_region ?_
  refine rw_t 7 rfl rfl rfl (do_fieldaddr rfl ?_)
  refine rw_t 8 rfl rfl rfl (do_fieldaddr rfl ?_)
  refine rw_t 9 rfl rfl rfl (do_load_box rfl rfl rfl ?_)
  refine rw_t 10 rfl rfl rfl (do_len rfl ?_)
  refine rw_t 11 rfl rfl rfl (do_move rfl ?_)
  refine rw_nil ?_
  refine w_block ?_
  refine w_loopS (ι := Nat) (fun i => [(1, .ptr 9 0 0), (9, .slc 6 0 p.Res.length none), (10, .val (.int .i64 ((p.Res.length : Nat) : Int))), (11, .val (.int .i64 ((i : Nat) : Int)))]) (fun i => [SO.ints false .i64 c.First, SO.ints false .i64 c.Head, SO.ints false .i64 c.Rev, SO.ints false .i64 c.Cap, SO.ints false .i64 c.Arc, SO.bools false c.Back, SO.ints false .i64 p.Res, SO.ints false .i64 p.Ex, SO.ints false .i64 p.H, .box [.val (.int .i64 c.N), .val (.int .i64 c.S), .val (.int .i64 c.T), .slc 0 0 c.First.length none, .slc 1 0 c.Head.length none, .slc 2 0 c.Rev.length none, .slc 3 0 c.Cap.length none, .slc 4 0 c.Arc.length none, .slc 5 0 c.Back.length none, .slc 6 0 p.Res.length none, .slc 7 0 p.Ex.length none, .slc 8 0 p.H.length none]]) (fun i => p.Res.length - i) (fun i => i ≤ p.Res.length ∧ ∀ a : Nat, a < i → 0 ≤ p.Res.getD a 0 ∧ p.Res.getD a 0 ≤ mostOf c a ∧ p.Res.getD (c.Rev.getD a 0).toNat 0 = mostOf c a - p.Res.getD a 0) (0) [0, 1, 2, 3, 4, 5, 6, 7, 8, 9] (⟨by simp, fun a ha => by omega⟩) ⟨shR rfl, shR rfl, shR rfl, shR rfl, shR rfl, shR rfl, shR rfl, shR rfl, shR rfl, shR rfl, trivial⟩ rfl (pre_ok rfl) hρ ⟨⟨_, rfl, rfl⟩, ⟨_, rfl, rfl⟩, ⟨_, rfl, rfl⟩, ⟨_, rfl, rfl⟩, trivial⟩ ?_
  rintro i ⟨g1, g2⟩
  refine w_seq ?_
  refine w_region ?_
  refine rw_t 12 rfl rfl rfl (do_bin rfl rfl rfl ?_)
  refine rw_nil ?_
  refine w_seq ?_
  refine w_cond rfl (fun hc1 => ?_) (fun hc1 => ?_)
  all_goals try simp only [bs] at hc1
  rotate_left
  · refine w_exit ?_
    refine w_seq ?_
    refine w_region ?_
    refine rw_t 2 rfl rfl rfl (do_assign rfl ?_)
    refine rw_nil ?_
    refine w_ret ?_
    exact ret_eq (.inl rfl) (.cons (res_tmp rfl) .nil) [0, 1, 2, 3, 4, 5, 6, 7, 8] (Eq.symm (bool_congr (decide_eq_true (fun a ha => g2 a (by omega))))) ⟨shR rfl, shR rfl, shR rfl, shR rfl, shR rfl, shR rfl, shR rfl, shR rfl, shR rfl, trivial⟩ rfl (pre_ok rfl)
  refine w_skip ?_
  refine w_seq ?_
  refine w_block ?_
  refine w_seq ?_
  refine w_region ?_
  refine rw_t 13 rfl rfl rfl (do_move rfl ?_)
  refine rw_t 14 rfl rfl rfl (do_ixn rfl rfl rfl (by first | omega | (simp only [ls] <;> omega)) ?_)
  refine rw_t 15 rfl rfl rfl (do_load_arr rfl rfl (by first | omega | (simp only [ls] <;> omega)) rfl ?_)
  refine rw_t 3 rfl rfl rfl (do_assign rfl ?_)
  refine rw_t 4 rfl rfl rfl (do_assign rfl ?_)
  refine rw_nil ?_
  refine w_seq ?_
  have hv := h.rv i (by omega)
  have hcp := h.cp i (by omega)
  unfold mostOf at hcp
  refine w_region ?_
  refine rw_t 16 rfl rfl rfl (do_fieldaddr rfl ?_)
  refine rw_t 17 rfl rfl rfl (do_fieldaddr rfl ?_)
  refine rw_t 18 rfl rfl rfl (do_load_box rfl rfl rfl ?_)
  refine rw_t 19 rfl rfl rfl (do_move rfl ?_)
  refine rw_t 20 rfl rfl rfl (do_ixn rfl rfl rfl (by first | omega | (simp only [ls] <;> omega)) ?_)
  refine rw_t 21 rfl rfl rfl (do_load_arr rfl rfl (by first | omega | (simp only [ls] <;> omega)) rfl ?_)
  refine rw_t 5 rfl rfl rfl (do_assign rfl ?_)
  refine rw_nil ?_
  refine w_seq ?_
  refine w_draw mixed [0, 1, 3, 0, 15, 31, 0, 64, 192, 0, 960, 1984] [4095, 8191] (by kernel_rfl) (by kernel_rfl) rfl rfl rfl (hle hρ rfl) ?_
  refine ra_q (j := 0) rfl rfl rfl rfl (do_fieldaddr rfl ⟨rfl, rfl⟩) (by rfl) ?_
  refine ra_q (j := 1) rfl rfl rfl rfl (do_fieldaddr rfl ⟨rfl, rfl⟩) (by rfl) ?_
  refine ra_q (j := 2) rfl rfl rfl rfl (do_load_box rfl rfl rfl ⟨rfl, rfl⟩) (by rfl) ?_
  refine ra_q (j := 3) rfl rfl rfl rfl (do_move rfl ⟨rfl, rfl⟩) (by rfl) ?_
  refine ra_q (j := 4) rfl rfl rfl rfl (do_ixn rfl rfl rfl (by first | omega | (simp only [ls] <;> omega)) ⟨rfl, rfl⟩) (by rfl) ?_
  refine ra_q (j := 5) rfl rfl rfl rfl (do_load_arr rfl rfl (by first | omega | (simp only [ls] <;> omega)) rfl ⟨rfl, rfl⟩) (by rfl) ?_
  refine ra_q (j := 6) rfl rfl rfl rfl (do_fieldaddr rfl ⟨rfl, rfl⟩) (by rfl) ?_
  refine ra_q (j := 7) rfl rfl rfl rfl (do_fieldaddr rfl ⟨rfl, rfl⟩) (by rfl) ?_
  refine ra_q (j := 8) rfl rfl rfl rfl (do_load_box rfl rfl rfl ⟨rfl, rfl⟩) (by rfl) ?_
  refine ra_q (j := 9) rfl rfl rfl rfl (do_move rfl ⟨rfl, rfl⟩) (by rfl) ?_
  refine ra_q (j := 10) rfl rfl rfl rfl (do_ix0 rfl rfl rfl (by first | omega | (simp only [ls] <;> omega)) ⟨rfl, rfl⟩) (by rfl) ?_
  refine ra_q (j := 11) rfl rfl rfl rfl (do_load_arr rfl rfl (by first | omega | (simp only [ls] <;> omega)) rfl ⟨rfl, rfl⟩) (by rfl) ?_
  refine n_done ?_
  refine rw_t 34 rfl rfl rfl (do_add rfl rfl (by omega) ?_)
  refine rw_t 6 rfl rfl rfl (do_assign rfl ?_)
  refine rw_nil ?_
  refine w_seqB 53 ((((p.Res.getD i 0) < 0 ∨ (p.Res.getD i 0) > ((c.Cap.getD i 0) + (c.Cap.getD ((c.Rev.getD i 0).toNat) 0))) ∨ (p.Res.getD ((c.Rev.getD i 0).toNat) 0) ≠ (((c.Cap.getD i 0) + (c.Cap.getD ((c.Rev.getD i 0).toNat) 0)) - (p.Res.getD i 0)))) ?_ ?_
  · -- region 6
    refine w_region ?_
    refine rw_t 35 rfl rfl rfl (do_move rfl ?_)
    refine rw_t 36 rfl rfl rfl (do_bin rfl rfl rfl ?_)
    refine rw_t 37 rfl rfl rfl (do_move rfl ?_)
    refine rw_case 37 rfl (fun g1 => ?_) (fun g1 => ?_)
    · have kg1 := g1
      try simp only [bs] at kg1
      refine rw_gf 38 2 37 false rfl rfl rfl rfl rfl rfl (by rw [g1]; decide) ?_
      refine rw_gf 39 2 37 false rfl rfl rfl rfl rfl rfl (by rw [g1]; decide) ?_
      refine rw_gf 40 2 37 false rfl rfl rfl rfl rfl rfl (by rw [g1]; decide) ?_
      refine rw_t 41 rfl rfl rfl (do_pick_t rfl g1 rfl ?_)
      refine rw_t 42 rfl rfl rfl (do_move rfl ?_)
      refine rw_gf 43 7 42 false rfl rfl rfl rfl rfl rfl (by decide) ?_
      refine rw_gf 44 7 42 false rfl rfl rfl rfl rfl rfl (by decide) ?_
      refine rw_gf 45 7 42 false rfl rfl rfl rfl rfl rfl (by decide) ?_
      refine rw_gf 46 7 42 false rfl rfl rfl rfl rfl rfl (by decide) ?_
      refine rw_gf 47 7 42 false rfl rfl rfl rfl rfl rfl (by decide) ?_
      refine rw_gf 48 7 42 false rfl rfl rfl rfl rfl rfl (by decide) ?_
      refine rw_gf 49 7 42 false rfl rfl rfl rfl rfl rfl (by decide) ?_
      refine rw_gf 50 7 42 false rfl rfl rfl rfl rfl rfl (by decide) ?_
      refine rw_gf 51 7 42 false rfl rfl rfl rfl rfl rfl (by decide) ?_
      refine rw_gf 52 7 42 false rfl rfl rfl rfl rfl rfl (by decide) ?_
      refine rw_t 53 rfl rfl rfl (do_pick_t rfl rfl rfl ?_)
      refine rw_nil ?_
      refine ⟨rfl, ⟨_, rfl, by first | (simp; done) | (simp only [bs]; omega) | (simp [*]; done) | (simp; omega) | (constructor <;> intro h <;> simp_all <;> omega)⟩, ?_⟩
      repeat (refine ⟨⟨_, rfl, rfl⟩, ?_⟩)
      exact trivial
    · have kg1 := g1
      try simp only [bs] at kg1
      refine rw_gt 38 2 37 false rfl rfl rfl rfl rfl rfl g1 (do_move rfl ?_)
      refine rw_gt 39 2 37 false rfl rfl rfl rfl rfl rfl g1 (do_move rfl ?_)
      refine rw_gt 40 2 37 false rfl rfl rfl rfl rfl rfl g1 (do_bin rfl rfl rfl ?_)
      refine rw_t 41 rfl rfl rfl (do_pick_f rfl g1 rfl ?_)
      refine rw_t 42 rfl rfl rfl (do_move rfl ?_)
      refine rw_case 42 rfl (fun g2 => ?_) (fun g2 => ?_)
      · have kg2 := g2
        try simp only [bs] at kg2
        refine rw_gf 43 7 42 false rfl rfl rfl rfl rfl rfl (by rw [g2]; decide) ?_
        refine rw_gf 44 7 42 false rfl rfl rfl rfl rfl rfl (by rw [g2]; decide) ?_
        refine rw_gf 45 7 42 false rfl rfl rfl rfl rfl rfl (by rw [g2]; decide) ?_
        refine rw_gf 46 7 42 false rfl rfl rfl rfl rfl rfl (by rw [g2]; decide) ?_
        refine rw_gf 47 7 42 false rfl rfl rfl rfl rfl rfl (by rw [g2]; decide) ?_
        refine rw_gf 48 7 42 false rfl rfl rfl rfl rfl rfl (by rw [g2]; decide) ?_
        refine rw_gf 49 7 42 false rfl rfl rfl rfl rfl rfl (by rw [g2]; decide) ?_
        refine rw_gf 50 7 42 false rfl rfl rfl rfl rfl rfl (by rw [g2]; decide) ?_
        refine rw_gf 51 7 42 false rfl rfl rfl rfl rfl rfl (by rw [g2]; decide) ?_
        refine rw_gf 52 7 42 false rfl rfl rfl rfl rfl rfl (by rw [g2]; decide) ?_
        refine rw_t 53 rfl rfl rfl (do_pick_t rfl g2 rfl ?_)
        refine rw_nil ?_
        refine ⟨rfl, ⟨_, rfl, by first | (simp; done) | (simp only [bs]; omega) | (simp [*]; done) | (simp; omega) | (constructor <;> intro h <;> simp_all <;> omega)⟩, ?_⟩
        repeat (refine ⟨⟨_, rfl, rfl⟩, ?_⟩)
        exact trivial
      · have kg2 := g2
        try simp only [bs] at kg2
        refine rw_gt 43 7 42 false rfl rfl rfl rfl rfl rfl g2 (do_fieldaddr rfl ?_)
        refine rw_gt 44 7 42 false rfl rfl rfl rfl rfl rfl g2 (do_fieldaddr rfl ?_)
        refine rw_gt 45 7 42 false rfl rfl rfl rfl rfl rfl g2 (do_load_box rfl rfl rfl ?_)
        refine rw_gt 46 7 42 false rfl rfl rfl rfl rfl rfl g2 (do_move rfl ?_)
        refine rw_gt 47 7 42 false rfl rfl rfl rfl rfl rfl g2 (do_ix0 rfl rfl rfl (by first | omega | (simp only [ls] <;> omega)) ?_)
        refine rw_gt 48 7 42 false rfl rfl rfl rfl rfl rfl g2 (do_load_arr rfl rfl (by first | omega | (simp only [ls] <;> omega)) rfl ?_)
        refine rw_gt 49 7 42 false rfl rfl rfl rfl rfl rfl g2 (do_move rfl ?_)
        refine rw_gt 50 7 42 false rfl rfl rfl rfl rfl rfl g2 (do_move rfl ?_)
        refine rw_gt 51 7 42 false rfl rfl rfl rfl rfl rfl g2 (do_sub rfl rfl (by omega) ?_)
        refine rw_gt 52 7 42 false rfl rfl rfl rfl rfl rfl g2 (do_bin rfl rfl rfl ?_)
        refine rw_t 53 rfl rfl rfl (do_pick_f rfl g2 rfl ?_)
        refine rw_nil ?_
        refine ⟨rfl, ⟨_, rfl, by first | (simp; done) | (simp only [bs]; omega) | (simp [*]; done) | (simp; omega) | (constructor <;> intro h <;> simp_all <;> omega)⟩, ?_⟩
        repeat (refine ⟨⟨_, rfl, rfl⟩, ?_⟩)
        exact trivial
  intro b1 hb1
  refine w_condP hb1 rfl (fun hc2 => ?_) (fun hc2 => ?_)
  · refine w_seq ?_
    refine w_region ?_
    refine rw_t 2 rfl rfl rfl (do_assign rfl ?_)
    refine rw_nil ?_
    refine w_ret ?_
    exact ret_eq (.inl rfl) (.cons (res_tmp rfl) .nil) [0, 1, 2, 3, 4, 5, 6, 7, 8] (Eq.symm (bool_congr (decide_eq_false (fun q => by have := q i (by omega); unfold mostOf at this; omega)))) ⟨shR rfl, shR rfl, shR rfl, shR rfl, shR rfl, shR rfl, shR rfl, shR rfl, shR rfl, trivial⟩ rfl (pre_ok rfl)
  refine w_skip ?_
  refine w_region ?_
  refine rw_t 54 rfl rfl rfl (do_add rfl rfl (by omega) ?_)
  refine rw_t 11 rfl rfl rfl (do_move rfl ?_)
  refine rw_nil ?_
  refine ⟨i + 1, [0, 1, 2, 3, 4, 5, 6, 7, 8, 9], by dsimp only; omega, ⟨by omega, fun a ha => by rcases Nat.lt_or_ge a i with hki | hki; exact g2 a hki; have : a = i := (by omega); subst this; unfold mostOf; omega⟩, ⟨shR rfl, shR rfl, shR rfl, shR rfl, shR rfl, shR rfl, shR rfl, shR rfl, shR rfl, shR rfl, trivial⟩, rfl, pre_ok rfl, ⟨⟨_, rfl, rfl⟩, ⟨_, rfl, rfl⟩, ⟨_, rfl, rfl⟩, ⟨_, rfl, rfl⟩, trivial⟩⟩
set_option maxHeartbeats 8000000 in
set_option synthInstance.maxHeartbeats 400000 in
set_option synthInstance.maxSize 2000 in
theorem t_excess (c : Csr) (p : Pre) (h : CsrT c) (hp : PreLen c p) (hpr : pairsP c p.Res) (hi : ∀ x ∈ p.Ex, In64 x) : Tri Try.prog 34 [.agg [.val (.int .i64 c.N), .val (.int .i64 c.S), .val (.int .i64 c.T), .slc 0 0 c.First.length none, .slc 1 0 c.Head.length none, .slc 2 0 c.Rev.length none, .slc 3 0 c.Cap.length none, .slc 4 0 c.Arc.length none, .slc 5 0 c.Back.length none, .slc 6 0 p.Res.length none, .slc 7 0 p.Ex.length none, .slc 8 0 p.H.length none]] [SO.ints false .i64 c.First, SO.ints false .i64 c.Head, SO.ints false .i64 c.Rev, SO.ints false .i64 c.Cap, SO.ints false .i64 c.Arc, SO.bools false c.Back, SO.ints false .i64 p.Res, SO.ints false .i64 p.Ex, SO.ints false .i64 p.H] (fun s H => s = .val (.bool (decide (excessP c p))) ∧ H = [SO.ints false .i64 c.First, SO.ints false .i64 c.Head, SO.ints false .i64 c.Rev, SO.ints false .i64 c.Cap, SO.ints false .i64 c.Arc, SO.bools false c.Back, SO.ints false .i64 p.Res, SO.ints false .i64 p.Ex, SO.ints false .i64 p.H]) := by
  refine tri_of_w (fn := Try.f34) Try.func34 rfl (by simp [Try.f34]) ?_
  intro ρ w hρ
  refine w_seq ?_
  have hn := h.n
  have hf := h.first
  have hhd := h.head
  have hrl := h.rev
  have hcl := h.cap
  have hal := h.arc
  have hbl := h.back
  have hr := hp.res
  have hx := hp.ex
  have hh := hp.h
  refine w_region ?_
  refine rw_t 1 rfl rfl rfl (n_box_agg (n := 9) rfl rfl ?_)
  refine rw_t 2 rfl rfl rfl (do_assign rfl ?_)
  refine rw_nil ?_
  refine w_seq ?_
  refine w_region ?_
  refine rw_t 10 rfl rfl rfl (do_fieldaddr rfl ?_)
  refine rw_t 11 rfl rfl rfl (do_fieldaddr rfl ?_)
  refine rw_t 12 rfl rfl rfl (do_load_box rfl rfl rfl ?_)
  refine rw_t 13 rfl rfl rfl (n_callN (X' := .slc 10 0 p.Ex.length none) (N' := [SO.ints true .i64 p.Ex]) rfl rfl (t_CloneLongs (xs := p.Ex) (by omega)) [7] ⟨.inr ⟨_, rfl, srv⟩, trivial⟩ rfl rfl rfl rfl rfl ?_)
  refine rw_t 3 rfl rfl rfl (do_assign rfl ?_)
  refine rw_nil ?_
  refine w_seq ?_
  refine w_seq ?_
  refine w_region ?_
  refine rw_t 14 rfl rfl rfl (do_fieldaddr rfl ?_)
  refine rw_t 15 rfl rfl rfl (do_fieldaddr rfl ?_)
  refine rw_t 16 rfl rfl rfl (do_load_box rfl rfl rfl ?_)
  refine rw_t 17 rfl rfl rfl (do_len rfl ?_)
  refine rw_t 18 rfl rfl rfl (do_move rfl ?_)
  refine rw_nil ?_
  refine w_block ?_
  refine w_loopS (ι := Nat × List Int) (fun q => [(1, .ptr 9 0 0), (2, .val (.bool false)), (3, .slc 10 0 p.Ex.length none), (16, .slc 6 0 p.Res.length none), (17, .val (.int .i64 ((p.Res.length : Nat) : Int))), (18, .val (.int .i64 ((q.1 : Nat) : Int)))]) (fun q => [SO.ints false .i64 c.First, SO.ints false .i64 c.Head, SO.ints false .i64 c.Rev, SO.ints false .i64 c.Cap, SO.ints false .i64 c.Arc, SO.bools false c.Back, SO.ints false .i64 p.Res, SO.ints false .i64 p.Ex, SO.ints false .i64 p.H, .box [.val (.int .i64 c.N), .val (.int .i64 c.S), .val (.int .i64 c.T), .slc 0 0 c.First.length none, .slc 1 0 c.Head.length none, .slc 2 0 c.Rev.length none, .slc 3 0 c.Cap.length none, .slc 4 0 c.Arc.length none, .slc 5 0 c.Back.length none, .slc 6 0 p.Res.length none, .slc 7 0 p.Ex.length none, .slc 8 0 p.H.length none], SO.ints true .i64 q.2]) (fun q => p.Res.length - q.1) (fun q => q.1 ≤ p.Res.length ∧ q.2.length = p.Ex.length ∧ ∀ v : Nat, v < c.N.toNat → q.2.getD v 0 = IntKind.i64.wrap (p.Ex.getD v 0 - exK c p.Res q.1 v)) ((0, p.Ex)) [0, 1, 2, 3, 4, 5, 6, 7, 8, 9, 10] (⟨by simp, rfl, fun v hv => by rw [exK, Int.sub_zero]; exact (in64_wrap (hi _ (getD_mem 0 (by omega)))).symm⟩) ⟨shR rfl, shR rfl, shR rfl, shR rfl, shR rfl, shR rfl, shR rfl, shR rfl, shR rfl, shR rfl, shR rfl, trivial⟩ rfl (pre_ok rfl) hρ ⟨⟨_, rfl, rfl⟩, ⟨_, rfl, rfl⟩, ⟨_, rfl, rfl⟩, ⟨_, rfl, rfl⟩, ⟨_, rfl, rfl⟩, ⟨_, rfl, rfl⟩, trivial⟩ ?_
  rintro ⟨i, l⟩ ⟨g1, g2, g3⟩
  dsimp only at g1 g2 g3 ⊢
  refine w_seq ?_
  refine w_region ?_
  refine rw_t 19 rfl rfl rfl (do_bin rfl rfl rfl ?_)
  refine rw_nil ?_
  refine w_seq ?_
  refine w_cond rfl (fun hc1 => ?_) (fun hc1 => ?_)
  all_goals try simp only [bs] at hc1
  rotate_left
  · refine w_exit ?_
    refine w_seq ?_
    refine w_seq ?_
    refine w_region ?_
    refine rw_t 57 rfl rfl rfl (do_move rfl ?_)
    refine rw_t 58 rfl rfl rfl (do_len rfl ?_)
    refine rw_t 59 rfl rfl rfl (do_move rfl ?_)
    refine rw_nil ?_
    refine w_block ?_
    have hi' : i = c.Head.length := by omega
    subst hi'
    refine w_loopS (ι := Nat) (fun j => [(1, .ptr 9 0 0), (57, .slc 10 0 p.Ex.length none), (58, .val (.int .i64 ((p.Ex.length : Nat) : Int))), (59, .val (.int .i64 ((j : Nat) : Int)))]) (fun j => [SO.ints false .i64 c.First, SO.ints false .i64 c.Head, SO.ints false .i64 c.Rev, SO.ints false .i64 c.Cap, SO.ints false .i64 c.Arc, SO.bools false c.Back, SO.ints false .i64 p.Res, SO.ints false .i64 p.Ex, SO.ints false .i64 p.H, .box [.val (.int .i64 c.N), .val (.int .i64 c.S), .val (.int .i64 c.T), .slc 0 0 c.First.length none, .slc 1 0 c.Head.length none, .slc 2 0 c.Rev.length none, .slc 3 0 c.Cap.length none, .slc 4 0 c.Arc.length none, .slc 5 0 c.Back.length none, .slc 6 0 p.Res.length none, .slc 7 0 p.Ex.length none, .slc 8 0 p.H.length none], SO.ints true .i64 l]) (fun j => p.Ex.length - j) (fun j => j ≤ p.Ex.length ∧ ∀ v : Nat, v < j → ¬ (l.getD v 0 ≠ 0 ∨ ((v : Int) ≠ c.S ∧ p.Ex.getD v 0 < 0))) (0) [0, 1, 2, 3, 4, 5, 6, 7, 8, 9, 10] (⟨by simp, fun v hv => by omega⟩) ⟨shR rfl, shR rfl, shR rfl, shR rfl, shR rfl, shR rfl, shR rfl, shR rfl, shR rfl, shR rfl, shR rfl, trivial⟩ rfl (pre_ok rfl) hρ ⟨⟨_, rfl, rfl⟩, ⟨_, rfl, rfl⟩, ⟨_, rfl, rfl⟩, ⟨_, rfl, rfl⟩, trivial⟩ ?_
    rintro j ⟨k1, k2⟩
    refine w_seq ?_
    refine w_region ?_
    refine rw_t 60 rfl rfl rfl (do_bin rfl rfl rfl ?_)
    refine rw_nil ?_
    refine w_seq ?_
    refine w_cond rfl (fun hc2 => ?_) (fun hc2 => ?_)
    all_goals try simp only [bs] at hc2
    rotate_left
    · refine w_exit ?_
      refine w_seq ?_
      refine w_region ?_
      refine rw_t 2 rfl rfl rfl (do_assign rfl ?_)
      refine rw_nil ?_
      refine w_ret ?_
      exact ret_eq (.inl rfl) (.cons (res_tmp rfl) .nil) [0, 1, 2, 3, 4, 5, 6, 7, 8] (Eq.symm (bool_congr (decide_eq_true (fun v hv => ex_yes (exK_in h (fun a ha => ⟨(hpr a ha).1, (hpr a ha).2.1⟩) (Nat.le_refl _) v) (hi _ (getD_mem 0 (by omega))) (g3 v hv) (k2 v (by omega)))))) ⟨shR rfl, shR rfl, shR rfl, shR rfl, shR rfl, shR rfl, shR rfl, shR rfl, shR rfl, trivial⟩ rfl (pre_ok rfl)
    refine w_skip ?_
    refine w_seq ?_
    refine w_block ?_
    refine w_seq ?_
    refine w_region ?_
    refine rw_t 61 rfl rfl rfl (do_move rfl ?_)
    refine rw_t 62 rfl rfl rfl (do_ixn rfl rfl rfl (by first | omega | (simp only [ls] <;> omega)) ?_)
    refine rw_t 63 rfl rfl rfl (do_load_arr rfl rfl (by first | omega | (simp only [ls] <;> omega)) rfl ?_)
    refine rw_t 8 rfl rfl rfl (do_assign rfl ?_)
    refine rw_t 9 rfl rfl rfl (do_assign rfl ?_)
    refine rw_nil ?_
    refine w_seqB 81 (((l.getD j 0) ≠ 0 ∨ (((j : Nat) : Int) ≠ c.S ∧ (p.Ex.getD j 0) < 0))) ?_ ?_
    · -- region 13
      refine w_region ?_
      refine rw_t 64 rfl rfl rfl (do_move rfl ?_)
      refine rw_t 65 rfl rfl rfl (do_bin rfl rfl rfl ?_)
      refine rw_t 66 rfl rfl rfl (do_move rfl ?_)
      refine rw_case 66 rfl (fun g1 => ?_) (fun g1 => ?_)
      · have kg1 := g1
        try simp only [bs] at kg1
        refine rw_gf 67 2 66 false rfl rfl rfl rfl rfl rfl (by rw [g1]; decide) ?_
        refine rw_gf 68 2 66 false rfl rfl rfl rfl rfl rfl (by rw [g1]; decide) ?_
        refine rw_gf 69 2 66 false rfl rfl rfl rfl rfl rfl (by rw [g1]; decide) ?_
        refine rw_gf 70 2 66 false rfl rfl rfl rfl rfl rfl (by rw [g1]; decide) ?_
        refine rw_gf 71 2 66 false rfl rfl rfl rfl rfl rfl (by rw [g1]; decide) ?_
        refine rw_gf 72 2 66 false rfl rfl rfl rfl rfl rfl (by rw [g1]; decide) ?_
        refine rw_gu 73 8 72 true rfl rfl rfl rfl rfl rfl ?_
        refine rw_gu 74 8 72 true rfl rfl rfl rfl rfl rfl ?_
        refine rw_gu 75 8 72 true rfl rfl rfl rfl rfl rfl ?_
        refine rw_gu 76 8 72 true rfl rfl rfl rfl rfl rfl ?_
        refine rw_gu 77 8 72 true rfl rfl rfl rfl rfl rfl ?_
        refine rw_gu 78 8 72 true rfl rfl rfl rfl rfl rfl ?_
        refine rw_gu 79 8 72 true rfl rfl rfl rfl rfl rfl ?_
        refine rw_gf 80 2 66 false rfl rfl rfl rfl rfl rfl (by rw [g1]; decide) ?_
        refine rw_t 81 rfl rfl rfl (do_pick_t rfl g1 rfl ?_)
        refine rw_nil ?_
        refine ⟨rfl, ⟨_, rfl, by first | (simp; done) | (simp only [bs]; omega) | (simp [*]; done) | (simp; omega) | (constructor <;> intro h <;> simp_all <;> omega)⟩, ?_⟩
        repeat (refine ⟨⟨_, rfl, rfl⟩, ?_⟩)
        exact trivial
      · have kg1 := g1
        try simp only [bs] at kg1
        refine rw_gt 67 2 66 false rfl rfl rfl rfl rfl rfl g1 (do_move rfl ?_)
        refine rw_gt 68 2 66 false rfl rfl rfl rfl rfl rfl g1 (do_fieldaddr rfl ?_)
        refine rw_gt 69 2 66 false rfl rfl rfl rfl rfl rfl g1 (do_fieldaddr rfl ?_)
        refine rw_gt 70 2 66 false rfl rfl rfl rfl rfl rfl g1 (do_load_box rfl rfl rfl ?_)
        refine rw_gt 71 2 66 false rfl rfl rfl rfl rfl rfl g1 (do_bin rfl rfl rfl ?_)
        refine rw_gt 72 2 66 false rfl rfl rfl rfl rfl rfl g1 (do_move rfl ?_)
        refine rw_case 72 rfl (fun g2 => ?_) (fun g2 => ?_)
        · have kg2 := g2
          try simp only [bs] at kg2
          refine rw_gt 73 8 72 true rfl rfl rfl rfl rfl rfl g2 (do_fieldaddr rfl ?_)
          refine rw_gt 74 8 72 true rfl rfl rfl rfl rfl rfl g2 (do_fieldaddr rfl ?_)
          refine rw_gt 75 8 72 true rfl rfl rfl rfl rfl rfl g2 (do_load_box rfl rfl rfl ?_)
          refine rw_gt 76 8 72 true rfl rfl rfl rfl rfl rfl g2 (do_move rfl ?_)
          refine rw_gt 77 8 72 true rfl rfl rfl rfl rfl rfl g2 (do_ixn rfl rfl rfl (by first | omega | (simp only [ls] <;> omega)) ?_)
          refine rw_gt 78 8 72 true rfl rfl rfl rfl rfl rfl g2 (do_load_arr rfl rfl (by first | omega | (simp only [ls] <;> omega)) rfl ?_)
          refine rw_gt 79 8 72 true rfl rfl rfl rfl rfl rfl g2 (do_bin rfl rfl rfl ?_)
          refine rw_gt 80 2 66 false rfl rfl rfl rfl rfl rfl g1 (do_pick_t rfl g2 rfl ?_)
          refine rw_t 81 rfl rfl rfl (do_pick_f rfl g1 rfl ?_)
          refine rw_nil ?_
          refine ⟨rfl, ⟨_, rfl, by first | (simp; done) | (simp only [bs]; omega) | (simp [*]; done) | (simp; omega) | (constructor <;> intro h <;> simp_all <;> omega)⟩, ?_⟩
          repeat (refine ⟨⟨_, rfl, rfl⟩, ?_⟩)
          exact trivial
        · have kg2 := g2
          try simp only [bs] at kg2
          refine rw_gf 73 8 72 true rfl rfl rfl rfl rfl rfl (by rw [g2]; decide) ?_
          refine rw_gf 74 8 72 true rfl rfl rfl rfl rfl rfl (by rw [g2]; decide) ?_
          refine rw_gf 75 8 72 true rfl rfl rfl rfl rfl rfl (by rw [g2]; decide) ?_
          refine rw_gf 76 8 72 true rfl rfl rfl rfl rfl rfl (by rw [g2]; decide) ?_
          refine rw_gf 77 8 72 true rfl rfl rfl rfl rfl rfl (by rw [g2]; decide) ?_
          refine rw_gf 78 8 72 true rfl rfl rfl rfl rfl rfl (by rw [g2]; decide) ?_
          refine rw_gf 79 8 72 true rfl rfl rfl rfl rfl rfl (by rw [g2]; decide) ?_
          refine rw_gt 80 2 66 false rfl rfl rfl rfl rfl rfl g1 (do_pick_f rfl g2 rfl ?_)
          refine rw_t 81 rfl rfl rfl (do_pick_f rfl g1 rfl ?_)
          refine rw_nil ?_
          refine ⟨rfl, ⟨_, rfl, by first | (simp; done) | (simp only [bs]; omega) | (simp [*]; done) | (simp; omega) | (constructor <;> intro h <;> simp_all <;> omega)⟩, ?_⟩
          repeat (refine ⟨⟨_, rfl, rfl⟩, ?_⟩)
          exact trivial
    intro b1 hb1
    refine w_condP hb1 rfl (fun hc3 => ?_) (fun hc3 => ?_)
    · refine w_seq ?_
      refine w_region ?_
      refine rw_t 2 rfl rfl rfl (do_assign rfl ?_)
      refine rw_nil ?_
      refine w_ret ?_
      exact ret_eq (.inl rfl) (.cons (res_tmp rfl) .nil) [0, 1, 2, 3, 4, 5, 6, 7, 8] (Eq.symm (bool_congr (decide_eq_false (fun q => ex_no (g3 j (by omega)) (q j (by omega)) hc3)))) ⟨shR rfl, shR rfl, shR rfl, shR rfl, shR rfl, shR rfl, shR rfl, shR rfl, shR rfl, trivial⟩ rfl (pre_ok rfl)
    refine w_skip ?_
    refine w_region ?_
    refine rw_t 82 rfl rfl rfl (do_add rfl rfl (by omega) ?_)
    refine rw_t 59 rfl rfl rfl (do_move rfl ?_)
    refine rw_nil ?_
    refine ⟨j + 1, [0, 1, 2, 3, 4, 5, 6, 7, 8, 9, 10], by dsimp only; omega, ⟨by omega, fun v hv => by rcases Nat.lt_or_ge v j with hki | hki; exact k2 v hki; have : v = j := (by omega); subst this; exact hc3⟩, ⟨shR rfl, shR rfl, shR rfl, shR rfl, shR rfl, shR rfl, shR rfl, shR rfl, shR rfl, shR rfl, shR rfl, trivial⟩, rfl, pre_ok rfl, ⟨⟨_, rfl, rfl⟩, ⟨_, rfl, rfl⟩, ⟨_, rfl, rfl⟩, ⟨_, rfl, rfl⟩, trivial⟩⟩
  refine w_skip ?_
  refine w_seq ?_
  refine w_block ?_
  refine w_seq ?_
  refine w_region ?_
  refine rw_t 20 rfl rfl rfl (do_move rfl ?_)
  refine rw_t 21 rfl rfl rfl (do_ixn rfl rfl rfl (by first | omega | (simp only [ls] <;> omega)) ?_)
  refine rw_t 22 rfl rfl rfl (do_load_arr rfl rfl (by first | omega | (simp only [ls] <;> omega)) rfl ?_)
  refine rw_t 4 rfl rfl rfl (do_assign rfl ?_)
  refine rw_t 5 rfl rfl rfl (do_assign rfl ?_)
  refine rw_nil ?_
  refine w_seq ?_
  refine w_seq ?_
  refine w_region ?_
  refine rw_t 23 rfl rfl rfl (do_fieldaddr rfl ?_)
  refine rw_t 24 rfl rfl rfl (do_fieldaddr rfl ?_)
  refine rw_t 25 rfl rfl rfl (do_load_box rfl rfl rfl ?_)
  refine rw_t 26 rfl rfl rfl (do_move rfl ?_)
  refine rw_t 27 rfl rfl rfl (do_ixn rfl rfl rfl (by first | omega | (simp only [ls] <;> omega)) ?_)
  refine rw_t 28 rfl rfl rfl (do_load_arr rfl rfl (by first | omega | (simp only [ls] <;> omega)) rfl ?_)
  refine rw_t 29 rfl rfl rfl (do_not rfl ?_)
  refine rw_nil ?_
  refine w_cond rfl (fun hc4 => ?_) (fun hc4 => ?_)
  all_goals try simp only [bs] at hc4
  · refine w_exit ?_
    refine w_region ?_
    refine rw_t 56 rfl rfl rfl (do_add rfl rfl (by omega) ?_)
    refine rw_t 18 rfl rfl rfl (do_move rfl ?_)
    refine rw_nil ?_
    refine ⟨(i + 1, l), [0, 1, 2, 3, 4, 5, 6, 7, 8, 9, 10], by dsimp only; omega, ⟨by dsimp only; omega, g2, fun v hv => by dsimp only; rw [exK, if_neg (by rw [hc4]; decide), Int.add_zero]; exact g3 v hv⟩, ⟨shR rfl, shR rfl, shR rfl, shR rfl, shR rfl, shR rfl, shR rfl, shR rfl, shR rfl, shR rfl, shR rfl, trivial⟩, rfl, pre_ok rfl, ⟨⟨_, rfl, rfl⟩, ⟨_, rfl, rfl⟩, ⟨_, rfl, rfl⟩, ⟨_, rfl, rfl⟩, ⟨_, rfl, rfl⟩, ⟨_, rfl, rfl⟩, trivial⟩⟩
  refine w_skip ?_
  refine w_seq ?_
  have hhd2 := h.hd i (by omega)
  obtain ⟨tv, ht1, ht2, ht3, ht4⟩ := h.tail_at (a := (i : Int)) (by omega) (by omega)
  refine w_region ?_
  refine rw_t 31 rfl rfl rfl (do_fieldaddr rfl ?_)
  refine rw_t 32 rfl rfl rfl (n_load_boxagg [_, _, _, _, _, _, _, _, _] rfl rfl (Nat.le_of_ble_eq_true rfl) rfl ?_)
  refine rw_t 33 rfl rfl rfl (do_move rfl ?_)
  refine rw_t 34 rfl rfl rfl (do_callR (X' := .tup [.val (.int .i64 (tailOf c ((i : Nat) : Int))), .val (.bool true)]) rfl rfl (t_Tail (c := c) (a := ((i : Nat) : Int)) (h) (by omega)) [0, 1, 2, 3, 4, 5] ⟨.inr ⟨_, rfl, srv⟩, .inr ⟨_, rfl, srv⟩, .inr ⟨_, rfl, srv⟩, .inr ⟨_, rfl, srv⟩, .inr ⟨_, rfl, srv⟩, .inr ⟨_, rfl, srv⟩, trivial⟩ rfl rfl rfl ?_)
  refine rw_t 30 rfl rfl rfl (do_move rfl ?_)
  refine rw_t 35 rfl rfl rfl (do_extract rfl rfl ?_)
  refine rw_t 36 rfl rfl rfl (do_extract rfl rfl ?_)
  refine rw_t 6 rfl rfl rfl (do_assign rfl ?_)
  refine rw_t 7 rfl rfl rfl (do_assign rfl ?_)
  refine rw_nil ?_
  refine w_seq ?_
  refine w_region ?_
  refine rw_t 37 rfl rfl rfl (do_move rfl ?_)
  refine rw_t 38 rfl rfl rfl (do_move rfl ?_)
  refine rw_t 39 rfl rfl rfl (do_ix0 rfl rfl rfl (by first | omega | (simp only [ls] <;> omega)) ?_)
  refine rw_t 40 rfl rfl rfl (do_load_arr rfl rfl (by first | omega | (simp only [ls] <;> omega)) rfl ?_)
  refine rw_t 41 rfl rfl rfl (do_move rfl ?_)
  refine rw_t 42 rfl rfl rfl (do_bin rfl rfl rfl ?_)
  refine rw_t 43 rfl rfl rfl (do_ix0 rfl rfl rfl (by first | omega | (simp only [ls] <;> omega)) ?_)
  refine rw_u rfl rfl (n_store_arr (z := IntKind.i64.wrap ((l.getD ((tailOf c ((i : Nat) : Int)).toNat) 0) - (p.Res.getD i 0))) rfl rfl rfl (by first | omega | (simp only [ls] <;> omega)) rfl (by decide) rfl ?_)
  refine rw_nil ?_
  refine w_region ?_
  refine rw_t 44 rfl rfl rfl (do_move rfl ?_)
  refine rw_t 45 rfl rfl rfl (do_fieldaddr rfl ?_)
  refine rw_t 46 rfl rfl rfl (do_fieldaddr rfl ?_)
  refine rw_t 47 rfl rfl rfl (do_load_box rfl rfl rfl ?_)
  refine rw_t 48 rfl rfl rfl (do_move rfl ?_)
  refine rw_t 49 rfl rfl rfl (do_ixn rfl rfl rfl (by first | omega | (simp only [ls] <;> omega)) ?_)
  refine rw_t 50 rfl rfl rfl (do_load_arr rfl rfl (by first | omega | (simp only [ls] <;> omega)) rfl ?_)
  refine rw_t 51 rfl rfl rfl (do_ix0 rfl rfl rfl (by first | omega | (simp only [ls] <;> omega)) ?_)
  refine rw_t 52 rfl rfl rfl (do_load_arr rfl rfl (by first | omega | (simp only [ls] <;> omega)) rfl ?_)
  refine rw_t 53 rfl rfl rfl (do_move rfl ?_)
  refine rw_t 54 rfl rfl rfl (do_bin rfl rfl rfl ?_)
  refine rw_t 55 rfl rfl rfl (do_ix0 rfl rfl rfl (by first | omega | (simp only [ls] <;> omega)) ?_)
  refine rw_u rfl rfl (n_store_arr (z := IntKind.i64.wrap (((l.set ((tailOf c ((i : Nat) : Int)).toNat) (IntKind.i64.wrap ((l.getD ((tailOf c ((i : Nat) : Int)).toNat) 0) - (p.Res.getD i 0)))).getD ((c.Head.getD i 0).toNat) 0) + (p.Res.getD i 0))) rfl rfl rfl (by first | omega | (simp only [ls] <;> omega)) rfl (by decide) rfl ?_)
  refine rw_nil ?_
  refine w_region ?_
  refine rw_t 56 rfl rfl rfl (do_add rfl rfl (by omega) ?_)
  refine rw_t 18 rfl rfl rfl (do_move rfl ?_)
  refine rw_nil ?_
  refine ⟨(i + 1, _), [0, 1, 2, 3, 4, 5, 6, 7, 8, 9, 10], by dsimp only; omega, ⟨by dsimp only; omega, by dsimp only; rw [List.length_set, List.length_set]; exact g2, ex_step hc4 (by omega) (by omega) (by omega) (by omega) g3⟩, ⟨shR rfl, shR rfl, shR rfl, shR rfl, shR rfl, shR rfl, shR rfl, shR rfl, shR rfl, shR rfl, shR rfl, trivial⟩, rfl, pre_ok rfl, ⟨⟨_, rfl, rfl⟩, ⟨_, rfl, rfl⟩, ⟨_, rfl, rfl⟩, ⟨_, rfl, rfl⟩, ⟨_, rfl, rfl⟩, ⟨_, rfl, rfl⟩, trivial⟩⟩
end Go.Proofs

set_option linter.unusedVariables false
namespace Go.Proofs
open Go Go.Sx Go.RowKit
def exL (c : Csr) (res : List Int) : List Int := (List.range c.N.toNat).map fun (v : Nat) => exOf c res v
theorem least_low {c : Csr} {p : Pre} (hh : ∀ v, 0 ≤ p.H.getD v 0 ∧ p.H.getD v 0 ≤ 8192) (a0 : Int) (k : Nat) : ((if (leastK c p a0 k).2 = true then (leastK c p a0 k).1 else -1) < 0 ∨ p.H.getD (c.Head.getD (a0 + k).toNat 0).toNat 0 < (if (leastK c p a0 k).2 = true then (leastK c p a0 k).1 else -1)) ↔ (¬ (leastK c p a0 k).2 = true ∨ p.H.getD (c.Head.getD (a0 + k).toNat 0).toNat 0 < (leastK c p a0 k).1) := by
  have h1 := leastK_in (M := 8192) (by omega) hh (c := c) a0 k
  have h2 := hh (c.Head.getD (a0 + k).toNat 0).toNat
  by_cases hs : (leastK c p a0 k).2 = true
  · rw [if_pos hs]; simp only [hs, not_true, false_or]; omega
  · rw [if_neg hs]; simp [hs]
end Go.Proofs

set_option linter.unusedVariables false
namespace Go.Proofs
open Go Go.Sx Go.RowKit
theorem right_iff {c : Csr} {p : Pre} (hn : 2 ≤ c.N) : rightP c p ↔ ((((((c.N > 0 ∧ ((p.Res.length : Nat) : Int) = ((c.Head.length : Nat) : Int)) ∧ ((p.Ex.length : Nat) : Int) = c.N) ∧ ((p.H.length : Nat) : Int) = c.N) ∧ heightsP c p) ∧ pairsP c p.Res) ∧ excessP c p) := by
  unfold rightP lenP
  constructor
  · rintro ⟨⟨h1, h2, h3⟩, h4, h5, h6⟩
    exact ⟨⟨⟨⟨⟨⟨by omega, by omega⟩, by omega⟩, by omega⟩, h4⟩, h5⟩, h6⟩
  · rintro ⟨⟨⟨⟨⟨⟨h0, h1⟩, h2⟩, h3⟩, h4⟩, h5⟩, h6⟩
    exact ⟨⟨by omega, by omega, by omega⟩, h4, h5, h6⟩
def posB : Nat → Bool
  | 0 => false
  | _ + 1 => true
set_option maxHeartbeats 8000000 in
set_option synthInstance.maxHeartbeats 400000 in
set_option synthInstance.maxSize 2000 in
theorem t_Right (c : Csr) (p : Pre) (h : CsrT c) (hi : ∀ x ∈ p.Ex, In64 x) : Tri Try.prog 10 [.agg [.val (.int .i64 c.N), .val (.int .i64 c.S), .val (.int .i64 c.T), .slc 0 0 c.First.length none, .slc 1 0 c.Head.length none, .slc 2 0 c.Rev.length none, .slc 3 0 c.Cap.length none, .slc 4 0 c.Arc.length none, .slc 5 0 c.Back.length none], .agg [.slc 6 0 p.Res.length none, .slc 7 0 p.Ex.length none, .slc 8 0 p.H.length none]] [SO.ints false .i64 c.First, SO.ints false .i64 c.Head, SO.ints false .i64 c.Rev, SO.ints false .i64 c.Cap, SO.ints false .i64 c.Arc, SO.bools false c.Back, SO.ints false .i64 p.Res, SO.ints false .i64 p.Ex, SO.ints false .i64 p.H] (fun s H => s = .val (.bool (decide (rightP c p))) ∧ H = [SO.ints false .i64 c.First, SO.ints false .i64 c.Head, SO.ints false .i64 c.Rev, SO.ints false .i64 c.Cap, SO.ints false .i64 c.Arc, SO.bools false c.Back, SO.ints false .i64 p.Res, SO.ints false .i64 p.Ex, SO.ints false .i64 p.H]) := by
  refine tri_of_w (fn := Try.f10) Try.func10 rfl (by simp [Try.f10]) ?_
  intro ρ w hρ
  refine w_seq ?_
  have hn := h.n
  refine w_region ?_
  refine rw_t 2 rfl rfl rfl (n_box_agg (n := 9) rfl rfl ?_)
  refine rw_t 3 rfl rfl rfl (n_box_agg (n := 10) rfl rfl ?_)
  refine rw_t 4 rfl rfl rfl (do_assign rfl ?_)
  refine rw_nil ?_
  refine w_seq ?_
  refine w_region ?_
  refine rw_t 6 rfl rfl rfl (n_load_boxagg [_, _, _, _, _, _, _, _, _] rfl rfl (Nat.le_of_ble_eq_true rfl) rfl ?_)
  refine rw_t 7 rfl rfl rfl (n_load_boxagg [_, _, _] rfl rfl (Nat.le_of_ble_eq_true rfl) rfl ?_)
  refine rw_t 8 rfl rfl rfl (do_build (out := [_, _, _, _, _, _, _, _, _, _, _, _]) rfl rfl ?_)
  refine rw_t 5 rfl rfl rfl (n_alloc (n := 11) rfl ?_)
  refine rw_u rfl rfl (n_store_whole rfl rfl rfl rfl rfl rfl ?_)
  refine rw_nil ?_
  refine w_env [(2, .ptr 9 0 0), (3, .ptr 10 0 0), (5, .ptr 11 0 0)] ⟨⟨_, rfl, rfl⟩, ⟨_, rfl, rfl⟩, ⟨_, rfl, rfl⟩, trivial⟩ ?_
  refine w_seqB 4 (((((((c.N > 0 ∧ ((p.Res.length : Nat) : Int) = ((c.Head.length : Nat) : Int)) ∧ ((p.Ex.length : Nat) : Int) = c.N) ∧ ((p.H.length : Nat) : Int) = c.N) ∧ heightsP c p) ∧ pairsP c p.Res) ∧ excessP c p)) ?_ ?_
  · -- region 2
    refine w_draw mixed [0, 1, 3, 7, 15, 31, 63, 15, 143, 511, 1023, 2047, 4095, 8191, 16383, 4095, 36863, 131071, 262143, 524287, 1048575, 2097151, 4194303, 1048575, 9437183] [33554431, 67108863, 134217727, 268435455, 536870911, 1073741823, 2147483647, 4294967295, 8589934591, 17179869183, 34359738367, 68719476735, 137438953471, 274877906943, 549755813887] (by kernel_rfl) (by kernel_rfl) rfl rfl rfl (hle hρ rfl) ?_
    refine ra_q (j := 0) rfl rfl rfl rfl (do_fieldaddr rfl ⟨rfl, rfl⟩) (by rfl) ?_
    refine ra_q (j := 1) rfl rfl rfl rfl (do_load_box rfl rfl rfl ⟨rfl, rfl⟩) (by rfl) ?_
    refine ra_q (j := 2) rfl rfl rfl rfl (do_bin rfl rfl rfl ⟨rfl, rfl⟩) (by rfl) ?_
    refine ra_q (j := 3) rfl rfl rfl rfl (do_move rfl ⟨rfl, rfl⟩) (by rfl) ?_
    refine ra_case 12 rfl (fun g1 => ?_) (fun g1 => ?_)
    · have kg1 := g1
      try simp only [bs] at kg1
      refine ra_gt (j := 4) rfl rfl rfl rfl g1 rfl rfl rfl (do_fieldaddr rfl ⟨rfl, rfl⟩) (by rfl) ?_
      refine ra_gt (j := 5) rfl rfl rfl rfl g1 rfl rfl rfl (do_load_box rfl rfl rfl ⟨rfl, rfl⟩) (by rfl) ?_
      refine ra_gt (j := 6) rfl rfl rfl rfl g1 rfl rfl rfl (do_len rfl ⟨rfl, rfl⟩) (by rfl) ?_
      refine ra_gt (j := 7) rfl rfl rfl rfl g1 rfl rfl rfl (n_load_boxagg [_, _, _, _, _, _, _, _, _] rfl rfl (Nat.le_of_ble_eq_true rfl) rfl ⟨rfl, rfl⟩) (by rfl) ?_
      refine ra_gt (j := 8) rfl rfl rfl rfl g1 rfl rfl rfl (do_callR (X' := .val (.int .i64 ((c.Head.length : Nat) : Int))) rfl rfl (t_Len (c := c)) [0, 1, 2, 3, 4, 5] ⟨.inr ⟨_, rfl, srv⟩, .inr ⟨_, rfl, srv⟩, .inr ⟨_, rfl, srv⟩, .inr ⟨_, rfl, srv⟩, .inr ⟨_, rfl, srv⟩, .inr ⟨_, rfl, srv⟩, trivial⟩ rfl rfl rfl ⟨rfl, rfl⟩) (by rfl) ?_
      refine ra_gt (j := 9) rfl rfl rfl rfl g1 rfl rfl rfl (do_bin rfl rfl rfl ⟨rfl, rfl⟩) (by rfl) ?_
      refine ra_q (j := 10) rfl rfl rfl rfl (do_pick_t rfl g1 rfl ⟨rfl, rfl⟩) (by rfl) ?_
      refine ra_q (j := 11) rfl rfl rfl rfl (do_move rfl ⟨rfl, rfl⟩) (by rfl) ?_
      refine ra_case 20 rfl (fun g2 => ?_) (fun g2 => ?_)
      · have kg2 := g2
        try simp only [bs] at kg2
        refine ra_gt (j := 12) rfl rfl rfl rfl g2 rfl rfl rfl (do_fieldaddr rfl ⟨rfl, rfl⟩) (by rfl) ?_
        refine ra_gt (j := 13) rfl rfl rfl rfl g2 rfl rfl rfl (do_load_box rfl rfl rfl ⟨rfl, rfl⟩) (by rfl) ?_
        refine ra_gt (j := 14) rfl rfl rfl rfl g2 rfl rfl rfl (do_len rfl ⟨rfl, rfl⟩) (by rfl) ?_
        refine ra_gt (j := 15) rfl rfl rfl rfl g2 rfl rfl rfl (do_fieldaddr rfl ⟨rfl, rfl⟩) (by rfl) ?_
        refine ra_gt (j := 16) rfl rfl rfl rfl g2 rfl rfl rfl (do_load_box rfl rfl rfl ⟨rfl, rfl⟩) (by rfl) ?_
        refine ra_gt (j := 17) rfl rfl rfl rfl g2 rfl rfl rfl (do_bin rfl rfl rfl ⟨rfl, rfl⟩) (by rfl) ?_
        refine ra_q (j := 18) rfl rfl rfl rfl (do_pick_t rfl g2 rfl ⟨rfl, rfl⟩) (by rfl) ?_
        refine ra_q (j := 19) rfl rfl rfl rfl (do_move rfl ⟨rfl, rfl⟩) (by rfl) ?_
        refine ra_case 28 rfl (fun g3 => ?_) (fun g3 => ?_)
        · have kg3 := g3
          try simp only [bs] at kg3
          refine ra_gt (j := 20) rfl rfl rfl rfl g3 rfl rfl rfl (do_fieldaddr rfl ⟨rfl, rfl⟩) (by rfl) ?_
          refine ra_gt (j := 21) rfl rfl rfl rfl g3 rfl rfl rfl (do_load_box rfl rfl rfl ⟨rfl, rfl⟩) (by rfl) ?_
          refine ra_gt (j := 22) rfl rfl rfl rfl g3 rfl rfl rfl (do_len rfl ⟨rfl, rfl⟩) (by rfl) ?_
          refine ra_gt (j := 23) rfl rfl rfl rfl g3 rfl rfl rfl (do_fieldaddr rfl ⟨rfl, rfl⟩) (by rfl) ?_
          refine ra_gt (j := 24) rfl rfl rfl rfl g3 rfl rfl rfl (do_load_box rfl rfl rfl ⟨rfl, rfl⟩) (by rfl) ?_
          refine n_done ?_
          refine rw_gt 34 19 28 true rfl rfl rfl rfl rfl rfl g3 (do_bin rfl rfl rfl ?_)
          refine rw_t 35 rfl rfl rfl (do_pick_t rfl g3 rfl ?_)
          refine rw_t 36 rfl rfl rfl (do_move rfl ?_)
          refine rw_case 36 rfl (fun g4 => ?_) (fun g4 => ?_)
          · have kg4 := g4
            try simp only [bs] at kg4
            refine rw_gt 37 27 36 true rfl rfl rfl rfl rfl rfl g4 (n_load_boxagg [_, _, _, _, _, _, _, _, _, _, _, _] rfl rfl (Nat.le_of_ble_eq_true rfl) rfl ?_)
            refine rw_gt 38 27 36 true rfl rfl rfl rfl rfl rfl g4 (do_callR (X' := .val (.bool (decide (heightsP c p)))) rfl rfl (t_heights (c := c) (p := p) (h.toCsrOK) (⟨by omega, by omega, by omega⟩)) [0, 1, 2, 3, 4, 5, 6, 7, 8] ⟨.inr ⟨_, rfl, srv⟩, .inr ⟨_, rfl, srv⟩, .inr ⟨_, rfl, srv⟩, .inr ⟨_, rfl, srv⟩, .inr ⟨_, rfl, srv⟩, .inr ⟨_, rfl, srv⟩, .inr ⟨_, rfl, srv⟩, .inr ⟨_, rfl, srv⟩, .inr ⟨_, rfl, srv⟩, trivial⟩ rfl rfl rfl ?_)
            refine rw_t 39 rfl rfl rfl (do_pick_t rfl g4 rfl ?_)
            refine rw_t 40 rfl rfl rfl (do_move rfl ?_)
            refine rw_case 40 rfl (fun g5 => ?_) (fun g5 => ?_)
            · have kg5 := g5
              try simp only [bs] at kg5
              refine rw_gt 41 31 40 true rfl rfl rfl rfl rfl rfl g5 (n_load_boxagg [_, _, _, _, _, _, _, _, _, _, _, _] rfl rfl (Nat.le_of_ble_eq_true rfl) rfl ?_)
              refine rw_gt 42 31 40 true rfl rfl rfl rfl rfl rfl g5 (do_callR (X' := .val (.bool (decide (pairsP c p.Res)))) rfl rfl (t_pairs (c := c) (p := p) (h.toCsrOK) (⟨by omega, by omega, by omega⟩)) [0, 1, 2, 3, 4, 5, 6, 7, 8] ⟨.inr ⟨_, rfl, srv⟩, .inr ⟨_, rfl, srv⟩, .inr ⟨_, rfl, srv⟩, .inr ⟨_, rfl, srv⟩, .inr ⟨_, rfl, srv⟩, .inr ⟨_, rfl, srv⟩, .inr ⟨_, rfl, srv⟩, .inr ⟨_, rfl, srv⟩, .inr ⟨_, rfl, srv⟩, trivial⟩ rfl rfl rfl ?_)
              refine rw_t 43 rfl rfl rfl (do_pick_t rfl g5 rfl ?_)
              refine rw_t 44 rfl rfl rfl (do_move rfl ?_)
              refine rw_case 44 rfl (fun g6 => ?_) (fun g6 => ?_)
              · have kg6 := g6
                try simp only [bs] at kg6
                refine rw_gt 45 35 44 true rfl rfl rfl rfl rfl rfl g6 (n_load_boxagg [_, _, _, _, _, _, _, _, _, _, _, _] rfl rfl (Nat.le_of_ble_eq_true rfl) rfl ?_)
                refine rw_gt 46 35 44 true rfl rfl rfl rfl rfl rfl g6 (do_callR (X' := .val (.bool (decide (excessP c p)))) rfl rfl (t_excess (c := c) (p := p) (h) (⟨by omega, by omega, by omega⟩) (by assumption) (hi)) [0, 1, 2, 3, 4, 5, 6, 7, 8] ⟨.inr ⟨_, rfl, srv⟩, .inr ⟨_, rfl, srv⟩, .inr ⟨_, rfl, srv⟩, .inr ⟨_, rfl, srv⟩, .inr ⟨_, rfl, srv⟩, .inr ⟨_, rfl, srv⟩, .inr ⟨_, rfl, srv⟩, .inr ⟨_, rfl, srv⟩, .inr ⟨_, rfl, srv⟩, trivial⟩ rfl rfl rfl ?_)
                refine rw_t 47 rfl rfl rfl (do_pick_t rfl g6 rfl ?_)
                refine rw_t 4 rfl rfl rfl (do_assign rfl ?_)
                refine rw_nil ?_
                refine ⟨rfl, ⟨_, rfl, by first | (simp; done) | (simp only [bs]; omega) | (simp [*]; done) | (simp; omega) | (constructor <;> intro h <;> simp_all <;> omega)⟩, ?_⟩
                repeat (refine ⟨⟨_, rfl, rfl⟩, ?_⟩)
                exact trivial
              · have kg6 := g6
                try simp only [bs] at kg6
                refine rw_gf 45 35 44 true rfl rfl rfl rfl rfl rfl (by rw [g6]; decide) ?_
                refine rw_gf 46 35 44 true rfl rfl rfl rfl rfl rfl (by rw [g6]; decide) ?_
                refine rw_t 47 rfl rfl rfl (do_pick_f rfl g6 rfl ?_)
                refine rw_t 4 rfl rfl rfl (do_assign rfl ?_)
                refine rw_nil ?_
                refine ⟨rfl, ⟨_, rfl, by first | (simp; done) | (simp only [bs]; omega) | (simp [*]; done) | (simp; omega) | (constructor <;> intro h <;> simp_all <;> omega)⟩, ?_⟩
                repeat (refine ⟨⟨_, rfl, rfl⟩, ?_⟩)
                exact trivial
            · have kg5 := g5
              try simp only [bs] at kg5
              refine rw_gf 41 31 40 true rfl rfl rfl rfl rfl rfl (by rw [g5]; decide) ?_
              refine rw_gf 42 31 40 true rfl rfl rfl rfl rfl rfl (by rw [g5]; decide) ?_
              refine rw_t 43 rfl rfl rfl (do_pick_f rfl g5 rfl ?_)
              refine rw_t 44 rfl rfl rfl (do_move rfl ?_)
              refine rw_gf 45 35 44 true rfl rfl rfl rfl rfl rfl (by decide) ?_
              refine rw_gf 46 35 44 true rfl rfl rfl rfl rfl rfl (by decide) ?_
              refine rw_t 47 rfl rfl rfl (do_pick_f rfl rfl rfl ?_)
              refine rw_t 4 rfl rfl rfl (do_assign rfl ?_)
              refine rw_nil ?_
              refine ⟨rfl, ⟨_, rfl, by first | (simp; done) | (simp only [bs]; omega) | (simp [*]; done) | (simp; omega) | (constructor <;> intro h <;> simp_all <;> omega)⟩, ?_⟩
              repeat (refine ⟨⟨_, rfl, rfl⟩, ?_⟩)
              exact trivial
          · have kg4 := g4
            try simp only [bs] at kg4
            refine rw_gf 37 27 36 true rfl rfl rfl rfl rfl rfl (by rw [g4]; decide) ?_
            refine rw_gf 38 27 36 true rfl rfl rfl rfl rfl rfl (by rw [g4]; decide) ?_
            refine rw_t 39 rfl rfl rfl (do_pick_f rfl g4 rfl ?_)
            refine rw_t 40 rfl rfl rfl (do_move rfl ?_)
            refine rw_gf 41 31 40 true rfl rfl rfl rfl rfl rfl (by decide) ?_
            refine rw_gf 42 31 40 true rfl rfl rfl rfl rfl rfl (by decide) ?_
            refine rw_t 43 rfl rfl rfl (do_pick_f rfl rfl rfl ?_)
            refine rw_t 44 rfl rfl rfl (do_move rfl ?_)
            refine rw_gf 45 35 44 true rfl rfl rfl rfl rfl rfl (by decide) ?_
            refine rw_gf 46 35 44 true rfl rfl rfl rfl rfl rfl (by decide) ?_
            refine rw_t 47 rfl rfl rfl (do_pick_f rfl rfl rfl ?_)
            refine rw_t 4 rfl rfl rfl (do_assign rfl ?_)
            refine rw_nil ?_
            refine ⟨rfl, ⟨_, rfl, by first | (simp; done) | (simp only [bs]; omega) | (simp [*]; done) | (simp; omega) | (constructor <;> intro h <;> simp_all <;> omega)⟩, ?_⟩
            repeat (refine ⟨⟨_, rfl, rfl⟩, ?_⟩)
            exact trivial
        · have kg3 := g3
          try simp only [bs] at kg3
          refine ra_gf (j := 20) rfl rfl rfl rfl (by rw [g3]; decide) rfl rfl rfl ?_
          refine ra_gf (j := 21) rfl rfl rfl rfl (by rw [g3]; decide) rfl rfl rfl ?_
          refine ra_gf (j := 22) rfl rfl rfl rfl (by rw [g3]; decide) rfl rfl rfl ?_
          refine ra_gf (j := 23) rfl rfl rfl rfl (by rw [g3]; decide) rfl rfl rfl ?_
          refine ra_gf (j := 24) rfl rfl rfl rfl (by rw [g3]; decide) rfl rfl rfl ?_
          refine n_done ?_
          refine rw_gf 34 19 28 true rfl rfl rfl rfl rfl rfl (by rw [g3]; decide) ?_
          refine rw_t 35 rfl rfl rfl (do_pick_f rfl g3 rfl ?_)
          refine rw_t 36 rfl rfl rfl (do_move rfl ?_)
          refine rw_gf 37 27 36 true rfl rfl rfl rfl rfl rfl (by decide) ?_
          refine rw_gf 38 27 36 true rfl rfl rfl rfl rfl rfl (by decide) ?_
          refine rw_t 39 rfl rfl rfl (do_pick_f rfl rfl rfl ?_)
          refine rw_t 40 rfl rfl rfl (do_move rfl ?_)
          refine rw_gf 41 31 40 true rfl rfl rfl rfl rfl rfl (by decide) ?_
          refine rw_gf 42 31 40 true rfl rfl rfl rfl rfl rfl (by decide) ?_
          refine rw_t 43 rfl rfl rfl (do_pick_f rfl rfl rfl ?_)
          refine rw_t 44 rfl rfl rfl (do_move rfl ?_)
          refine rw_gf 45 35 44 true rfl rfl rfl rfl rfl rfl (by decide) ?_
          refine rw_gf 46 35 44 true rfl rfl rfl rfl rfl rfl (by decide) ?_
          refine rw_t 47 rfl rfl rfl (do_pick_f rfl rfl rfl ?_)
          refine rw_t 4 rfl rfl rfl (do_assign rfl ?_)
          refine rw_nil ?_
          refine ⟨rfl, ⟨_, rfl, by first | (simp; done) | (simp only [bs]; omega) | (simp [*]; done) | (simp; omega) | (constructor <;> intro h <;> simp_all <;> omega)⟩, ?_⟩
          repeat (refine ⟨⟨_, rfl, rfl⟩, ?_⟩)
          exact trivial
      · have kg2 := g2
        try simp only [bs] at kg2
        refine ra_gf (j := 12) rfl rfl rfl rfl (by rw [g2]; decide) rfl rfl rfl ?_
        refine ra_gf (j := 13) rfl rfl rfl rfl (by rw [g2]; decide) rfl rfl rfl ?_
        refine ra_gf (j := 14) rfl rfl rfl rfl (by rw [g2]; decide) rfl rfl rfl ?_
        refine ra_gf (j := 15) rfl rfl rfl rfl (by rw [g2]; decide) rfl rfl rfl ?_
        refine ra_gf (j := 16) rfl rfl rfl rfl (by rw [g2]; decide) rfl rfl rfl ?_
        refine ra_gf (j := 17) rfl rfl rfl rfl (by rw [g2]; decide) rfl rfl rfl ?_
        refine ra_q (j := 18) rfl rfl rfl rfl (do_pick_f rfl g2 rfl ⟨rfl, rfl⟩) (by rfl) ?_
        refine ra_q (j := 19) rfl rfl rfl rfl (do_move rfl ⟨rfl, rfl⟩) (by rfl) ?_
        refine ra_gf (j := 20) rfl rfl rfl rfl (by decide) rfl rfl rfl ?_
        refine ra_gf (j := 21) rfl rfl rfl rfl (by decide) rfl rfl rfl ?_
        refine ra_gf (j := 22) rfl rfl rfl rfl (by decide) rfl rfl rfl ?_
        refine ra_gf (j := 23) rfl rfl rfl rfl (by decide) rfl rfl rfl ?_
        refine ra_gf (j := 24) rfl rfl rfl rfl (by decide) rfl rfl rfl ?_
        refine n_done ?_
        refine rw_gf 34 19 28 true rfl rfl rfl rfl rfl rfl (by decide) ?_
        refine rw_t 35 rfl rfl rfl (do_pick_f rfl rfl rfl ?_)
        refine rw_t 36 rfl rfl rfl (do_move rfl ?_)
        refine rw_gf 37 27 36 true rfl rfl rfl rfl rfl rfl (by decide) ?_
        refine rw_gf 38 27 36 true rfl rfl rfl rfl rfl rfl (by decide) ?_
        refine rw_t 39 rfl rfl rfl (do_pick_f rfl rfl rfl ?_)
        refine rw_t 40 rfl rfl rfl (do_move rfl ?_)
        refine rw_gf 41 31 40 true rfl rfl rfl rfl rfl rfl (by decide) ?_
        refine rw_gf 42 31 40 true rfl rfl rfl rfl rfl rfl (by decide) ?_
        refine rw_t 43 rfl rfl rfl (do_pick_f rfl rfl rfl ?_)
        refine rw_t 44 rfl rfl rfl (do_move rfl ?_)
        refine rw_gf 45 35 44 true rfl rfl rfl rfl rfl rfl (by decide) ?_
        refine rw_gf 46 35 44 true rfl rfl rfl rfl rfl rfl (by decide) ?_
        refine rw_t 47 rfl rfl rfl (do_pick_f rfl rfl rfl ?_)
        refine rw_t 4 rfl rfl rfl (do_assign rfl ?_)
        refine rw_nil ?_
        refine ⟨rfl, ⟨_, rfl, by first | (simp; done) | (simp only [bs]; omega) | (simp [*]; done) | (simp; omega) | (constructor <;> intro h <;> simp_all <;> omega)⟩, ?_⟩
        repeat (refine ⟨⟨_, rfl, rfl⟩, ?_⟩)
        exact trivial
    · have kg1 := g1
      try simp only [bs] at kg1
      refine ra_gf (j := 4) rfl rfl rfl rfl (by rw [g1]; decide) rfl rfl rfl ?_
      refine ra_gf (j := 5) rfl rfl rfl rfl (by rw [g1]; decide) rfl rfl rfl ?_
      refine ra_gf (j := 6) rfl rfl rfl rfl (by rw [g1]; decide) rfl rfl rfl ?_
      refine ra_gf (j := 7) rfl rfl rfl rfl (by rw [g1]; decide) rfl rfl rfl ?_
      refine ra_gf (j := 8) rfl rfl rfl rfl (by rw [g1]; decide) rfl rfl rfl ?_
      refine ra_gf (j := 9) rfl rfl rfl rfl (by rw [g1]; decide) rfl rfl rfl ?_
      refine ra_q (j := 10) rfl rfl rfl rfl (do_pick_f rfl g1 rfl ⟨rfl, rfl⟩) (by rfl) ?_
      refine ra_q (j := 11) rfl rfl rfl rfl (do_move rfl ⟨rfl, rfl⟩) (by rfl) ?_
      refine ra_gf (j := 12) rfl rfl rfl rfl (by decide) rfl rfl rfl ?_
      refine ra_gf (j := 13) rfl rfl rfl rfl (by decide) rfl rfl rfl ?_
      refine ra_gf (j := 14) rfl rfl rfl rfl (by decide) rfl rfl rfl ?_
      refine ra_gf (j := 15) rfl rfl rfl rfl (by decide) rfl rfl rfl ?_
      refine ra_gf (j := 16) rfl rfl rfl rfl (by decide) rfl rfl rfl ?_
      refine ra_gf (j := 17) rfl rfl rfl rfl (by decide) rfl rfl rfl ?_
      refine ra_q (j := 18) rfl rfl rfl rfl (do_pick_f rfl rfl rfl ⟨rfl, rfl⟩) (by rfl) ?_
      refine ra_q (j := 19) rfl rfl rfl rfl (do_move rfl ⟨rfl, rfl⟩) (by rfl) ?_
      refine ra_gf (j := 20) rfl rfl rfl rfl (by decide) rfl rfl rfl ?_
      refine ra_gf (j := 21) rfl rfl rfl rfl (by decide) rfl rfl rfl ?_
      refine ra_gf (j := 22) rfl rfl rfl rfl (by decide) rfl rfl rfl ?_
      refine ra_gf (j := 23) rfl rfl rfl rfl (by decide) rfl rfl rfl ?_
      refine ra_gf (j := 24) rfl rfl rfl rfl (by decide) rfl rfl rfl ?_
      refine n_done ?_
      refine rw_gf 34 19 28 true rfl rfl rfl rfl rfl rfl (by decide) ?_
      refine rw_t 35 rfl rfl rfl (do_pick_f rfl rfl rfl ?_)
      refine rw_t 36 rfl rfl rfl (do_move rfl ?_)
      refine rw_gf 37 27 36 true rfl rfl rfl rfl rfl rfl (by decide) ?_
      refine rw_gf 38 27 36 true rfl rfl rfl rfl rfl rfl (by decide) ?_
      refine rw_t 39 rfl rfl rfl (do_pick_f rfl rfl rfl ?_)
      refine rw_t 40 rfl rfl rfl (do_move rfl ?_)
      refine rw_gf 41 31 40 true rfl rfl rfl rfl rfl rfl (by decide) ?_
      refine rw_gf 42 31 40 true rfl rfl rfl rfl rfl rfl (by decide) ?_
      refine rw_t 43 rfl rfl rfl (do_pick_f rfl rfl rfl ?_)
      refine rw_t 44 rfl rfl rfl (do_move rfl ?_)
      refine rw_gf 45 35 44 true rfl rfl rfl rfl rfl rfl (by decide) ?_
      refine rw_gf 46 35 44 true rfl rfl rfl rfl rfl rfl (by decide) ?_
      refine rw_t 47 rfl rfl rfl (do_pick_f rfl rfl rfl ?_)
      refine rw_t 4 rfl rfl rfl (do_assign rfl ?_)
      refine rw_nil ?_
      refine ⟨rfl, ⟨_, rfl, by first | (simp; done) | (simp only [bs]; omega) | (simp [*]; done) | (simp; omega) | (constructor <;> intro h <;> simp_all <;> omega)⟩, ?_⟩
      repeat (refine ⟨⟨_, rfl, rfl⟩, ?_⟩)
      exact trivial
  intro b1 hb1
  refine w_ret ?_
  exact ret_eq (.inl rfl) (.cons (res_tmp rfl) .nil) [0, 1, 2, 3, 4, 5, 6, 7, 8] (Eq.symm (bool_congr (dec_of hb1 (right_iff hn.1)))) ⟨shR rfl, shR rfl, shR rfl, shR rfl, shR rfl, shR rfl, shR rfl, shR rfl, shR rfl, trivial⟩ rfl (pre_ok rfl)
end Go.Proofs

set_option linter.unusedVariables false
namespace Go.Proofs
open Go Go.Sx Go.RowKit
def sameP (a b : Pre) : Prop := a.Res = b.Res ∧ a.Ex = b.Ex ∧ a.H = b.H
instance (a b : Pre) : Decidable (sameP a b) := by unfold sameP; infer_instance
end Go.Proofs

set_option linter.unusedVariables false
namespace Go.Proofs
open Go Go.Sx Go.RowKit
def lowK (c : Csr) (p : Pre) (a0 : Int) (k : Nat) : Int := if (leastK c p a0 k).2 = true then (leastK c p a0 k).1 else -1
set_option maxHeartbeats 8000000 in
set_option synthInstance.maxHeartbeats 400000 in
set_option synthInstance.maxSize 2000 in
theorem t_same (a b : Pre) (hl : a.Res.length < 4611686018427387904 ∧ a.Ex.length < 4611686018427387904 ∧ a.H.length < 4611686018427387904) : Tri Try.prog 15 [.agg [.slc 0 0 a.Res.length none, .slc 1 0 a.Ex.length none, .slc 2 0 a.H.length none], .agg [.slc 3 0 b.Res.length none, .slc 4 0 b.Ex.length none, .slc 5 0 b.H.length none]] [SO.ints false .i64 a.Res, SO.ints false .i64 a.Ex, SO.ints false .i64 a.H, SO.ints false .i64 b.Res, SO.ints false .i64 b.Ex, SO.ints false .i64 b.H] (fun s H => s = .val (.bool (decide (sameP a b))) ∧ H = [SO.ints false .i64 a.Res, SO.ints false .i64 a.Ex, SO.ints false .i64 a.H, SO.ints false .i64 b.Res, SO.ints false .i64 b.Ex, SO.ints false .i64 b.H]) := by
  refine tri_of_w (fn := Try.f15) Try.func15 rfl (by simp [Try.f15]) ?_
  intro ρ w hρ
  refine w_seq ?_
  refine w_region ?_
  refine rw_t 2 rfl rfl rfl (n_box_agg (n := 6) rfl rfl ?_)
  refine rw_t 3 rfl rfl rfl (n_box_agg (n := 7) rfl rfl ?_)
  refine rw_t 4 rfl rfl rfl (do_assign rfl ?_)
  refine rw_nil ?_
  refine w_env [(2, .ptr 6 0 0), (3, .ptr 7 0 0)] ⟨⟨_, rfl, rfl⟩, ⟨_, rfl, rfl⟩, trivial⟩ ?_
  refine w_seqB 4 (((a.Res = b.Res ∧ a.Ex = b.Ex) ∧ a.H = b.H)) ?_ ?_
  · -- region 1
    refine w_region ?_
    refine rw_t 5 rfl rfl rfl (do_fieldaddr rfl ?_)
    refine rw_t 6 rfl rfl rfl (do_load_box rfl rfl rfl ?_)
    refine rw_t 7 rfl rfl rfl (do_fieldaddr rfl ?_)
    refine rw_t 8 rfl rfl rfl (do_load_box rfl rfl rfl ?_)
    refine rw_t 9 rfl rfl rfl (do_callR (X' := .val (.bool (decide (a.Res = b.Res)))) rfl rfl (t_Longs (a := a.Res) (b := b.Res) (by omega)) [0, 3] ⟨.inr ⟨_, rfl, srv⟩, .inr ⟨_, rfl, srv⟩, trivial⟩ rfl rfl rfl ?_)
    refine rw_t 10 rfl rfl rfl (do_move rfl ?_)
    refine rw_case 10 rfl (fun g1 => ?_) (fun g1 => ?_)
    · have kg1 := g1
      try simp only [bs] at kg1
      refine rw_gt 11 5 10 true rfl rfl rfl rfl rfl rfl g1 (do_fieldaddr rfl ?_)
      refine rw_gt 12 5 10 true rfl rfl rfl rfl rfl rfl g1 (do_load_box rfl rfl rfl ?_)
      refine rw_gt 13 5 10 true rfl rfl rfl rfl rfl rfl g1 (do_fieldaddr rfl ?_)
      refine rw_gt 14 5 10 true rfl rfl rfl rfl rfl rfl g1 (do_load_box rfl rfl rfl ?_)
      refine rw_gt 15 5 10 true rfl rfl rfl rfl rfl rfl g1 (do_callR (X' := .val (.bool (decide (a.Ex = b.Ex)))) rfl rfl (t_Longs (a := a.Ex) (b := b.Ex) (by omega)) [1, 4] ⟨.inr ⟨_, rfl, srv⟩, .inr ⟨_, rfl, srv⟩, trivial⟩ rfl rfl rfl ?_)
      refine rw_t 16 rfl rfl rfl (do_pick_t rfl g1 rfl ?_)
      refine rw_t 17 rfl rfl rfl (do_move rfl ?_)
      refine rw_case 17 rfl (fun g2 => ?_) (fun g2 => ?_)
      · have kg2 := g2
        try simp only [bs] at kg2
        refine rw_gt 18 12 17 true rfl rfl rfl rfl rfl rfl g2 (do_fieldaddr rfl ?_)
        refine rw_gt 19 12 17 true rfl rfl rfl rfl rfl rfl g2 (do_load_box rfl rfl rfl ?_)
        refine rw_gt 20 12 17 true rfl rfl rfl rfl rfl rfl g2 (do_fieldaddr rfl ?_)
        refine rw_gt 21 12 17 true rfl rfl rfl rfl rfl rfl g2 (do_load_box rfl rfl rfl ?_)
        refine rw_gt 22 12 17 true rfl rfl rfl rfl rfl rfl g2 (do_callR (X' := .val (.bool (decide (a.H = b.H)))) rfl rfl (t_Ints (a := a.H) (b := b.H) (by omega)) [2, 5] ⟨.inr ⟨_, rfl, srv⟩, .inr ⟨_, rfl, srv⟩, trivial⟩ rfl rfl rfl ?_)
        refine rw_t 23 rfl rfl rfl (do_pick_t rfl g2 rfl ?_)
        refine rw_t 4 rfl rfl rfl (do_assign rfl ?_)
        refine rw_nil ?_
        refine ⟨rfl, ⟨_, rfl, by first | (simp; done) | (simp only [bs]; omega) | (simp [*]; done) | (simp; omega) | (constructor <;> intro h <;> simp_all <;> omega)⟩, ?_⟩
        repeat (refine ⟨⟨_, rfl, rfl⟩, ?_⟩)
        exact trivial
      · have kg2 := g2
        try simp only [bs] at kg2
        refine rw_gf 18 12 17 true rfl rfl rfl rfl rfl rfl (by rw [g2]; decide) ?_
        refine rw_gf 19 12 17 true rfl rfl rfl rfl rfl rfl (by rw [g2]; decide) ?_
        refine rw_gf 20 12 17 true rfl rfl rfl rfl rfl rfl (by rw [g2]; decide) ?_
        refine rw_gf 21 12 17 true rfl rfl rfl rfl rfl rfl (by rw [g2]; decide) ?_
        refine rw_gf 22 12 17 true rfl rfl rfl rfl rfl rfl (by rw [g2]; decide) ?_
        refine rw_t 23 rfl rfl rfl (do_pick_f rfl g2 rfl ?_)
        refine rw_t 4 rfl rfl rfl (do_assign rfl ?_)
        refine rw_nil ?_
        refine ⟨rfl, ⟨_, rfl, by first | (simp; done) | (simp only [bs]; omega) | (simp [*]; done) | (simp; omega) | (constructor <;> intro h <;> simp_all <;> omega)⟩, ?_⟩
        repeat (refine ⟨⟨_, rfl, rfl⟩, ?_⟩)
        exact trivial
    · have kg1 := g1
      try simp only [bs] at kg1
      refine rw_gf 11 5 10 true rfl rfl rfl rfl rfl rfl (by rw [g1]; decide) ?_
      refine rw_gf 12 5 10 true rfl rfl rfl rfl rfl rfl (by rw [g1]; decide) ?_
      refine rw_gf 13 5 10 true rfl rfl rfl rfl rfl rfl (by rw [g1]; decide) ?_
      refine rw_gf 14 5 10 true rfl rfl rfl rfl rfl rfl (by rw [g1]; decide) ?_
      refine rw_gf 15 5 10 true rfl rfl rfl rfl rfl rfl (by rw [g1]; decide) ?_
      refine rw_t 16 rfl rfl rfl (do_pick_f rfl g1 rfl ?_)
      refine rw_t 17 rfl rfl rfl (do_move rfl ?_)
      refine rw_gf 18 12 17 true rfl rfl rfl rfl rfl rfl (by decide) ?_
      refine rw_gf 19 12 17 true rfl rfl rfl rfl rfl rfl (by decide) ?_
      refine rw_gf 20 12 17 true rfl rfl rfl rfl rfl rfl (by decide) ?_
      refine rw_gf 21 12 17 true rfl rfl rfl rfl rfl rfl (by decide) ?_
      refine rw_gf 22 12 17 true rfl rfl rfl rfl rfl rfl (by decide) ?_
      refine rw_t 23 rfl rfl rfl (do_pick_f rfl rfl rfl ?_)
      refine rw_t 4 rfl rfl rfl (do_assign rfl ?_)
      refine rw_nil ?_
      refine ⟨rfl, ⟨_, rfl, by first | (simp; done) | (simp only [bs]; omega) | (simp [*]; done) | (simp; omega) | (constructor <;> intro h <;> simp_all <;> omega)⟩, ?_⟩
      repeat (refine ⟨⟨_, rfl, rfl⟩, ?_⟩)
      exact trivial
  intro b1 hb1
  refine w_ret ?_
  exact ret_eq (.inl rfl) (.cons (res_tmp rfl) .nil) [0, 1, 2, 3, 4, 5] (Eq.symm (bool_congr (dec_of hb1 (by unfold sameP; rw [and_assoc])))) ⟨shR rfl, shR rfl, shR rfl, shR rfl, shR rfl, shR rfl, trivial⟩ rfl (pre_ok rfl)
end Go.Proofs

set_option linter.unusedVariables false
namespace Go.Proofs
open Go Go.Sx Go.RowKit
/-- A small net: what the statements make of any. -/
structure Small (n : Net) : Prop extends NetOK n where
  sz : n.N ≤ 64 ∧ n.arcs.length ≤ 64
  prod : n.N.toNat * (2 * n.arcs.length) ≤ 2048
  caps : ∀ a ∈ n.arcs, a.cap ≤ 1125899906842624
theorem first_at (n : Net) {v : Nat} (hv : v ≤ n.N.toNat) : (makeC n).First.getD v 0 = ((rowsOf n v).length : Int) := by
  show (firstOf n n.N.toNat ++ [((rows n).length : Int)]).getD v 0 = _
  have hl := firstOf_len n n.N.toNat
  simp only [List.getD]
  rcases Nat.eq_or_lt_of_le hv with h | h
  · subst h
    rw [List.getElem?_append_right (by omega), hl, Nat.sub_self]; rfl
  · rw [List.getElem?_append_left (by omega)]
    simp [firstOf, h]
theorem rowsOf_pre (n : Net) {v w : Nat} (h : v ≤ w) : rowsOf n v <+: rowsOf n w := by
  induction w with
  | zero => have : v = 0 := by omega
            subst this; exact List.prefix_refl _
  | succ w ih =>
    rcases Nat.eq_or_lt_of_le h with h1 | h1
    · subst h1; exact List.prefix_refl _
    · exact (ih (by omega)).trans (by rw [rowsOf_next]; exact List.prefix_append _ _)
theorem rowsOf_mono (n : Net) {v w : Nat} (h : v ≤ w) : (rowsOf n v).length ≤ (rowsOf n w).length := (rowsOf_pre n h).length_le
theorem getD_pre {α : Type} {l m : List α} (h : l <+: m) (d : α) {i : Nat} (hi : i < l.length) : m.getD i d = l.getD i d := by
  obtain ⟨t, rfl⟩ := h
  simp only [List.getD, List.getElem?_append_left hi]
theorem make_ok {n : Net} (h : Small n) : CsrOK (makeC n) where
  toCsrLen := make_len h.toNetOK h.sz
  s := h.s
  t := h.t
  st := h.st
  mono := fun v hv => by
    have hv' : v < n.N.toNat := hv
    rw [first_at n (by omega), first_at n (by omega), make_head]
    have h1 := rowsOf_mono n (show v ≤ v + 1 by omega)
    have h2 : (rowsOf n (v + 1)).length ≤ (rows n).length := rowsOf_mono n (show v + 1 ≤ n.N.toNat by omega)
    omega
  hd := fun a ha => by
    rw [make_head] at ha
    show 0 ≤ ((rows n).map Row.hd).getD a 0 ∧ ((rows n).map Row.hd).getD a 0 < n.N
    rw [getD_hd]
    obtain ⟨k, hk, hne, hc⟩ := row_cases h.toNetOK ha
    have := h.arc hk
    rcases hc with e | e <;> rw [e] <;> dsimp only <;> omega
  rv := fun a ha => by
    rw [make_head] at ha ⊢
    obtain ⟨j, h1, h2, h3, h4, h5⟩ := rev_spec h.toNetOK ha
    rw [h3]; omega
  cp := fun a ha => by
    rw [make_head] at ha
    obtain ⟨k, hk, hne, hc⟩ := row_cases h.toNetOK ha
    have := h.arc hk
    have h1 := cap_le h.toNetOK hk
    have harc : ((rows n).getD a Row.none).arc = (k : Int) := by rcases hc with e | e <;> rw [e]
    rw [most_spec h.toNetOK ha harc]
    refine ⟨?_, by omega, h1⟩
    show 0 ≤ ((rows n).map Row.cap).getD a 0
    rw [getD_cap]
    rcases hc with e | e <;> rw [e] <;> dsimp only <;> omega
theorem make_t {n : Net} (h : Small n) : CsrT (makeC n) where
  toCsrOK := make_ok h
  f0 := by rw [first_at n (by omega)]; rfl
  fN := by
    have : (makeC n).N.toNat = n.N.toNat := rfl
    rw [this, first_at n (Nat.le_refl _), make_head]; rfl
  small := by
    rw [make_head]
    exact Nat.le_trans (rowsOf_len n n.N.toNat) h.prod
  capv := fun a ha => by
    rw [make_head] at ha
    obtain ⟨k, hk, hne, hc⟩ := row_cases h.toNetOK ha
    have harc : ((rows n).getD a Row.none).arc = (k : Int) := by rcases hc with e | e <;> rw [e]
    rw [most_spec h.toNetOK ha harc]
    exact h.caps _ (getD_mem _ hk)
theorem tail_end {n : Net} (h : Small n) {i : Nat} (hi : i < (rows n).length) : tailOf (makeC n) i = endOf n ((rows n).getD i Row.none).key := by
  obtain ⟨v, h1, ⟨h2, h3⟩, h4, _⟩ := (make_t h).tail_at (a := (i : Int)) (by omega) (by rw [make_head]; omega)
  have hv : v < n.N.toNat := h1
  rw [first_at n (by omega)] at h2 h3
  rw [h4]
  have e1 : (rows n).getD i Row.none = (rowsOf n (v + 1)).getD i Row.none := getD_pre (rowsOf_pre n (show v + 1 ≤ n.N.toNat by omega)) _ (by omega)
  rw [e1]
  have hlen : i < (rowsOf n (v + 1)).length := by omega
  have hm : (rowsOf n (v + 1)).getD i Row.none ∈ rowsAt n v n.arcs.length := by
    rw [rowsOf_next] at hlen ⊢
    simp only [List.getD]
    rw [List.getElem?_append_right (by omega)]
    rw [List.length_append] at hlen
    have : i - (rowsOf n v).length < (rowsAt n v n.arcs.length).length := by omega
    rw [List.getElem?_eq_getElem this]
    exact List.getElem_mem _
  exact (end_rowsAt hm).symm
theorem make_g {n : Net} (h : Small n) : CsrG (makeC n) where
  toCsrT := make_t h
  rne := fun a ha => by
    rw [make_head] at ha
    obtain ⟨j, h1, h2, h3, h4, h5⟩ := rev_spec h.toNetOK ha
    rw [h3]; omega
  rrv := fun a ha => by
    rw [make_head] at ha
    obtain ⟨j, h1, h2, h3, h4, h5⟩ := rev_spec h.toNetOK ha
    obtain ⟨j', k1, k2, k3, k4, k5⟩ := rev_spec h.toNetOK h1
    rw [h3, Int.toNat_natCast, k3]
    have : j' = a := key_inj k1 ha (by unfold Row.key; rw [k4, k5, h4, h5]; simp)
    rw [this]
  rbk := fun a ha => by
    rw [make_head] at ha
    obtain ⟨j, h1, h2, h3, h4, h5⟩ := rev_spec h.toNetOK ha
    rw [h3, Int.toNat_natCast]
    show ((rows n).map Row.back).getD j false = !(((rows n).map Row.back).getD a false)
    rw [getD_back, getD_back, h5]
  rtl := fun a ha => by
    rw [make_head] at ha
    obtain ⟨j, h1, h2, h3, h4, h5⟩ := rev_spec h.toNetOK ha
    rw [tail_end h ha, h3, Int.toNat_natCast]
    show _ = ((rows n).map Row.hd).getD j 0
    rw [getD_hd]
    obtain ⟨k, hk, hne, hc⟩ := row_cases h.toNetOK ha
    obtain ⟨k', hk', hne', hc'⟩ := row_cases h.toNetOK h1
    rcases hc with e | e <;> rcases hc' with e' | e' <;> rw [e, e'] at h4 h5 <;> dsimp only at h4 h5
    · cases h5
    · have : k' = k := by omega
      subst this; rw [e, e']; simp [endOf, Row.key]
    · have : k' = k := by omega
      subst this; rw [e, e']; simp [endOf, Row.key]
    · cases h5
/-! ### The first state -/
def sumN (F : Nat → Int) : Nat → Int
  | 0 => 0
  | k + 1 => sumN F k + F k
theorem sumN_add (F G : Nat → Int) : ∀ k, sumN (fun i => F i + G i) k = sumN F k + sumN G k
  | 0 => rfl
  | k + 1 => by simp only [sumN, sumN_add F G k]; omega
theorem sumN_zero {F : Nat → Int} : ∀ {k : Nat}, (∀ i, i < k → F i = 0) → sumN F k = 0
  | 0, _ => rfl
  | k + 1, h => by simp only [sumN]; rw [sumN_zero (fun i hi => h i (by omega)), h k (by omega)]; rfl
theorem sumN_congr {F G : Nat → Int} : ∀ {k : Nat}, (∀ i, i < k → F i = G i) → sumN F k = sumN G k
  | 0, _ => rfl
  | k + 1, h => by simp only [sumN]; rw [sumN_congr (fun i hi => h i (by omega)), h k (by omega)]
theorem sumN_one {F : Nat → Int} {j : Nat} : ∀ {k : Nat}, j < k → (∀ i, i < k → i ≠ j → F i = 0) → sumN F k = F j
  | k + 1, hj, h => by
    simp only [sumN]
    rcases Nat.eq_or_lt_of_le (Nat.le_of_lt_succ hj) with e | hlt
    · subst e; rw [sumN_zero (fun i hi => h i (by omega) (by omega))]; omega
    · rw [sumN_one hlt (fun i hi hne => h i (by omega) hne), h k (by omega) (by omega)]; omega
def sumL (g : Row → Int) (l : List Row) : Int := (l.map g).sum
theorem sumL_app (g : Row → Int) (l m : List Row) : sumL g (l ++ m) = sumL g l + sumL g m := by simp [sumL]
/-- What an arc brings a vertex, by its residual arcs. -/
def gX (n : Net) (f : List Int) (v : Int) (r : Row) : Int := if r.back = true then (if endOf n r.key = v then f.getD r.arc.toNat 0 else 0) - (if r.hd = v then f.getD r.arc.toNat 0 else 0) else 0
theorem exK_sumL {n : Net} (h : Small n) (f : List Int) (v : Int) : ∀ k, k ≤ (rows n).length → exK (makeC n) (resOf (makeC n) f (makeC n).Head.length) k v = sumL (gX n f v) ((rows n).take k)
  | 0, _ => rfl
  | k + 1, hk => by
    simp only [exK]
    rw [exK_sumL h f v k (by omega), take_snoc Row.none (show k < (rows n).length by omega), sumL_app, tail_end h (by omega)]
    congr 1
    show (if ((rows n).map Row.back).getD k false = true then _ else _) = (List.map (gX n f v) [(rows n).getD k Row.none]).sum
    have e2 : (makeC n).Head.getD k 0 = ((rows n).getD k Row.none).hd := getD_hd _ _
    have e3 : (makeC n).Arc.getD k 0 = ((rows n).getD k Row.none).arc := getD_arc _ _
    have e4 : (makeC n).Back.getD k false = ((rows n).getD k Row.none).back := getD_back _ _
    rw [getD_back, e2]
    simp only [List.map_cons, List.map_nil, List.sum_cons, List.sum_nil, Int.add_zero, gX]
    cases hb : ((rows n).getD k Row.none).back with
    | false => rfl
    | true =>
      have e1 : (resOf (makeC n) f (makeC n).Head.length).getD k 0 = f.getD ((rows n).getD k Row.none).arc.toNat 0 := by
        have hlt : k < (makeC n).Head.length := by rw [make_head]; omega
        have : (resOf (makeC n) f (makeC n).Head.length).getD k 0 = resAt (makeC n) f k := by
          simp [resOf, List.getD, hlt]
        rw [this]
        unfold resAt flowAt
        rw [e4, hb, if_pos rfl, e3]
      rw [e1]
theorem rowsOf_sum (n : Net) (g : Row → Int) : ∀ v, sumL g (rowsOf n v) = sumN (fun u => sumL g (rowsAt n (u : Int) n.arcs.length)) v
  | 0 => rfl
  | v + 1 => by rw [rowsOf_next, sumL_app, rowsOf_sum n g v]; rfl
/-- What the first arcs bring a vertex. -/
def arcX (n : Net) (f : List Int) (v : Int) : Nat → Int
  | 0 => 0
  | k + 1 => arcX n f v k + (if (n.arcs.getD k Arc.none).frm = (n.arcs.getD k Arc.none).to then 0 else (if (n.arcs.getD k Arc.none).to = v then f.getD k 0 else 0) - (if (n.arcs.getD k Arc.none).frm = v then f.getD k 0 else 0))
theorem row_sum (n : Net) (f : List Int) (v u : Int) (k : Nat) : sumL (gX n f v) (rowOf u (n.arcs.getD k Arc.none) k) = if (n.arcs.getD k Arc.none).frm = (n.arcs.getD k Arc.none).to then 0 else if (n.arcs.getD k Arc.none).to = u then (if (n.arcs.getD k Arc.none).to = v then f.getD k 0 else 0) - (if (n.arcs.getD k Arc.none).frm = v then f.getD k 0 else 0) else 0 := by
  unfold rowOf
  by_cases h1 : (n.arcs.getD k Arc.none).frm = (n.arcs.getD k Arc.none).to
  · rw [if_pos h1, if_pos h1]; rfl
  · rw [if_neg h1, if_neg h1]
    by_cases h2 : (n.arcs.getD k Arc.none).frm = u
    · rw [if_pos h2]
      by_cases h3 : (n.arcs.getD k Arc.none).to = u
      · exact (h1 (by omega)).elim
      · rw [if_neg h3, if_neg h3]; simp [sumL, gX]
    · rw [if_neg h2]
      by_cases h3 : (n.arcs.getD k Arc.none).to = u
      · rw [if_pos h3, if_pos h3]; simp [sumL, gX, endOf, Row.key]
      · rw [if_neg h3, if_neg h3]; rfl
theorem all_sum {n : Net} (h : NetOK n) (f : List Int) (v : Int) : ∀ m, m ≤ n.arcs.length → sumN (fun u => sumL (gX n f v) (rowsAt n (u : Int) m)) n.N.toNat = arcX n f v m
  | 0, _ => sumN_zero (fun i _ => rfl)
  | m + 1, hm => by
    have h1 := all_sum h f v m (by omega)
    have h2 : sumN (fun u => sumL (gX n f v) (rowsAt n (u : Int) (m + 1))) n.N.toNat = sumN (fun u => sumL (gX n f v) (rowsAt n (u : Int) m) + sumL (gX n f v) (rowOf (u : Int) (n.arcs.getD m Arc.none) m)) n.N.toNat :=
      sumN_congr (fun i _ => by rw [rowsAt_next, sumL_app])
    rw [h2, sumN_add, h1]
    simp only [arcX]
    congr 1
    have ha := h.arc (show m < n.arcs.length by omega)
    by_cases hc : (n.arcs.getD m Arc.none).frm = (n.arcs.getD m Arc.none).to
    · rw [if_pos hc]
      exact sumN_zero (fun i _ => by rw [row_sum, if_pos hc])
    · rw [if_neg hc]
      rw [sumN_one (j := (n.arcs.getD m Arc.none).to.toNat) (by omega) (fun i hi hne => by rw [row_sum, if_neg hc, if_neg (by omega)])]
      rw [row_sum, if_neg hc, if_pos (by omega)]
theorem ex_arcs {n : Net} (h : Small n) (f : List Int) (v : Int) : exOf (makeC n) (resOf (makeC n) f (makeC n).Head.length) v = arcX n f v n.arcs.length := by
  unfold exOf
  rw [show (makeC n).Head.length = (rows n).length from make_head n, ← make_head n, exK_sumL h f v _ (by rw [make_head]; exact Nat.le_refl _), make_head, List.take_length]
  show sumL _ (rowsOf n n.N.toNat) = _
  rw [rowsOf_sum, all_sum h.toNetOK f v _ (Nat.le_refl _)]
end Go.Proofs

set_option linter.unusedVariables false
namespace Go.Proofs
open Go Go.Sx Go.RowKit
open Classical in
theorem begF_get (n : Net) : ∀ m, m ≤ n.arcs.length → ∀ k, k < n.arcs.length → (begF n m).getD k 0 = if k < m ∧ fullArc n k then (n.arcs.getD k Arc.none).cap else 0
  | 0, _, k, hk => by rw [if_neg (by omega)]; simp [begF, List.getD, hk]
  | m + 1, hm, k, hk => by
    simp only [begF]
    have ih := begF_get n m (by omega) k hk
    by_cases hf : fullArc n m
    · rw [if_pos hf, getD_set _ _ _ _ (by rw [begF_len]; omega), ih]
      by_cases e : m = k
      · subst e; rw [if_pos rfl, if_pos ⟨by omega, hf⟩]
      · rw [if_neg e]
        by_cases hc : k < m ∧ fullArc n k
        · rw [if_pos hc, if_pos ⟨by omega, hc.2⟩]
        · rw [if_neg hc, if_neg (fun q => hc ⟨by omega, q.2⟩)]
    · rw [if_neg hf, ih]
      by_cases hc : k < m ∧ fullArc n k
      · rw [if_pos hc, if_pos ⟨by omega, hc.2⟩]
      · rw [if_neg hc, if_neg (fun q => ?_)]
        rcases Nat.lt_or_ge k m with h1 | h1
        · exact hc ⟨h1, q.2⟩
        · have : k = m := by omega
          subst this; exact hf q.2
theorem begX_get {n : Net} (h : NetOK n) (v : Nat) (hv : v < n.N.toNat) : ∀ m, m ≤ n.arcs.length → (begX n m).getD v 0 = arcX n (begF n n.arcs.length) v m
  | 0, _ => by simp [begX, arcX, List.getD, hv]
  | m + 1, hm => by
    have ih := begX_get h v hv m (by omega)
    have hF := begF_get n n.arcs.length (Nat.le_refl _) m (by omega)
    have ha := h.arc (show m < n.arcs.length by omega)
    simp only [begX, arcX]
    by_cases hf : fullArc n m
    · have hne : ¬ (n.arcs.getD m Arc.none).frm = (n.arcs.getD m Arc.none).to := by
        obtain ⟨h1, h2⟩ := hf
        rw [h1]; exact Ne.symm h2
      rw [if_pos ⟨by omega, hf⟩] at hF
      rw [if_pos hf, hF, if_neg hne]
      have hl := begX_len n m
      rw [getD_set _ _ _ _ (by rw [List.length_set]; omega), getD_set _ _ _ _ (by omega), getD_set _ _ _ _ (by omega)]
      rw [if_neg (show ¬ (n.arcs.getD m Arc.none).frm.toNat = (n.arcs.getD m Arc.none).to.toNat by omega)]
      by_cases e1 : (n.arcs.getD m Arc.none).to.toNat = v
      · rw [if_pos e1, if_pos (show (n.arcs.getD m Arc.none).to = (v : Int) by omega), if_neg (show ¬ (n.arcs.getD m Arc.none).frm = (v : Int) by omega), e1, ih]; omega
      · rw [if_neg e1, if_neg (show ¬ (n.arcs.getD m Arc.none).to = (v : Int) by omega)]
        by_cases e2 : (n.arcs.getD m Arc.none).frm.toNat = v
        · rw [if_pos e2, if_pos (show (n.arcs.getD m Arc.none).frm = (v : Int) by omega), e2, ih]; omega
        · rw [if_neg e2, if_neg (show ¬ (n.arcs.getD m Arc.none).frm = (v : Int) by omega), ih]; omega
    · rw [if_neg (fun q => hf q.2)] at hF
      rw [if_neg hf, hF, ih]
      simp only [ite_self, Int.sub_zero, Int.add_zero]
theorem arcX_nonneg {n : Net} (h : NetOK n) (v : Int) (hv : v ≠ n.S) : ∀ m, m ≤ n.arcs.length → 0 ≤ arcX n (begF n n.arcs.length) v m
  | 0, _ => Int.le_refl _
  | m + 1, hm => by
    have ih := arcX_nonneg h v hv m (by omega)
    have hF := begF_get n n.arcs.length (Nat.le_refl _) m (by omega)
    have ha := h.arc (show m < n.arcs.length by omega)
    simp only [arcX]
    by_cases hf : fullArc n m
    · rw [if_pos ⟨by omega, hf⟩] at hF
      rw [hF]
      obtain ⟨h1, h2⟩ := hf
      rw [if_neg (show ¬ (n.arcs.getD m Arc.none).frm = (n.arcs.getD m Arc.none).to by rw [h1]; exact Ne.symm h2), if_neg (show ¬ (n.arcs.getD m Arc.none).frm = v by rw [h1]; exact Ne.symm hv)]
      split <;> omega
    · rw [if_neg (fun q => hf q.2)] at hF
      rw [hF]
      simp only [ite_self, Int.sub_zero, Int.add_zero]
      exact ih
theorem res_get (c : Csr) (f : List Int) {a m : Nat} (h : a < m) : (resOf c f m).getD a 0 = resAt c f a := by simp [resOf, List.getD, h]
/-- What a flow leaves: of an arc and its partner. -/
theorem res_pairs {n : Net} (h : Small n) {f : List Int} (hl : f.length = n.arcs.length) (hf : ∀ k, k < n.arcs.length → 0 ≤ f.getD k 0 ∧ f.getD k 0 ≤ (n.arcs.getD k Arc.none).cap) : pairsP (makeC n) (resOf (makeC n) f (makeC n).Head.length) := by
  intro a ha
  have hg := make_g h
  have hr := res_in h.toNetOK hl hf
  have h1 := hr.flow a ha
  have h2 := hg.rv a ha
  have hb : (makeC n).Rev.getD a 0 < ((makeC n).Head.length : Int) := h2.2
  rw [res_get _ _ ha, res_get _ _ (show ((makeC n).Rev.getD a 0).toNat < (makeC n).Head.length by omega)]
  have hfl : flowAt (makeC n) f ((makeC n).Rev.getD a 0).toNat = flowAt (makeC n) f a := by
    rw [make_head] at ha
    obtain ⟨j, k1, k2, k3, k4, k5⟩ := rev_spec h.toNetOK ha
    unfold flowAt
    rw [k3, Int.toNat_natCast]
    show f.getD (((rows n).map Row.arc).getD j 0).toNat 0 = f.getD (((rows n).map Row.arc).getD a 0).toNat 0
    rw [getD_arc, getD_arc, k4]
  have hbk := hg.rbk a ha
  have hm := most_rev hg ha
  unfold resAt
  rw [hfl, hm, hbk]
  cases (makeC n).Back.getD a false with
  | true => simp only [Bool.not_true, if_true]; rw [if_neg (by decide)]; omega
  | false => simp only [Bool.not_false, if_true]; rw [if_neg (by decide)]; omega
theorem begH_get {n : Net} (h : NetOK n) {v : Nat} (hv : v < n.N.toNat) : (begH n).getD v 0 = if n.S.toNat = v then n.N else 0 := by
  unfold begH
  have := h.s
  rw [getD_set _ _ _ _ (by simp; omega)]
  split
  · rfl
  · simp [List.getD, hv]
theorem beg_right {n : Net} (h : Small n) : rightP (makeC n) (begP n) := by
  have hF := begF_in h.toNetOK n.arcs.length (Nat.le_refl _)
  have hlo := h.lo
  have hs := h.s
  have ht := h.t
  have hst := h.st
  refine ⟨⟨resOf_len _ _ _, begX_len n _, by show (begH n).length = _; simp [begH, makeC]⟩, ⟨?_, ?_, ?_⟩, res_pairs h (begF_len n _) hF, ?_⟩
  · intro v hv
    have hv' : v < n.N.toNat := hv
    show 0 ≤ (begH n).getD v 0 ∧ (begH n).getD v 0 ≤ 2 * n.N
    rw [begH_get h.toNetOK hv']
    split <;> omega
  · show (begH n).getD n.S.toNat 0 = n.N
    rw [begH_get h.toNetOK (by omega), if_pos rfl]
  · show (begH n).getD n.T.toNat 0 = 0
    rw [begH_get h.toNetOK (by omega), if_neg (by omega)]
  · intro v hv
    have hv' : v < n.N.toNat := hv
    have e : (begP n).Ex.getD v 0 = exOf (makeC n) (begP n).Res v := by
      show (begX n n.arcs.length).getD v 0 = exOf (makeC n) (resOf (makeC n) (begF n n.arcs.length) (makeC n).Head.length) v
      rw [ex_arcs h, begX_get h.toNetOK v hv' _ (Nat.le_refl _)]
    refine ⟨e, fun hne => ?_⟩
    show 0 ≤ (begX n n.arcs.length).getD v 0
    rw [begX_get h.toNetOK v hv' _ (Nat.le_refl _)]
    exact arcX_nonneg h.toNetOK _ hne _ (Nat.le_refl _)
/-- Nets that are made of any are small. -/
theorem some_small (n : Net) {va ar : Int} (hva : 2 ≤ va ∧ va ≤ 64) (har : 0 ≤ ar ∧ ar ≤ 64) (hp : va.toNat * (2 * ar.toNat) ≤ 2048) (hn : In64 n.N ∧ In64 n.S ∧ In64 n.T) (hin : ∀ a ∈ n.arcs, In64 a.frm ∧ In64 a.to ∧ In64 a.cap) : Small (someNet n va ar) := by
  have hN : 2 ≤ someN n va ∧ someN n va ≤ va := by
    unfold someN
    have h0 := among_lo n.N (va - 1)
    have h1 := among_hi n.N (n := va - 1) (by omega)
    omega
  have hlen : (someNet n va ar).arcs.length ≤ ar.toNat := by simp only [someNet, List.length_map, List.length_take]; omega
  have hS : 0 ≤ someS n va ∧ someS n va < someN n va := ⟨among_lo _ _, among_hi _ (by omega)⟩
  have hA : ∀ a ∈ (someNet n va ar).arcs, 0 ≤ a.frm ∧ a.frm < someN n va ∧ 0 ≤ a.to ∧ a.to < someN n va ∧ 0 ≤ a.cap ∧ a.cap ≤ 1125899906842624 := by
    intro a ha
    simp only [someNet, List.mem_map] at ha
    obtain ⟨b, hb, rfl⟩ := ha
    have hb' := hin b (List.mem_of_mem_take hb)
    refine ⟨among_lo _ _, among_hi _ (by omega), among_lo _ _, among_hi _ (by omega), ?_⟩
    show 0 ≤ capOf b.cap ∧ capOf b.cap ≤ _
    unfold capOf
    have h0 : 0 ≤ (if b.cap < 0 then -(b.cap + 1) else b.cap) := by split <;> omega
    rw [Int.tmod_eq_emod_of_nonneg h0]
    omega
  have hT : 0 ≤ someT n va ∧ someT n va < someN n va ∧ someS n va ≠ someT n va := by
    have h1 := among_lo n.T (someN n va)
    have h2 := among_hi n.T (n := someN n va) (by omega)
    unfold someT
    split
    · rename_i he
      have h3 : (someS n va + 1).tmod (someN n va) = (someS n va + 1) % (someN n va) := Int.tmod_eq_emod_of_nonneg (by omega)
      rw [h3]
      rcases Int.lt_or_le (someS n va + 1) (someN n va) with h4 | h4
      · rw [Int.emod_eq_of_lt (by omega) h4]; omega
      · have h5 : someS n va + 1 = someN n va := by omega
        rw [h5, Int.emod_self]; omega
    · rename_i he
      exact ⟨h1, h2, he⟩
  have hcs : ∀ l : List Arc, (∀ a ∈ l, 0 ≤ a.cap ∧ a.cap ≤ 1125899906842624) → capSum l ≤ l.length * 1125899906842624 := by
    intro l
    induction l with
    | nil => intro _; simp [capSum]
    | cons a l ih =>
      intro hl
      have h1 := ih (fun b hb => hl b (by simp [hb]))
      have h2 := hl a (by simp)
      have h3 : capSum (a :: l) = a.cap + capSum l := by simp [capSum]
      rw [h3]
      have h4 : ((a :: l).length : Int) = (l.length : Int) + 1 := by simp
      rw [h4, Int.add_mul]
      omega
  refine ⟨⟨hN.1, by show someN n va ≤ 4096; omega, by omega, hS, ⟨hT.1, hT.2.1⟩, hT.2.2, fun a ha => ?_, ?_⟩, ⟨by show someN n va ≤ 64; omega, by omega⟩, ?_, fun a ha => (hA a ha).2.2.2.2.2⟩
  · have := hA a ha
    show 0 ≤ a.frm ∧ a.frm < someN n va ∧ 0 ≤ a.to ∧ a.to < someN n va ∧ 0 ≤ a.cap
    omega
  · have h1 := hcs _ (fun a ha => (hA a ha).2.2.2.2)
    have h2 : ((someNet n va ar).arcs.length : Int) * 1125899906842624 ≤ 64 * 1125899906842624 := Int.mul_le_mul_of_nonneg_right (by omega) (by omega)
    omega
  · have : (someNet n va ar).N.toNat ≤ va.toNat := by show (someN n va).toNat ≤ _; omega
    exact Nat.le_trans (Nat.mul_le_mul this (by omega)) hp
end Go.Proofs

set_option linter.unusedVariables false
namespace Go.Proofs
open Go Go.Sx Go.RowKit
abbrev aw0 : Net := ⟨3, 0, 2, [⟨0, 1, 5⟩, ⟨1, 2, 5⟩]⟩
theorem aw0_small : Small aw0 := by
  refine ⟨⟨by decide, by decide, by decide, by decide, by decide, by decide, by decide, by decide⟩, by decide, by decide, by decide⟩
abbrev awP : Pre := ⟨(begP aw0).Res, (begP aw0).Ex, (begP aw0).H.set (1 : Int).toNat 1⟩
abbrev awE (d h low : Int) : Event := ⟨0, 1, 1, 2, d, h, low⟩
abbrev awL (u h : Int) : Event := ⟨0, 2, u, 0, 0, h, 0⟩
theorem aw_right : rightP (makeC aw0) awP := by decide +kernel
theorem aw_len : (begP aw0).Res.length = 4 ∧ (begP aw0).H.length = 3 := by decide +kernel
instance (x : Int) : Decidable (In64 x) := by unfold In64; infer_instance
theorem awE_in (d h low : Int) (hd : In64 d) (hh : In64 h) (hl : In64 low) : EvIn (awE d h low) := ⟨(by decide : In64 1), (by decide : In64 2), hd, hh, hl⟩
theorem awL_in (u h : Int) (hu : In64 u) (hh : In64 h) : EvIn (awL u h) := ⟨hu, (by decide : In64 0), (by decide : In64 0), hh, (by decide : In64 0)⟩
theorem aw_all : ((((((((rightP (makeC aw0) awP ∧ legalE (makeC aw0) awP (awE 3 1 0) = 0) ∧ ¬ (strictP (makeC aw0) awP (awE 3 1 0))) ∧ strictP (makeC aw0) awP (awE 5 1 0)) ∧ legalE (makeC aw0) awP (awE 3 1 1) = 30) ∧ legalE (makeC aw0) awP (awL 1 6) = 0) ∧ legalE (makeC aw0) awP (awL 1 1) = 30) ∧ legalE (makeC aw0) awP (awL 1 7) = 30) ∧ legalE (makeC aw0) awP (awL 2 6) = 2) := by
  decide +kernel
theorem aw_ex : ∀ x ∈ awP.Ex, In64 x := by decide +kernel
set_option maxHeartbeats 8000000 in
set_option synthInstance.maxHeartbeats 400000 in
set_option synthInstance.maxSize 2000 in
theorem t_awake  : Tri Try.prog 21 [] [] (fun s H => s = .val (.bool true) ∧ H = []) := by
  refine tri_of_w (fn := Try.f21) Try.func21 rfl (by simp [Try.f21]) ?_
  intro ρ w hρ
  refine w_seq ?_
  refine w_region ?_
  refine rw_t 0 rfl rfl rfl (do_assign rfl ?_)
  refine rw_nil ?_
  refine w_seq ?_
  refine w_region ?_
  refine rw_t 11 rfl rfl rfl (do_build (out := [_, _, _]) rfl rfl ?_)
  refine rw_t 12 rfl rfl rfl (do_build (out := [_, _, _]) rfl rfl ?_)
  refine rw_t 13 rfl rfl rfl (n_bs (nm := 0) Arc encArc Arc.none [(⟨0, 1, 5⟩ : Arc), (⟨1, 2, 5⟩ : Arc)] rfl rfl rfl rfl rfl (fun _ => rfl) (fun _ _ h => by simp [encArc] at h; rcases h with rfl | rfl | rfl <;> rfl) rfl ?_)
  refine rw_cap 13 rfl ?_
  refine rw_t 14 rfl rfl rfl (do_build (out := [_, _, _, _]) rfl rfl ?_)
  refine rw_t 15 rfl rfl rfl (n_callN (X' := .tup [.agg [.val (.int .i64 ((makeC aw0).N)), .val (.int .i64 ((makeC aw0).S)), .val (.int .i64 ((makeC aw0).T)), .slc 1 0 ((makeC aw0).First.length) none, .slc 2 0 ((makeC aw0).Head.length) none, .slc 3 0 ((makeC aw0).Rev.length) none, .slc 4 0 ((makeC aw0).Cap.length) none, .slc 5 0 ((makeC aw0).Arc.length) none, .slc 6 0 ((makeC aw0).Back.length) none], .agg [.slc 7 0 ((begP aw0).Res.length) none, .slc 8 0 ((begP aw0).Ex.length) none, .slc 9 0 ((begP aw0).H.length) none]]) (N' := [SO.ints true .i64 ((makeC aw0).First), SO.ints true .i64 ((makeC aw0).Head), SO.ints true .i64 ((makeC aw0).Rev), SO.ints true .i64 ((makeC aw0).Cap), SO.ints true .i64 ((makeC aw0).Arc), SO.bools true ((makeC aw0).Back), SO.ints true .i64 ((begP aw0).Res), SO.ints true .i64 ((begP aw0).Ex), SO.ints true .i64 ((begP aw0).H)]) rfl rfl (t_begun (n := aw0) (aw0_small.toNetOK) (aw0_small.sz)) [0] ⟨.inr ⟨_, rfl, srv⟩, trivial⟩ rfl rfl rfl rfl rfl ?_)
  refine rw_t 10 rfl rfl rfl (do_move rfl ?_)
  refine rw_t 16 rfl rfl rfl (do_extract rfl rfl ?_)
  refine rw_t 17 rfl rfl rfl (do_extract rfl rfl ?_)
  refine rw_t 1 rfl rfl rfl (n_alloc (n := 10) rfl ?_)
  refine rw_t 2 rfl rfl rfl (n_alloc (n := 11) rfl ?_)
  refine rw_u rfl rfl (n_store_whole rfl rfl rfl rfl rfl rfl ?_)
  refine rw_u rfl rfl (n_store_whole rfl rfl rfl rfl rfl rfl ?_)
  refine rw_nil ?_
  refine w_seq ?_
  refine w_seq ?_
  refine w_region ?_
  refine rw_t 18 rfl rfl rfl (do_fieldaddr rfl ?_)
  refine rw_t 19 rfl rfl rfl (do_load_box rfl rfl rfl ?_)
  refine rw_t 20 rfl rfl rfl (do_len rfl ?_)
  refine rw_t 21 rfl rfl rfl (do_bin rfl rfl rfl ?_)
  refine rw_nil ?_
  refine w_cond rfl (fun hc1 => ?_) (fun hc1 => ?_)
  · exfalso; exact absurd hc1 (by rw [aw_len.1]; decide)
  refine w_skip ?_
  refine w_seq ?_
  have hl := aw_len
  refine w_region ?_
  refine rw_t 22 rfl rfl rfl (do_fieldaddr rfl ?_)
  refine rw_t 23 rfl rfl rfl (do_load_box rfl rfl rfl ?_)
  refine rw_t 24 rfl rfl rfl (do_ix0 rfl rfl rfl (by first | omega | (simp only [ls] <;> omega)) ?_)
  refine rw_u rfl rfl (n_store_arr (z := 1) rfl rfl rfl (by first | omega | (simp only [ls] <;> omega)) rfl (by decide) rfl ?_)
  refine rw_nil ?_
  refine w_seq ?_
  refine w_region ?_
  refine rw_t 25 rfl rfl rfl (do_build (out := [_, _, _, _, _, _, _]) rfl rfl ?_)
  refine rw_t 3 rfl rfl rfl (n_alloc (n := 12) rfl ?_)
  refine rw_u rfl rfl (n_store_whole rfl rfl rfl rfl rfl rfl ?_)
  refine rw_nil ?_
  refine w_midS (ι := Unit) (fun _ => [(0, .val (.bool false)), (1, .ptr 10 0 0), (2, .ptr 11 0 0), (3, .ptr 12 0 0), (4, .ptr 13 0 0), (5, .ptr 14 0 0)]) (fun _ => [SO.arcs true [(⟨0, 1, 5⟩ : Arc), (⟨1, 2, 5⟩ : Arc)], SO.ints true .i64 ((makeC aw0).First), SO.ints true .i64 ((makeC aw0).Head), SO.ints true .i64 ((makeC aw0).Rev), SO.ints true .i64 ((makeC aw0).Cap), SO.ints true .i64 ((makeC aw0).Arc), SO.bools true ((makeC aw0).Back), SO.ints true .i64 ((begP aw0).Res), SO.ints true .i64 ((begP aw0).Ex), SO.ints true .i64 (((begP aw0).H).set ((1 : Int).toNat) 1), .box [.val (.int .i64 ((makeC aw0).N)), .val (.int .i64 ((makeC aw0).S)), .val (.int .i64 ((makeC aw0).T)), .slc 1 0 ((makeC aw0).First.length) none, .slc 2 0 ((makeC aw0).Head.length) none, .slc 3 0 ((makeC aw0).Rev.length) none, .slc 4 0 ((makeC aw0).Cap.length) none, .slc 5 0 ((makeC aw0).Arc.length) none, .slc 6 0 ((makeC aw0).Back.length) none], .box [.slc 7 0 ((begP aw0).Res.length) none, .slc 8 0 ((begP aw0).Ex.length) none, .slc 9 0 ((begP aw0).H.length) none], .box [.val (.int .i64 0), .val (.int .u8 1), .val (.int .i64 1), .val (.int .i64 2), .val (.int .i64 3), .val (.int .i64 1), .val (.int .i64 0)], .box [.val (.int .i64 0), .val (.int .u8 1), .val (.int .i64 1), .val (.int .i64 2), .val (.int .i64 3), .val (.int .i64 1), .val (.int .i64 0)], .box [.val (.int .i64 0), .val (.int .u8 1), .val (.int .i64 1), .val (.int .i64 2), .val (.int .i64 3), .val (.int .i64 1), .val (.int .i64 0)]]) (fun _ => True) hρ ?_ ?_
  · -- region 6
    refine w_any mixed ?_
    refine wa_drawZ [0, 0, 0, 0] [13, 31] [1] 2 rfl rfl (by decide) (by kernel_rfl) (by kernel_rfl) rfl rfl rfl (hle hρ rfl) ?_
    refine ra_q (j := 0) rfl rfl rfl rfl (n_load_boxagg [_, _, _, _, _, _, _] rfl rfl (Nat.le_of_ble_eq_true rfl) rfl ⟨rfl, rfl⟩) (by rfl) ?_
    refine ra_q (j := 1) rfl rfl rfl rfl (n_load_boxagg [_, _, _, _, _, _, _] rfl rfl (Nat.le_of_ble_eq_true rfl) rfl ⟨rfl, rfl⟩) (by rfl) ?_
    refine ra_n (j := 2) rfl rfl rfl rfl (g_alloc (n := 13) rfl ⟨rfl, rfl⟩) (by rfl) (by rfl) (by rfl) ?_
    refine ra_n (j := 3) rfl rfl rfl rfl (g_alloc (n := 14) rfl ⟨rfl, rfl⟩) (by rfl) (by rfl) (by rfl) ?_
    refine n_fin ?_ ?_
    · refine rw_u rfl rfl (n_store_whole rfl rfl rfl rfl rfl rfl ?_)
      refine rw_u rfl rfl (n_store_whole rfl rfl rfl rfl rfl rfl ?_)
      refine rw_nil ?_
      exact ⟨(), [0, 1, 2, 3, 4, 5, 6, 7, 8, 9, 10, 11, 12, 13, 14], trivial, ⟨shR rfl, shR rfl, shR rfl, shR rfl, shR rfl, shR rfl, shR rfl, shR rfl, shR rfl, shR rfl, shR rfl, shR rfl, shR rfl, shR rfl, shR rfl, trivial⟩, rfl, pre_ok rfl, ⟨⟨_, rfl, rfl⟩, ⟨_, rfl, rfl⟩, ⟨_, rfl, rfl⟩, ⟨_, rfl, rfl⟩, ⟨_, rfl, rfl⟩, ⟨_, rfl, rfl⟩, trivial⟩⟩
    refine all_cons ?_ ?_
    · refine rx_step [1, 4] rfl (by kernel_rfl) rfl ?_
      refine rx_cons ?_ ?_
      · refine ⟨_, rfl, rfl, rfl, n_load_boxagg [_, _, _, _, _, _, _] rfl rfl (Nat.le_of_ble_eq_true rfl) rfl ?_⟩
        refine rx_step [4] rfl (by kernel_rfl) rfl ?_
        refine rx_cons ?_ ?_
        · refine ⟨_, rfl, rfl, rfl, do_store_boxagg rfl rfl rfl (Nat.le_of_ble_eq_true rfl) rfl (allPlain rfl) ?_⟩
          refine rx_step [5] rfl (by kernel_rfl) rfl ?_
          refine rx_cons ?_ ?_
          · refine ⟨_, rfl, rfl, rfl, do_store_boxagg rfl rfl rfl (Nat.le_of_ble_eq_true rfl) rfl (allPlain rfl) ?_⟩
            refine rx_done (by kernel_rfl) ?_
            exact ⟨(), [0, 1, 2, 3, 4, 5, 6, 7, 8, 9, 10, 11, 12, 13, 14], trivial, ⟨shR rfl, shR rfl, shR rfl, shR rfl, shR rfl, shR rfl, shR rfl, shR rfl, shR rfl, shR rfl, shR rfl, shR rfl, shR rfl, shR rfl, shR rfl, trivial⟩, rfl, pre_ok rfl, ⟨⟨_, rfl, rfl⟩, ⟨_, rfl, rfl⟩, ⟨_, rfl, rfl⟩, ⟨_, rfl, rfl⟩, ⟨_, rfl, rfl⟩, ⟨_, rfl, rfl⟩, trivial⟩⟩
          exact rx_nil
        exact rx_nil
      refine rx_cons ?_ ?_
      · refine ⟨_, rfl, rfl, rfl, do_store_boxagg rfl rfl rfl (Nat.le_of_ble_eq_true rfl) rfl (allPlain rfl) ?_⟩
        refine rx_step [1] rfl (by kernel_rfl) rfl ?_
        refine rx_cons ?_ ?_
        · refine ⟨_, rfl, rfl, rfl, n_load_boxagg [_, _, _, _, _, _, _] rfl rfl (Nat.le_of_ble_eq_true rfl) rfl ?_⟩
          refine rx_step [5] rfl (by kernel_rfl) rfl ?_
          refine rx_cons ?_ ?_
          · refine ⟨_, rfl, rfl, rfl, do_store_boxagg rfl rfl rfl (Nat.le_of_ble_eq_true rfl) rfl (allPlain rfl) ?_⟩
            refine rx_done (by kernel_rfl) ?_
            exact ⟨(), [0, 1, 2, 3, 4, 5, 6, 7, 8, 9, 10, 11, 12, 13, 14], trivial, ⟨shR rfl, shR rfl, shR rfl, shR rfl, shR rfl, shR rfl, shR rfl, shR rfl, shR rfl, shR rfl, shR rfl, shR rfl, shR rfl, shR rfl, shR rfl, trivial⟩, rfl, pre_ok rfl, ⟨⟨_, rfl, rfl⟩, ⟨_, rfl, rfl⟩, ⟨_, rfl, rfl⟩, ⟨_, rfl, rfl⟩, ⟨_, rfl, rfl⟩, ⟨_, rfl, rfl⟩, trivial⟩⟩
          exact rx_nil
        exact rx_nil
      exact rx_nil
    exact all_nil
  rintro ⟨⟩ -
  refine w_seq ?_
  refine w_region ?_
  refine rw_t 28 rfl rfl rfl (do_fieldaddr rfl ?_)
  refine rw_u rfl rfl (n_store_box (f := 4) rfl rfl rfl (Nat.le_of_ble_eq_true rfl) rfl ?_)
  refine rw_t 29 rfl rfl rfl (do_fieldaddr rfl ?_)
  refine rw_u rfl rfl (n_store_box (f := 6) rfl rfl rfl (Nat.le_of_ble_eq_true rfl) rfl ?_)
  refine rw_nil ?_
  refine w_seq ?_
  refine w_region ?_
  refine rw_t 30 rfl rfl rfl (do_build (out := [_, _, _, _, _, _, _]) rfl rfl ?_)
  refine rw_t 6 rfl rfl rfl (n_alloc (n := 15) rfl ?_)
  refine rw_u rfl rfl (n_store_whole rfl rfl rfl rfl rfl rfl ?_)
  refine rw_nil ?_
  refine w_midS (ι := Unit) (fun _ => [(0, .val (.bool false)), (1, .ptr 10 0 0), (2, .ptr 11 0 0), (3, .ptr 12 0 0), (4, .ptr 13 0 0), (5, .ptr 14 0 0), (6, .ptr 15 0 0), (7, .ptr 16 0 0), (8, .ptr 17 0 0), (9, .ptr 18 0 0)]) (fun _ => [SO.arcs true [(⟨0, 1, 5⟩ : Arc), (⟨1, 2, 5⟩ : Arc)], SO.ints true .i64 ((makeC aw0).First), SO.ints true .i64 ((makeC aw0).Head), SO.ints true .i64 ((makeC aw0).Rev), SO.ints true .i64 ((makeC aw0).Cap), SO.ints true .i64 ((makeC aw0).Arc), SO.bools true ((makeC aw0).Back), SO.ints true .i64 ((begP aw0).Res), SO.ints true .i64 ((begP aw0).Ex), SO.ints true .i64 (((begP aw0).H).set ((1 : Int).toNat) 1), .box [.val (.int .i64 ((makeC aw0).N)), .val (.int .i64 ((makeC aw0).S)), .val (.int .i64 ((makeC aw0).T)), .slc 1 0 ((makeC aw0).First.length) none, .slc 2 0 ((makeC aw0).Head.length) none, .slc 3 0 ((makeC aw0).Rev.length) none, .slc 4 0 ((makeC aw0).Cap.length) none, .slc 5 0 ((makeC aw0).Arc.length) none, .slc 6 0 ((makeC aw0).Back.length) none], .box [.slc 7 0 ((begP aw0).Res.length) none, .slc 8 0 ((begP aw0).Ex.length) none, .slc 9 0 ((begP aw0).H.length) none], .box [.val (.int .i64 0), .val (.int .u8 1), .val (.int .i64 1), .val (.int .i64 2), .val (.int .i64 3), .val (.int .i64 1), .val (.int .i64 0)], .box [.val (.int .i64 0), .val (.int .u8 1), .val (.int .i64 1), .val (.int .i64 2), .val (.int .i64 5), .val (.int .i64 1), .val (.int .i64 0)], .box [.val (.int .i64 0), .val (.int .u8 1), .val (.int .i64 1), .val (.int .i64 2), .val (.int .i64 3), .val (.int .i64 1), .val (.int .i64 1)], .box [.val (.int .i64 0), .val (.int .u8 2), .val (.int .i64 1), .val (.int .i64 0), .val (.int .i64 0), .val (.int .i64 6), .val (.int .i64 0)], .box [.val (.int .i64 0), .val (.int .u8 2), .val (.int .i64 1), .val (.int .i64 0), .val (.int .i64 0), .val (.int .i64 6), .val (.int .i64 0)], .box [.val (.int .i64 0), .val (.int .u8 2), .val (.int .i64 1), .val (.int .i64 0), .val (.int .i64 0), .val (.int .i64 6), .val (.int .i64 0)], .box [.val (.int .i64 0), .val (.int .u8 2), .val (.int .i64 1), .val (.int .i64 0), .val (.int .i64 0), .val (.int .i64 6), .val (.int .i64 0)]]) (fun _ => True) hρ ?_ ?_
  · -- region 9
    refine w_any mixed ?_
    refine wa_drawZ [0, 0, 0, 0, 0, 0] [57, 123, 255] [1, 2] 6 rfl rfl (by decide) (by kernel_rfl) (by kernel_rfl) rfl rfl rfl (hle hρ rfl) ?_
    refine ra_q (j := 0) rfl rfl rfl rfl (n_load_boxagg [_, _, _, _, _, _, _] rfl rfl (Nat.le_of_ble_eq_true rfl) rfl ⟨rfl, rfl⟩) (by rfl) ?_
    refine ra_q (j := 1) rfl rfl rfl rfl (n_load_boxagg [_, _, _, _, _, _, _] rfl rfl (Nat.le_of_ble_eq_true rfl) rfl ⟨rfl, rfl⟩) (by rfl) ?_
    refine ra_q (j := 2) rfl rfl rfl rfl (n_load_boxagg [_, _, _, _, _, _, _] rfl rfl (Nat.le_of_ble_eq_true rfl) rfl ⟨rfl, rfl⟩) (by rfl) ?_
    refine ra_n (j := 3) rfl rfl rfl rfl (g_alloc (n := 16) rfl ⟨rfl, rfl⟩) (by rfl) (by rfl) (by rfl) ?_
    refine ra_n (j := 4) rfl rfl rfl rfl (g_alloc (n := 17) rfl ⟨rfl, rfl⟩) (by rfl) (by rfl) (by rfl) ?_
    refine ra_n (j := 5) rfl rfl rfl rfl (g_alloc (n := 18) rfl ⟨rfl, rfl⟩) (by rfl) (by rfl) (by rfl) ?_
    refine n_fin ?_ ?_
    · refine rw_u rfl rfl (n_store_whole rfl rfl rfl rfl rfl rfl ?_)
      refine rw_u rfl rfl (n_store_whole rfl rfl rfl rfl rfl rfl ?_)
      refine rw_u rfl rfl (n_store_whole rfl rfl rfl rfl rfl rfl ?_)
      refine rw_nil ?_
      exact ⟨(), [0, 1, 2, 3, 4, 5, 6, 7, 8, 9, 10, 11, 12, 13, 14, 15, 16, 17, 18], trivial, ⟨shR rfl, shR rfl, shR rfl, shR rfl, shR rfl, shR rfl, shR rfl, shR rfl, shR rfl, shR rfl, shR rfl, shR rfl, shR rfl, shR rfl, shR rfl, shR rfl, shR rfl, shR rfl, shR rfl, trivial⟩, rfl, pre_ok rfl, ⟨⟨_, rfl, rfl⟩, ⟨_, rfl, rfl⟩, ⟨_, rfl, rfl⟩, ⟨_, rfl, rfl⟩, ⟨_, rfl, rfl⟩, ⟨_, rfl, rfl⟩, ⟨_, rfl, rfl⟩, ⟨_, rfl, rfl⟩, ⟨_, rfl, rfl⟩, ⟨_, rfl, rfl⟩, trivial⟩⟩
    refine all_cons ?_ ?_
    · refine rx_step [1, 6] rfl (by kernel_rfl) rfl ?_
      refine rx_cons ?_ ?_
      · refine ⟨_, rfl, rfl, rfl, n_load_boxagg [_, _, _, _, _, _, _] rfl rfl (Nat.le_of_ble_eq_true rfl) rfl ?_⟩
        refine rx_step [6] rfl (by kernel_rfl) rfl ?_
        refine rx_cons ?_ ?_
        · refine ⟨_, rfl, rfl, rfl, do_store_boxagg rfl rfl rfl (Nat.le_of_ble_eq_true rfl) rfl (allPlain rfl) ?_⟩
          refine rx_step [7] rfl (by kernel_rfl) rfl ?_
          refine rx_cons ?_ ?_
          · refine ⟨_, rfl, rfl, rfl, do_store_boxagg rfl rfl rfl (Nat.le_of_ble_eq_true rfl) rfl (allPlain rfl) ?_⟩
            refine rx_step [8] rfl (by kernel_rfl) rfl ?_
            refine rx_cons ?_ ?_
            · refine ⟨_, rfl, rfl, rfl, do_store_boxagg rfl rfl rfl (Nat.le_of_ble_eq_true rfl) rfl (allPlain rfl) ?_⟩
              refine rx_done (by kernel_rfl) ?_
              exact ⟨(), [0, 1, 2, 3, 4, 5, 6, 7, 8, 9, 10, 11, 12, 13, 14, 15, 16, 17, 18], trivial, ⟨shR rfl, shR rfl, shR rfl, shR rfl, shR rfl, shR rfl, shR rfl, shR rfl, shR rfl, shR rfl, shR rfl, shR rfl, shR rfl, shR rfl, shR rfl, shR rfl, shR rfl, shR rfl, shR rfl, trivial⟩, rfl, pre_ok rfl, ⟨⟨_, rfl, rfl⟩, ⟨_, rfl, rfl⟩, ⟨_, rfl, rfl⟩, ⟨_, rfl, rfl⟩, ⟨_, rfl, rfl⟩, ⟨_, rfl, rfl⟩, ⟨_, rfl, rfl⟩, ⟨_, rfl, rfl⟩, ⟨_, rfl, rfl⟩, ⟨_, rfl, rfl⟩, trivial⟩⟩
            exact rx_nil
          exact rx_nil
        exact rx_nil
      refine rx_cons ?_ ?_
      · refine ⟨_, rfl, rfl, rfl, do_store_boxagg rfl rfl rfl (Nat.le_of_ble_eq_true rfl) rfl (allPlain rfl) ?_⟩
        refine rx_step [1] rfl (by kernel_rfl) rfl ?_
        refine rx_cons ?_ ?_
        · refine ⟨_, rfl, rfl, rfl, n_load_boxagg [_, _, _, _, _, _, _] rfl rfl (Nat.le_of_ble_eq_true rfl) rfl ?_⟩
          refine rx_step [7] rfl (by kernel_rfl) rfl ?_
          refine rx_cons ?_ ?_
          · refine ⟨_, rfl, rfl, rfl, do_store_boxagg rfl rfl rfl (Nat.le_of_ble_eq_true rfl) rfl (allPlain rfl) ?_⟩
            refine rx_step [8] rfl (by kernel_rfl) rfl ?_
            refine rx_cons ?_ ?_
            · refine ⟨_, rfl, rfl, rfl, do_store_boxagg rfl rfl rfl (Nat.le_of_ble_eq_true rfl) rfl (allPlain rfl) ?_⟩
              refine rx_done (by kernel_rfl) ?_
              exact ⟨(), [0, 1, 2, 3, 4, 5, 6, 7, 8, 9, 10, 11, 12, 13, 14, 15, 16, 17, 18], trivial, ⟨shR rfl, shR rfl, shR rfl, shR rfl, shR rfl, shR rfl, shR rfl, shR rfl, shR rfl, shR rfl, shR rfl, shR rfl, shR rfl, shR rfl, shR rfl, shR rfl, shR rfl, shR rfl, shR rfl, trivial⟩, rfl, pre_ok rfl, ⟨⟨_, rfl, rfl⟩, ⟨_, rfl, rfl⟩, ⟨_, rfl, rfl⟩, ⟨_, rfl, rfl⟩, ⟨_, rfl, rfl⟩, ⟨_, rfl, rfl⟩, ⟨_, rfl, rfl⟩, ⟨_, rfl, rfl⟩, ⟨_, rfl, rfl⟩, ⟨_, rfl, rfl⟩, trivial⟩⟩
            exact rx_nil
          exact rx_nil
        exact rx_nil
      exact rx_nil
    refine all_cons ?_ ?_
    · refine rx_step [1, 2, 6] rfl (by kernel_rfl) rfl ?_
      refine rx_cons ?_ ?_
      · refine ⟨_, rfl, rfl, rfl, n_load_boxagg [_, _, _, _, _, _, _] rfl rfl (Nat.le_of_ble_eq_true rfl) rfl ?_⟩
        refine rx_step [2, 6] rfl (by kernel_rfl) rfl ?_
        refine rx_cons ?_ ?_
        · refine ⟨_, rfl, rfl, rfl, n_load_boxagg [_, _, _, _, _, _, _] rfl rfl (Nat.le_of_ble_eq_true rfl) rfl ?_⟩
          refine rx_step [6] rfl (by kernel_rfl) rfl ?_
          refine rx_cons ?_ ?_
          · refine ⟨_, rfl, rfl, rfl, do_store_boxagg rfl rfl rfl (Nat.le_of_ble_eq_true rfl) rfl (allPlain rfl) ?_⟩
            refine rx_step [7] rfl (by kernel_rfl) rfl ?_
            refine rx_cons ?_ ?_
            · refine ⟨_, rfl, rfl, rfl, do_store_boxagg rfl rfl rfl (Nat.le_of_ble_eq_true rfl) rfl (allPlain rfl) ?_⟩
              refine rx_step [8] rfl (by kernel_rfl) rfl ?_
              refine rx_cons ?_ ?_
              · refine ⟨_, rfl, rfl, rfl, do_store_boxagg rfl rfl rfl (Nat.le_of_ble_eq_true rfl) rfl (allPlain rfl) ?_⟩
                refine rx_done (by kernel_rfl) ?_
                exact ⟨(), [0, 1, 2, 3, 4, 5, 6, 7, 8, 9, 10, 11, 12, 13, 14, 15, 16, 17, 18], trivial, ⟨shR rfl, shR rfl, shR rfl, shR rfl, shR rfl, shR rfl, shR rfl, shR rfl, shR rfl, shR rfl, shR rfl, shR rfl, shR rfl, shR rfl, shR rfl, shR rfl, shR rfl, shR rfl, shR rfl, trivial⟩, rfl, pre_ok rfl, ⟨⟨_, rfl, rfl⟩, ⟨_, rfl, rfl⟩, ⟨_, rfl, rfl⟩, ⟨_, rfl, rfl⟩, ⟨_, rfl, rfl⟩, ⟨_, rfl, rfl⟩, ⟨_, rfl, rfl⟩, ⟨_, rfl, rfl⟩, ⟨_, rfl, rfl⟩, ⟨_, rfl, rfl⟩, trivial⟩⟩
              exact rx_nil
            exact rx_nil
          exact rx_nil
        refine rx_cons ?_ ?_
        · refine ⟨_, rfl, rfl, rfl, do_store_boxagg rfl rfl rfl (Nat.le_of_ble_eq_true rfl) rfl (allPlain rfl) ?_⟩
          refine rx_step [2, 7] rfl (by kernel_rfl) rfl ?_
          refine rx_cons ?_ ?_
          · refine ⟨_, rfl, rfl, rfl, n_load_boxagg [_, _, _, _, _, _, _] rfl rfl (Nat.le_of_ble_eq_true rfl) rfl ?_⟩
            refine rx_step [7] rfl (by kernel_rfl) rfl ?_
            refine rx_cons ?_ ?_
            · refine ⟨_, rfl, rfl, rfl, do_store_boxagg rfl rfl rfl (Nat.le_of_ble_eq_true rfl) rfl (allPlain rfl) ?_⟩
              refine rx_step [8] rfl (by kernel_rfl) rfl ?_
              refine rx_cons ?_ ?_
              · refine ⟨_, rfl, rfl, rfl, do_store_boxagg rfl rfl rfl (Nat.le_of_ble_eq_true rfl) rfl (allPlain rfl) ?_⟩
                refine rx_done (by kernel_rfl) ?_
                exact ⟨(), [0, 1, 2, 3, 4, 5, 6, 7, 8, 9, 10, 11, 12, 13, 14, 15, 16, 17, 18], trivial, ⟨shR rfl, shR rfl, shR rfl, shR rfl, shR rfl, shR rfl, shR rfl, shR rfl, shR rfl, shR rfl, shR rfl, shR rfl, shR rfl, shR rfl, shR rfl, shR rfl, shR rfl, shR rfl, shR rfl, trivial⟩, rfl, pre_ok rfl, ⟨⟨_, rfl, rfl⟩, ⟨_, rfl, rfl⟩, ⟨_, rfl, rfl⟩, ⟨_, rfl, rfl⟩, ⟨_, rfl, rfl⟩, ⟨_, rfl, rfl⟩, ⟨_, rfl, rfl⟩, ⟨_, rfl, rfl⟩, ⟨_, rfl, rfl⟩, ⟨_, rfl, rfl⟩, trivial⟩⟩
              exact rx_nil
            exact rx_nil
          refine rx_cons ?_ ?_
          · refine ⟨_, rfl, rfl, rfl, do_store_boxagg rfl rfl rfl (Nat.le_of_ble_eq_true rfl) rfl (allPlain rfl) ?_⟩
            refine rx_step [2] rfl (by kernel_rfl) rfl ?_
            refine rx_cons ?_ ?_
            · refine ⟨_, rfl, rfl, rfl, n_load_boxagg [_, _, _, _, _, _, _] rfl rfl (Nat.le_of_ble_eq_true rfl) rfl ?_⟩
              refine rx_step [8] rfl (by kernel_rfl) rfl ?_
              refine rx_cons ?_ ?_
              · refine ⟨_, rfl, rfl, rfl, do_store_boxagg rfl rfl rfl (Nat.le_of_ble_eq_true rfl) rfl (allPlain rfl) ?_⟩
                refine rx_done (by kernel_rfl) ?_
                exact ⟨(), [0, 1, 2, 3, 4, 5, 6, 7, 8, 9, 10, 11, 12, 13, 14, 15, 16, 17, 18], trivial, ⟨shR rfl, shR rfl, shR rfl, shR rfl, shR rfl, shR rfl, shR rfl, shR rfl, shR rfl, shR rfl, shR rfl, shR rfl, shR rfl, shR rfl, shR rfl, shR rfl, shR rfl, shR rfl, shR rfl, trivial⟩, rfl, pre_ok rfl, ⟨⟨_, rfl, rfl⟩, ⟨_, rfl, rfl⟩, ⟨_, rfl, rfl⟩, ⟨_, rfl, rfl⟩, ⟨_, rfl, rfl⟩, ⟨_, rfl, rfl⟩, ⟨_, rfl, rfl⟩, ⟨_, rfl, rfl⟩, ⟨_, rfl, rfl⟩, ⟨_, rfl, rfl⟩, trivial⟩⟩
              exact rx_nil
            exact rx_nil
          exact rx_nil
        exact rx_nil
      refine rx_cons ?_ ?_
      · refine ⟨_, rfl, rfl, rfl, n_load_boxagg [_, _, _, _, _, _, _] rfl rfl (Nat.le_of_ble_eq_true rfl) rfl ?_⟩
        refine rx_step [1, 6] rfl (by kernel_rfl) rfl ?_
        refine rx_cons ?_ ?_
        · refine ⟨_, rfl, rfl, rfl, n_load_boxagg [_, _, _, _, _, _, _] rfl rfl (Nat.le_of_ble_eq_true rfl) rfl ?_⟩
          refine rx_step [6] rfl (by kernel_rfl) rfl ?_
          refine rx_cons ?_ ?_
          · refine ⟨_, rfl, rfl, rfl, do_store_boxagg rfl rfl rfl (Nat.le_of_ble_eq_true rfl) rfl (allPlain rfl) ?_⟩
            refine rx_step [7] rfl (by kernel_rfl) rfl ?_
            refine rx_cons ?_ ?_
            · refine ⟨_, rfl, rfl, rfl, do_store_boxagg rfl rfl rfl (Nat.le_of_ble_eq_true rfl) rfl (allPlain rfl) ?_⟩
              refine rx_step [8] rfl (by kernel_rfl) rfl ?_
              refine rx_cons ?_ ?_
              · refine ⟨_, rfl, rfl, rfl, do_store_boxagg rfl rfl rfl (Nat.le_of_ble_eq_true rfl) rfl (allPlain rfl) ?_⟩
                refine rx_done (by kernel_rfl) ?_
                exact ⟨(), [0, 1, 2, 3, 4, 5, 6, 7, 8, 9, 10, 11, 12, 13, 14, 15, 16, 17, 18], trivial, ⟨shR rfl, shR rfl, shR rfl, shR rfl, shR rfl, shR rfl, shR rfl, shR rfl, shR rfl, shR rfl, shR rfl, shR rfl, shR rfl, shR rfl, shR rfl, shR rfl, shR rfl, shR rfl, shR rfl, trivial⟩, rfl, pre_ok rfl, ⟨⟨_, rfl, rfl⟩, ⟨_, rfl, rfl⟩, ⟨_, rfl, rfl⟩, ⟨_, rfl, rfl⟩, ⟨_, rfl, rfl⟩, ⟨_, rfl, rfl⟩, ⟨_, rfl, rfl⟩, ⟨_, rfl, rfl⟩, ⟨_, rfl, rfl⟩, ⟨_, rfl, rfl⟩, trivial⟩⟩
              exact rx_nil
            exact rx_nil
          exact rx_nil
        refine rx_cons ?_ ?_
        · refine ⟨_, rfl, rfl, rfl, do_store_boxagg rfl rfl rfl (Nat.le_of_ble_eq_true rfl) rfl (allPlain rfl) ?_⟩
          refine rx_step [1] rfl (by kernel_rfl) rfl ?_
          refine rx_cons ?_ ?_
          · refine ⟨_, rfl, rfl, rfl, n_load_boxagg [_, _, _, _, _, _, _] rfl rfl (Nat.le_of_ble_eq_true rfl) rfl ?_⟩
            refine rx_step [7] rfl (by kernel_rfl) rfl ?_
            refine rx_cons ?_ ?_
            · refine ⟨_, rfl, rfl, rfl, do_store_boxagg rfl rfl rfl (Nat.le_of_ble_eq_true rfl) rfl (allPlain rfl) ?_⟩
              refine rx_step [8] rfl (by kernel_rfl) rfl ?_
              refine rx_cons ?_ ?_
              · refine ⟨_, rfl, rfl, rfl, do_store_boxagg rfl rfl rfl (Nat.le_of_ble_eq_true rfl) rfl (allPlain rfl) ?_⟩
                refine rx_done (by kernel_rfl) ?_
                exact ⟨(), [0, 1, 2, 3, 4, 5, 6, 7, 8, 9, 10, 11, 12, 13, 14, 15, 16, 17, 18], trivial, ⟨shR rfl, shR rfl, shR rfl, shR rfl, shR rfl, shR rfl, shR rfl, shR rfl, shR rfl, shR rfl, shR rfl, shR rfl, shR rfl, shR rfl, shR rfl, shR rfl, shR rfl, shR rfl, shR rfl, trivial⟩, rfl, pre_ok rfl, ⟨⟨_, rfl, rfl⟩, ⟨_, rfl, rfl⟩, ⟨_, rfl, rfl⟩, ⟨_, rfl, rfl⟩, ⟨_, rfl, rfl⟩, ⟨_, rfl, rfl⟩, ⟨_, rfl, rfl⟩, ⟨_, rfl, rfl⟩, ⟨_, rfl, rfl⟩, ⟨_, rfl, rfl⟩, trivial⟩⟩
              exact rx_nil
            exact rx_nil
          exact rx_nil
        exact rx_nil
      refine rx_cons ?_ ?_
      · refine ⟨_, rfl, rfl, rfl, do_store_boxagg rfl rfl rfl (Nat.le_of_ble_eq_true rfl) rfl (allPlain rfl) ?_⟩
        refine rx_step [1, 2] rfl (by kernel_rfl) rfl ?_
        refine rx_cons ?_ ?_
        · refine ⟨_, rfl, rfl, rfl, n_load_boxagg [_, _, _, _, _, _, _] rfl rfl (Nat.le_of_ble_eq_true rfl) rfl ?_⟩
          refine rx_step [2, 7] rfl (by kernel_rfl) rfl ?_
          refine rx_cons ?_ ?_
          · refine ⟨_, rfl, rfl, rfl, n_load_boxagg [_, _, _, _, _, _, _] rfl rfl (Nat.le_of_ble_eq_true rfl) rfl ?_⟩
            refine rx_step [7] rfl (by kernel_rfl) rfl ?_
            refine rx_cons ?_ ?_
            · refine ⟨_, rfl, rfl, rfl, do_store_boxagg rfl rfl rfl (Nat.le_of_ble_eq_true rfl) rfl (allPlain rfl) ?_⟩
              refine rx_step [8] rfl (by kernel_rfl) rfl ?_
              refine rx_cons ?_ ?_
              · refine ⟨_, rfl, rfl, rfl, do_store_boxagg rfl rfl rfl (Nat.le_of_ble_eq_true rfl) rfl (allPlain rfl) ?_⟩
                refine rx_done (by kernel_rfl) ?_
                exact ⟨(), [0, 1, 2, 3, 4, 5, 6, 7, 8, 9, 10, 11, 12, 13, 14, 15, 16, 17, 18], trivial, ⟨shR rfl, shR rfl, shR rfl, shR rfl, shR rfl, shR rfl, shR rfl, shR rfl, shR rfl, shR rfl, shR rfl, shR rfl, shR rfl, shR rfl, shR rfl, shR rfl, shR rfl, shR rfl, shR rfl, trivial⟩, rfl, pre_ok rfl, ⟨⟨_, rfl, rfl⟩, ⟨_, rfl, rfl⟩, ⟨_, rfl, rfl⟩, ⟨_, rfl, rfl⟩, ⟨_, rfl, rfl⟩, ⟨_, rfl, rfl⟩, ⟨_, rfl, rfl⟩, ⟨_, rfl, rfl⟩, ⟨_, rfl, rfl⟩, ⟨_, rfl, rfl⟩, trivial⟩⟩
              exact rx_nil
            exact rx_nil
          refine rx_cons ?_ ?_
          · refine ⟨_, rfl, rfl, rfl, do_store_boxagg rfl rfl rfl (Nat.le_of_ble_eq_true rfl) rfl (allPlain rfl) ?_⟩
            refine rx_step [2] rfl (by kernel_rfl) rfl ?_
            refine rx_cons ?_ ?_
            · refine ⟨_, rfl, rfl, rfl, n_load_boxagg [_, _, _, _, _, _, _] rfl rfl (Nat.le_of_ble_eq_true rfl) rfl ?_⟩
              refine rx_step [8] rfl (by kernel_rfl) rfl ?_
              refine rx_cons ?_ ?_
              · refine ⟨_, rfl, rfl, rfl, do_store_boxagg rfl rfl rfl (Nat.le_of_ble_eq_true rfl) rfl (allPlain rfl) ?_⟩
                refine rx_done (by kernel_rfl) ?_
                exact ⟨(), [0, 1, 2, 3, 4, 5, 6, 7, 8, 9, 10, 11, 12, 13, 14, 15, 16, 17, 18], trivial, ⟨shR rfl, shR rfl, shR rfl, shR rfl, shR rfl, shR rfl, shR rfl, shR rfl, shR rfl, shR rfl, shR rfl, shR rfl, shR rfl, shR rfl, shR rfl, shR rfl, shR rfl, shR rfl, shR rfl, trivial⟩, rfl, pre_ok rfl, ⟨⟨_, rfl, rfl⟩, ⟨_, rfl, rfl⟩, ⟨_, rfl, rfl⟩, ⟨_, rfl, rfl⟩, ⟨_, rfl, rfl⟩, ⟨_, rfl, rfl⟩, ⟨_, rfl, rfl⟩, ⟨_, rfl, rfl⟩, ⟨_, rfl, rfl⟩, ⟨_, rfl, rfl⟩, trivial⟩⟩
              exact rx_nil
            exact rx_nil
          exact rx_nil
        refine rx_cons ?_ ?_
        · refine ⟨_, rfl, rfl, rfl, n_load_boxagg [_, _, _, _, _, _, _] rfl rfl (Nat.le_of_ble_eq_true rfl) rfl ?_⟩
          refine rx_step [1] rfl (by kernel_rfl) rfl ?_
          refine rx_cons ?_ ?_
          · refine ⟨_, rfl, rfl, rfl, n_load_boxagg [_, _, _, _, _, _, _] rfl rfl (Nat.le_of_ble_eq_true rfl) rfl ?_⟩
            refine rx_step [7] rfl (by kernel_rfl) rfl ?_
            refine rx_cons ?_ ?_
            · refine ⟨_, rfl, rfl, rfl, do_store_boxagg rfl rfl rfl (Nat.le_of_ble_eq_true rfl) rfl (allPlain rfl) ?_⟩
              refine rx_step [8] rfl (by kernel_rfl) rfl ?_
              refine rx_cons ?_ ?_
              · refine ⟨_, rfl, rfl, rfl, do_store_boxagg rfl rfl rfl (Nat.le_of_ble_eq_true rfl) rfl (allPlain rfl) ?_⟩
                refine rx_done (by kernel_rfl) ?_
                exact ⟨(), [0, 1, 2, 3, 4, 5, 6, 7, 8, 9, 10, 11, 12, 13, 14, 15, 16, 17, 18], trivial, ⟨shR rfl, shR rfl, shR rfl, shR rfl, shR rfl, shR rfl, shR rfl, shR rfl, shR rfl, shR rfl, shR rfl, shR rfl, shR rfl, shR rfl, shR rfl, shR rfl, shR rfl, shR rfl, shR rfl, trivial⟩, rfl, pre_ok rfl, ⟨⟨_, rfl, rfl⟩, ⟨_, rfl, rfl⟩, ⟨_, rfl, rfl⟩, ⟨_, rfl, rfl⟩, ⟨_, rfl, rfl⟩, ⟨_, rfl, rfl⟩, ⟨_, rfl, rfl⟩, ⟨_, rfl, rfl⟩, ⟨_, rfl, rfl⟩, ⟨_, rfl, rfl⟩, trivial⟩⟩
              exact rx_nil
            exact rx_nil
          exact rx_nil
        exact rx_nil
      exact rx_nil
    refine all_cons ?_ ?_
    · refine rx_step [2, 6] rfl (by kernel_rfl) rfl ?_
      refine rx_cons ?_ ?_
      · refine ⟨_, rfl, rfl, rfl, n_load_boxagg [_, _, _, _, _, _, _] rfl rfl (Nat.le_of_ble_eq_true rfl) rfl ?_⟩
        refine rx_step [6] rfl (by kernel_rfl) rfl ?_
        refine rx_cons ?_ ?_
        · refine ⟨_, rfl, rfl, rfl, do_store_boxagg rfl rfl rfl (Nat.le_of_ble_eq_true rfl) rfl (allPlain rfl) ?_⟩
          refine rx_step [7] rfl (by kernel_rfl) rfl ?_
          refine rx_cons ?_ ?_
          · refine ⟨_, rfl, rfl, rfl, do_store_boxagg rfl rfl rfl (Nat.le_of_ble_eq_true rfl) rfl (allPlain rfl) ?_⟩
            refine rx_step [8] rfl (by kernel_rfl) rfl ?_
            refine rx_cons ?_ ?_
            · refine ⟨_, rfl, rfl, rfl, do_store_boxagg rfl rfl rfl (Nat.le_of_ble_eq_true rfl) rfl (allPlain rfl) ?_⟩
              refine rx_done (by kernel_rfl) ?_
              exact ⟨(), [0, 1, 2, 3, 4, 5, 6, 7, 8, 9, 10, 11, 12, 13, 14, 15, 16, 17, 18], trivial, ⟨shR rfl, shR rfl, shR rfl, shR rfl, shR rfl, shR rfl, shR rfl, shR rfl, shR rfl, shR rfl, shR rfl, shR rfl, shR rfl, shR rfl, shR rfl, shR rfl, shR rfl, shR rfl, shR rfl, trivial⟩, rfl, pre_ok rfl, ⟨⟨_, rfl, rfl⟩, ⟨_, rfl, rfl⟩, ⟨_, rfl, rfl⟩, ⟨_, rfl, rfl⟩, ⟨_, rfl, rfl⟩, ⟨_, rfl, rfl⟩, ⟨_, rfl, rfl⟩, ⟨_, rfl, rfl⟩, ⟨_, rfl, rfl⟩, ⟨_, rfl, rfl⟩, trivial⟩⟩
            exact rx_nil
          exact rx_nil
        exact rx_nil
      refine rx_cons ?_ ?_
      · refine ⟨_, rfl, rfl, rfl, do_store_boxagg rfl rfl rfl (Nat.le_of_ble_eq_true rfl) rfl (allPlain rfl) ?_⟩
        refine rx_step [2, 7] rfl (by kernel_rfl) rfl ?_
        refine rx_cons ?_ ?_
        · refine ⟨_, rfl, rfl, rfl, n_load_boxagg [_, _, _, _, _, _, _] rfl rfl (Nat.le_of_ble_eq_true rfl) rfl ?_⟩
          refine rx_step [7] rfl (by kernel_rfl) rfl ?_
          refine rx_cons ?_ ?_
          · refine ⟨_, rfl, rfl, rfl, do_store_boxagg rfl rfl rfl (Nat.le_of_ble_eq_true rfl) rfl (allPlain rfl) ?_⟩
            refine rx_step [8] rfl (by kernel_rfl) rfl ?_
            refine rx_cons ?_ ?_
            · refine ⟨_, rfl, rfl, rfl, do_store_boxagg rfl rfl rfl (Nat.le_of_ble_eq_true rfl) rfl (allPlain rfl) ?_⟩
              refine rx_done (by kernel_rfl) ?_
              exact ⟨(), [0, 1, 2, 3, 4, 5, 6, 7, 8, 9, 10, 11, 12, 13, 14, 15, 16, 17, 18], trivial, ⟨shR rfl, shR rfl, shR rfl, shR rfl, shR rfl, shR rfl, shR rfl, shR rfl, shR rfl, shR rfl, shR rfl, shR rfl, shR rfl, shR rfl, shR rfl, shR rfl, shR rfl, shR rfl, shR rfl, trivial⟩, rfl, pre_ok rfl, ⟨⟨_, rfl, rfl⟩, ⟨_, rfl, rfl⟩, ⟨_, rfl, rfl⟩, ⟨_, rfl, rfl⟩, ⟨_, rfl, rfl⟩, ⟨_, rfl, rfl⟩, ⟨_, rfl, rfl⟩, ⟨_, rfl, rfl⟩, ⟨_, rfl, rfl⟩, ⟨_, rfl, rfl⟩, trivial⟩⟩
            exact rx_nil
          exact rx_nil
        refine rx_cons ?_ ?_
        · refine ⟨_, rfl, rfl, rfl, do_store_boxagg rfl rfl rfl (Nat.le_of_ble_eq_true rfl) rfl (allPlain rfl) ?_⟩
          refine rx_step [2] rfl (by kernel_rfl) rfl ?_
          refine rx_cons ?_ ?_
          · refine ⟨_, rfl, rfl, rfl, n_load_boxagg [_, _, _, _, _, _, _] rfl rfl (Nat.le_of_ble_eq_true rfl) rfl ?_⟩
            refine rx_step [8] rfl (by kernel_rfl) rfl ?_
            refine rx_cons ?_ ?_
            · refine ⟨_, rfl, rfl, rfl, do_store_boxagg rfl rfl rfl (Nat.le_of_ble_eq_true rfl) rfl (allPlain rfl) ?_⟩
              refine rx_done (by kernel_rfl) ?_
              exact ⟨(), [0, 1, 2, 3, 4, 5, 6, 7, 8, 9, 10, 11, 12, 13, 14, 15, 16, 17, 18], trivial, ⟨shR rfl, shR rfl, shR rfl, shR rfl, shR rfl, shR rfl, shR rfl, shR rfl, shR rfl, shR rfl, shR rfl, shR rfl, shR rfl, shR rfl, shR rfl, shR rfl, shR rfl, shR rfl, shR rfl, trivial⟩, rfl, pre_ok rfl, ⟨⟨_, rfl, rfl⟩, ⟨_, rfl, rfl⟩, ⟨_, rfl, rfl⟩, ⟨_, rfl, rfl⟩, ⟨_, rfl, rfl⟩, ⟨_, rfl, rfl⟩, ⟨_, rfl, rfl⟩, ⟨_, rfl, rfl⟩, ⟨_, rfl, rfl⟩, ⟨_, rfl, rfl⟩, trivial⟩⟩
            exact rx_nil
          exact rx_nil
        exact rx_nil
      exact rx_nil
    exact all_nil
  rintro ⟨⟩ -
  refine w_seq ?_
  refine w_region ?_
  refine rw_t 34 rfl rfl rfl (do_fieldaddr rfl ?_)
  refine rw_u rfl rfl (n_store_box (f := 5) rfl rfl rfl (Nat.le_of_ble_eq_true rfl) rfl ?_)
  refine rw_t 35 rfl rfl rfl (do_fieldaddr rfl ?_)
  refine rw_u rfl rfl (n_store_box (f := 5) rfl rfl rfl (Nat.le_of_ble_eq_true rfl) rfl ?_)
  refine rw_t 36 rfl rfl rfl (do_fieldaddr rfl ?_)
  refine rw_u rfl rfl (n_store_box (f := 2) rfl rfl rfl (Nat.le_of_ble_eq_true rfl) rfl ?_)
  refine rw_nil ?_
  refine w_env [(1, .ptr 10 0 0), (2, .ptr 11 0 0), (3, .ptr 12 0 0), (4, .ptr 13 0 0), (5, .ptr 14 0 0), (6, .ptr 15 0 0), (7, .ptr 16 0 0), (8, .ptr 17 0 0), (9, .ptr 18 0 0)] ⟨⟨_, rfl, rfl⟩, ⟨_, rfl, rfl⟩, ⟨_, rfl, rfl⟩, ⟨_, rfl, rfl⟩, ⟨_, rfl, rfl⟩, ⟨_, rfl, rfl⟩, ⟨_, rfl, rfl⟩, ⟨_, rfl, rfl⟩, ⟨_, rfl, rfl⟩, trivial⟩ ?_
  refine w_seqB 0 (((((((((rightP (makeC aw0) awP ∧ legalE (makeC aw0) awP (awE 3 1 0) = 0) ∧ ¬ (strictP (makeC aw0) awP (awE 3 1 0))) ∧ strictP (makeC aw0) awP (awE 5 1 0)) ∧ legalE (makeC aw0) awP (awE 3 1 1) = 30) ∧ legalE (makeC aw0) awP (awL 1 6) = 0) ∧ legalE (makeC aw0) awP (awL 1 1) = 30) ∧ legalE (makeC aw0) awP (awL 1 7) = 30) ∧ legalE (makeC aw0) awP (awL 2 6) = 2)) ?_ ?_
  · -- region 11
    refine w_region ?_
    refine rw_t 37 rfl rfl rfl (n_load_boxagg [_, _, _, _, _, _, _, _, _] rfl rfl (Nat.le_of_ble_eq_true rfl) rfl ?_)
    refine rw_t 38 rfl rfl rfl (n_load_boxagg [_, _, _] rfl rfl (Nat.le_of_ble_eq_true rfl) rfl ?_)
    refine rw_t 39 rfl rfl rfl (do_callR (X' := .val (.bool (decide (rightP (makeC aw0) awP)))) rfl rfl (t_Right (c := (makeC aw0)) (p := awP) ((make_t aw0_small)) (aw_ex)) [1, 2, 3, 4, 5, 6, 7, 8, 9] ⟨.inr ⟨_, rfl, srv⟩, .inr ⟨_, rfl, srv⟩, .inr ⟨_, rfl, srv⟩, .inr ⟨_, rfl, srv⟩, .inr ⟨_, rfl, srv⟩, .inr ⟨_, rfl, srv⟩, .inr ⟨_, rfl, srv⟩, .inr ⟨_, rfl, srv⟩, .inr ⟨_, rfl, srv⟩, trivial⟩ rfl rfl rfl ?_)
    refine rw_t 40 rfl rfl rfl (do_move rfl ?_)
    refine rw_case 40 rfl (fun g1 => ?_) (fun g1 => ?_)
    · have kg1 := g1
      try simp only [bs] at kg1
      refine rw_gt 41 3 40 true rfl rfl rfl rfl rfl rfl g1 (n_load_boxagg [_, _, _, _, _, _, _, _, _] rfl rfl (Nat.le_of_ble_eq_true rfl) rfl ?_)
      refine rw_gt 42 3 40 true rfl rfl rfl rfl rfl rfl g1 (n_load_boxagg [_, _, _] rfl rfl (Nat.le_of_ble_eq_true rfl) rfl ?_)
      refine rw_gt 43 3 40 true rfl rfl rfl rfl rfl rfl g1 (n_load_boxagg [_, _, _, _, _, _, _] rfl rfl (Nat.le_of_ble_eq_true rfl) rfl ?_)
      refine rw_gt 44 3 40 true rfl rfl rfl rfl rfl rfl g1 (do_callR (X' := .val (.int .i64 (legalE (makeC aw0) awP (awE 3 1 0)))) rfl rfl (t_Legal (c := (makeC aw0)) (p := awP) (e := (awE 3 1 0)) ((make_ok aw0_small)) ((right_len aw_right)) ((awE_in 3 1 0 (by decide) (by decide) (by decide)))) [1, 2, 3, 4, 5, 6, 7, 8, 9] ⟨.inr ⟨_, rfl, srv⟩, .inr ⟨_, rfl, srv⟩, .inr ⟨_, rfl, srv⟩, .inr ⟨_, rfl, srv⟩, .inr ⟨_, rfl, srv⟩, .inr ⟨_, rfl, srv⟩, .inr ⟨_, rfl, srv⟩, .inr ⟨_, rfl, srv⟩, .inr ⟨_, rfl, srv⟩, trivial⟩ rfl rfl rfl ?_)
      refine rw_gt 45 3 40 true rfl rfl rfl rfl rfl rfl g1 (do_bin rfl rfl rfl ?_)
      refine rw_t 46 rfl rfl rfl (do_pick_t rfl g1 rfl ?_)
      refine rw_t 47 rfl rfl rfl (do_move rfl ?_)
      refine rw_case 47 rfl (fun g2 => ?_) (fun g2 => ?_)
      · have kg2 := g2
        try simp only [bs] at kg2
        refine rw_gt 48 10 47 true rfl rfl rfl rfl rfl rfl g2 (n_load_boxagg [_, _, _, _, _, _, _, _, _] rfl rfl (Nat.le_of_ble_eq_true rfl) rfl ?_)
        refine rw_gt 49 10 47 true rfl rfl rfl rfl rfl rfl g2 (n_load_boxagg [_, _, _] rfl rfl (Nat.le_of_ble_eq_true rfl) rfl ?_)
        refine rw_gt 50 10 47 true rfl rfl rfl rfl rfl rfl g2 (n_load_boxagg [_, _, _, _, _, _, _] rfl rfl (Nat.le_of_ble_eq_true rfl) rfl ?_)
        refine rw_gt 51 10 47 true rfl rfl rfl rfl rfl rfl g2 (do_callR (X' := .val (.bool (decide (strictP (makeC aw0) awP (awE 3 1 0))))) rfl rfl (t_Strict (c := (makeC aw0)) (p := awP) (e := (awE 3 1 0)) ((make_g aw0_small)) (aw_right) ((awE_in 3 1 0 (by decide) (by decide) (by decide)))) [1, 2, 3, 4, 5, 6, 7, 8, 9] ⟨.inr ⟨_, rfl, srv⟩, .inr ⟨_, rfl, srv⟩, .inr ⟨_, rfl, srv⟩, .inr ⟨_, rfl, srv⟩, .inr ⟨_, rfl, srv⟩, .inr ⟨_, rfl, srv⟩, .inr ⟨_, rfl, srv⟩, .inr ⟨_, rfl, srv⟩, .inr ⟨_, rfl, srv⟩, trivial⟩ rfl rfl rfl ?_)
        refine rw_gt 52 10 47 true rfl rfl rfl rfl rfl rfl g2 (do_not rfl ?_)
        refine rw_t 53 rfl rfl rfl (do_pick_t rfl g2 rfl ?_)
        refine rw_t 54 rfl rfl rfl (do_move rfl ?_)
        refine rw_case 54 rfl (fun g3 => ?_) (fun g3 => ?_)
        · have kg3 := g3
          try simp only [bs] at kg3
          refine rw_gt 55 17 54 true rfl rfl rfl rfl rfl rfl g3 (n_load_boxagg [_, _, _, _, _, _, _, _, _] rfl rfl (Nat.le_of_ble_eq_true rfl) rfl ?_)
          refine rw_gt 56 17 54 true rfl rfl rfl rfl rfl rfl g3 (n_load_boxagg [_, _, _] rfl rfl (Nat.le_of_ble_eq_true rfl) rfl ?_)
          refine rw_gt 57 17 54 true rfl rfl rfl rfl rfl rfl g3 (n_load_boxagg [_, _, _, _, _, _, _] rfl rfl (Nat.le_of_ble_eq_true rfl) rfl ?_)
          refine rw_gt 58 17 54 true rfl rfl rfl rfl rfl rfl g3 (do_callR (X' := .val (.bool (decide (strictP (makeC aw0) awP (awE 5 1 0))))) rfl rfl (t_Strict (c := (makeC aw0)) (p := awP) (e := (awE 5 1 0)) ((make_g aw0_small)) (aw_right) ((awE_in 5 1 0 (by decide) (by decide) (by decide)))) [1, 2, 3, 4, 5, 6, 7, 8, 9] ⟨.inr ⟨_, rfl, srv⟩, .inr ⟨_, rfl, srv⟩, .inr ⟨_, rfl, srv⟩, .inr ⟨_, rfl, srv⟩, .inr ⟨_, rfl, srv⟩, .inr ⟨_, rfl, srv⟩, .inr ⟨_, rfl, srv⟩, .inr ⟨_, rfl, srv⟩, .inr ⟨_, rfl, srv⟩, trivial⟩ rfl rfl rfl ?_)
          refine rw_t 59 rfl rfl rfl (do_pick_t rfl g3 rfl ?_)
          refine rw_t 60 rfl rfl rfl (do_move rfl ?_)
          refine rw_case 60 rfl (fun g4 => ?_) (fun g4 => ?_)
          · have kg4 := g4
            try simp only [bs] at kg4
            refine rw_gt 61 23 60 true rfl rfl rfl rfl rfl rfl g4 (n_load_boxagg [_, _, _, _, _, _, _, _, _] rfl rfl (Nat.le_of_ble_eq_true rfl) rfl ?_)
            refine rw_gt 62 23 60 true rfl rfl rfl rfl rfl rfl g4 (n_load_boxagg [_, _, _] rfl rfl (Nat.le_of_ble_eq_true rfl) rfl ?_)
            refine rw_gt 63 23 60 true rfl rfl rfl rfl rfl rfl g4 (n_load_boxagg [_, _, _, _, _, _, _] rfl rfl (Nat.le_of_ble_eq_true rfl) rfl ?_)
            refine rw_gt 64 23 60 true rfl rfl rfl rfl rfl rfl g4 (do_callR (X' := .val (.int .i64 (legalE (makeC aw0) awP (awE 3 1 1)))) rfl rfl (t_Legal (c := (makeC aw0)) (p := awP) (e := (awE 3 1 1)) ((make_ok aw0_small)) ((right_len aw_right)) ((awE_in 3 1 1 (by decide) (by decide) (by decide)))) [1, 2, 3, 4, 5, 6, 7, 8, 9] ⟨.inr ⟨_, rfl, srv⟩, .inr ⟨_, rfl, srv⟩, .inr ⟨_, rfl, srv⟩, .inr ⟨_, rfl, srv⟩, .inr ⟨_, rfl, srv⟩, .inr ⟨_, rfl, srv⟩, .inr ⟨_, rfl, srv⟩, .inr ⟨_, rfl, srv⟩, .inr ⟨_, rfl, srv⟩, trivial⟩ rfl rfl rfl ?_)
            refine rw_gt 65 23 60 true rfl rfl rfl rfl rfl rfl g4 (do_bin rfl rfl rfl ?_)
            refine rw_t 66 rfl rfl rfl (do_pick_t rfl g4 rfl ?_)
            refine rw_t 67 rfl rfl rfl (do_move rfl ?_)
            refine rw_case 67 rfl (fun g5 => ?_) (fun g5 => ?_)
            · have kg5 := g5
              try simp only [bs] at kg5
              refine rw_gt 68 30 67 true rfl rfl rfl rfl rfl rfl g5 (n_load_boxagg [_, _, _, _, _, _, _, _, _] rfl rfl (Nat.le_of_ble_eq_true rfl) rfl ?_)
              refine rw_gt 69 30 67 true rfl rfl rfl rfl rfl rfl g5 (n_load_boxagg [_, _, _] rfl rfl (Nat.le_of_ble_eq_true rfl) rfl ?_)
              refine rw_gt 70 30 67 true rfl rfl rfl rfl rfl rfl g5 (n_load_boxagg [_, _, _, _, _, _, _] rfl rfl (Nat.le_of_ble_eq_true rfl) rfl ?_)
              refine rw_gt 71 30 67 true rfl rfl rfl rfl rfl rfl g5 (do_callR (X' := .val (.int .i64 (legalE (makeC aw0) awP (awL 1 6)))) rfl rfl (t_Legal (c := (makeC aw0)) (p := awP) (e := (awL 1 6)) ((make_ok aw0_small)) ((right_len aw_right)) ((awL_in 1 6 (by decide) (by decide)))) [1, 2, 3, 4, 5, 6, 7, 8, 9] ⟨.inr ⟨_, rfl, srv⟩, .inr ⟨_, rfl, srv⟩, .inr ⟨_, rfl, srv⟩, .inr ⟨_, rfl, srv⟩, .inr ⟨_, rfl, srv⟩, .inr ⟨_, rfl, srv⟩, .inr ⟨_, rfl, srv⟩, .inr ⟨_, rfl, srv⟩, .inr ⟨_, rfl, srv⟩, trivial⟩ rfl rfl rfl ?_)
              refine rw_gt 72 30 67 true rfl rfl rfl rfl rfl rfl g5 (do_bin rfl rfl rfl ?_)
              refine rw_t 73 rfl rfl rfl (do_pick_t rfl g5 rfl ?_)
              refine rw_t 74 rfl rfl rfl (do_move rfl ?_)
              refine rw_case 74 rfl (fun g6 => ?_) (fun g6 => ?_)
              · have kg6 := g6
                try simp only [bs] at kg6
                refine rw_gt 75 37 74 true rfl rfl rfl rfl rfl rfl g6 (n_load_boxagg [_, _, _, _, _, _, _, _, _] rfl rfl (Nat.le_of_ble_eq_true rfl) rfl ?_)
                refine rw_gt 76 37 74 true rfl rfl rfl rfl rfl rfl g6 (n_load_boxagg [_, _, _] rfl rfl (Nat.le_of_ble_eq_true rfl) rfl ?_)
                refine rw_gt 77 37 74 true rfl rfl rfl rfl rfl rfl g6 (n_load_boxagg [_, _, _, _, _, _, _] rfl rfl (Nat.le_of_ble_eq_true rfl) rfl ?_)
                refine rw_gt 78 37 74 true rfl rfl rfl rfl rfl rfl g6 (do_callR (X' := .val (.int .i64 (legalE (makeC aw0) awP (awL 1 1)))) rfl rfl (t_Legal (c := (makeC aw0)) (p := awP) (e := (awL 1 1)) ((make_ok aw0_small)) ((right_len aw_right)) ((awL_in 1 1 (by decide) (by decide)))) [1, 2, 3, 4, 5, 6, 7, 8, 9] ⟨.inr ⟨_, rfl, srv⟩, .inr ⟨_, rfl, srv⟩, .inr ⟨_, rfl, srv⟩, .inr ⟨_, rfl, srv⟩, .inr ⟨_, rfl, srv⟩, .inr ⟨_, rfl, srv⟩, .inr ⟨_, rfl, srv⟩, .inr ⟨_, rfl, srv⟩, .inr ⟨_, rfl, srv⟩, trivial⟩ rfl rfl rfl ?_)
                refine rw_gt 79 37 74 true rfl rfl rfl rfl rfl rfl g6 (do_bin rfl rfl rfl ?_)
                refine rw_t 80 rfl rfl rfl (do_pick_t rfl g6 rfl ?_)
                refine rw_t 81 rfl rfl rfl (do_move rfl ?_)
                refine rw_case 81 rfl (fun g7 => ?_) (fun g7 => ?_)
                · have kg7 := g7
                  try simp only [bs] at kg7
                  refine rw_gt 82 44 81 true rfl rfl rfl rfl rfl rfl g7 (n_load_boxagg [_, _, _, _, _, _, _, _, _] rfl rfl (Nat.le_of_ble_eq_true rfl) rfl ?_)
                  refine rw_gt 83 44 81 true rfl rfl rfl rfl rfl rfl g7 (n_load_boxagg [_, _, _] rfl rfl (Nat.le_of_ble_eq_true rfl) rfl ?_)
                  refine rw_gt 84 44 81 true rfl rfl rfl rfl rfl rfl g7 (n_load_boxagg [_, _, _, _, _, _, _] rfl rfl (Nat.le_of_ble_eq_true rfl) rfl ?_)
                  refine rw_gt 85 44 81 true rfl rfl rfl rfl rfl rfl g7 (do_callR (X' := .val (.int .i64 (legalE (makeC aw0) awP (awL 1 7)))) rfl rfl (t_Legal (c := (makeC aw0)) (p := awP) (e := (awL 1 7)) ((make_ok aw0_small)) ((right_len aw_right)) ((awL_in 1 7 (by decide) (by decide)))) [1, 2, 3, 4, 5, 6, 7, 8, 9] ⟨.inr ⟨_, rfl, srv⟩, .inr ⟨_, rfl, srv⟩, .inr ⟨_, rfl, srv⟩, .inr ⟨_, rfl, srv⟩, .inr ⟨_, rfl, srv⟩, .inr ⟨_, rfl, srv⟩, .inr ⟨_, rfl, srv⟩, .inr ⟨_, rfl, srv⟩, .inr ⟨_, rfl, srv⟩, trivial⟩ rfl rfl rfl ?_)
                  refine rw_gt 86 44 81 true rfl rfl rfl rfl rfl rfl g7 (do_bin rfl rfl rfl ?_)
                  refine rw_t 87 rfl rfl rfl (do_pick_t rfl g7 rfl ?_)
                  refine rw_t 88 rfl rfl rfl (do_move rfl ?_)
                  refine rw_case 88 rfl (fun g8 => ?_) (fun g8 => ?_)
                  · have kg8 := g8
                    try simp only [bs] at kg8
                    refine rw_gt 89 51 88 true rfl rfl rfl rfl rfl rfl g8 (n_load_boxagg [_, _, _, _, _, _, _, _, _] rfl rfl (Nat.le_of_ble_eq_true rfl) rfl ?_)
                    refine rw_gt 90 51 88 true rfl rfl rfl rfl rfl rfl g8 (n_load_boxagg [_, _, _] rfl rfl (Nat.le_of_ble_eq_true rfl) rfl ?_)
                    refine rw_gt 91 51 88 true rfl rfl rfl rfl rfl rfl g8 (n_load_boxagg [_, _, _, _, _, _, _] rfl rfl (Nat.le_of_ble_eq_true rfl) rfl ?_)
                    refine rw_gt 92 51 88 true rfl rfl rfl rfl rfl rfl g8 (do_callR (X' := .val (.int .i64 (legalE (makeC aw0) awP (awL 2 6)))) rfl rfl (t_Legal (c := (makeC aw0)) (p := awP) (e := (awL 2 6)) ((make_ok aw0_small)) ((right_len aw_right)) ((awL_in 2 6 (by decide) (by decide)))) [1, 2, 3, 4, 5, 6, 7, 8, 9] ⟨.inr ⟨_, rfl, srv⟩, .inr ⟨_, rfl, srv⟩, .inr ⟨_, rfl, srv⟩, .inr ⟨_, rfl, srv⟩, .inr ⟨_, rfl, srv⟩, .inr ⟨_, rfl, srv⟩, .inr ⟨_, rfl, srv⟩, .inr ⟨_, rfl, srv⟩, .inr ⟨_, rfl, srv⟩, trivial⟩ rfl rfl rfl ?_)
                    refine rw_gt 93 51 88 true rfl rfl rfl rfl rfl rfl g8 (do_bin rfl rfl rfl ?_)
                    refine rw_t 94 rfl rfl rfl (do_pick_t rfl g8 rfl ?_)
                    refine rw_t 0 rfl rfl rfl (do_assign rfl ?_)
                    refine rw_nil ?_
                    refine ⟨rfl, ⟨_, rfl, by first | (simp; done) | (simp only [bs]; omega) | (simp [*]; done) | (simp; omega) | (constructor <;> intro h <;> simp_all <;> omega)⟩, ?_⟩
                    repeat (refine ⟨⟨_, rfl, rfl⟩, ?_⟩)
                    exact trivial
                  · have kg8 := g8
                    try simp only [bs] at kg8
                    refine rw_gf 89 51 88 true rfl rfl rfl rfl rfl rfl (by rw [g8]; decide) ?_
                    refine rw_gf 90 51 88 true rfl rfl rfl rfl rfl rfl (by rw [g8]; decide) ?_
                    refine rw_gf 91 51 88 true rfl rfl rfl rfl rfl rfl (by rw [g8]; decide) ?_
                    refine rw_gf 92 51 88 true rfl rfl rfl rfl rfl rfl (by rw [g8]; decide) ?_
                    refine rw_gf 93 51 88 true rfl rfl rfl rfl rfl rfl (by rw [g8]; decide) ?_
                    refine rw_t 94 rfl rfl rfl (do_pick_f rfl g8 rfl ?_)
                    refine rw_t 0 rfl rfl rfl (do_assign rfl ?_)
                    refine rw_nil ?_
                    refine ⟨rfl, ⟨_, rfl, by first | (simp; done) | (simp only [bs]; omega) | (simp [*]; done) | (simp; omega) | (constructor <;> intro h <;> simp_all <;> omega)⟩, ?_⟩
                    repeat (refine ⟨⟨_, rfl, rfl⟩, ?_⟩)
                    exact trivial
                · have kg7 := g7
                  try simp only [bs] at kg7
                  refine rw_gf 82 44 81 true rfl rfl rfl rfl rfl rfl (by rw [g7]; decide) ?_
                  refine rw_gf 83 44 81 true rfl rfl rfl rfl rfl rfl (by rw [g7]; decide) ?_
                  refine rw_gf 84 44 81 true rfl rfl rfl rfl rfl rfl (by rw [g7]; decide) ?_
                  refine rw_gf 85 44 81 true rfl rfl rfl rfl rfl rfl (by rw [g7]; decide) ?_
                  refine rw_gf 86 44 81 true rfl rfl rfl rfl rfl rfl (by rw [g7]; decide) ?_
                  refine rw_t 87 rfl rfl rfl (do_pick_f rfl g7 rfl ?_)
                  refine rw_t 88 rfl rfl rfl (do_move rfl ?_)
                  refine rw_gf 89 51 88 true rfl rfl rfl rfl rfl rfl (by decide) ?_
                  refine rw_gf 90 51 88 true rfl rfl rfl rfl rfl rfl (by decide) ?_
                  refine rw_gf 91 51 88 true rfl rfl rfl rfl rfl rfl (by decide) ?_
                  refine rw_gf 92 51 88 true rfl rfl rfl rfl rfl rfl (by decide) ?_
                  refine rw_gf 93 51 88 true rfl rfl rfl rfl rfl rfl (by decide) ?_
                  refine rw_t 94 rfl rfl rfl (do_pick_f rfl rfl rfl ?_)
                  refine rw_t 0 rfl rfl rfl (do_assign rfl ?_)
                  refine rw_nil ?_
                  refine ⟨rfl, ⟨_, rfl, by first | (simp; done) | (simp only [bs]; omega) | (simp [*]; done) | (simp; omega) | (constructor <;> intro h <;> simp_all <;> omega)⟩, ?_⟩
                  repeat (refine ⟨⟨_, rfl, rfl⟩, ?_⟩)
                  exact trivial
              · have kg6 := g6
                try simp only [bs] at kg6
                refine rw_gf 75 37 74 true rfl rfl rfl rfl rfl rfl (by rw [g6]; decide) ?_
                refine rw_gf 76 37 74 true rfl rfl rfl rfl rfl rfl (by rw [g6]; decide) ?_
                refine rw_gf 77 37 74 true rfl rfl rfl rfl rfl rfl (by rw [g6]; decide) ?_
                refine rw_gf 78 37 74 true rfl rfl rfl rfl rfl rfl (by rw [g6]; decide) ?_
                refine rw_gf 79 37 74 true rfl rfl rfl rfl rfl rfl (by rw [g6]; decide) ?_
                refine rw_t 80 rfl rfl rfl (do_pick_f rfl g6 rfl ?_)
                refine rw_t 81 rfl rfl rfl (do_move rfl ?_)
                refine rw_gf 82 44 81 true rfl rfl rfl rfl rfl rfl (by decide) ?_
                refine rw_gf 83 44 81 true rfl rfl rfl rfl rfl rfl (by decide) ?_
                refine rw_gf 84 44 81 true rfl rfl rfl rfl rfl rfl (by decide) ?_
                refine rw_gf 85 44 81 true rfl rfl rfl rfl rfl rfl (by decide) ?_
                refine rw_gf 86 44 81 true rfl rfl rfl rfl rfl rfl (by decide) ?_
                refine rw_t 87 rfl rfl rfl (do_pick_f rfl rfl rfl ?_)
                refine rw_t 88 rfl rfl rfl (do_move rfl ?_)
                refine rw_gf 89 51 88 true rfl rfl rfl rfl rfl rfl (by decide) ?_
                refine rw_gf 90 51 88 true rfl rfl rfl rfl rfl rfl (by decide) ?_
                refine rw_gf 91 51 88 true rfl rfl rfl rfl rfl rfl (by decide) ?_
                refine rw_gf 92 51 88 true rfl rfl rfl rfl rfl rfl (by decide) ?_
                refine rw_gf 93 51 88 true rfl rfl rfl rfl rfl rfl (by decide) ?_
                refine rw_t 94 rfl rfl rfl (do_pick_f rfl rfl rfl ?_)
                refine rw_t 0 rfl rfl rfl (do_assign rfl ?_)
                refine rw_nil ?_
                refine ⟨rfl, ⟨_, rfl, by first | (simp; done) | (simp only [bs]; omega) | (simp [*]; done) | (simp; omega) | (constructor <;> intro h <;> simp_all <;> omega)⟩, ?_⟩
                repeat (refine ⟨⟨_, rfl, rfl⟩, ?_⟩)
                exact trivial
            · have kg5 := g5
              try simp only [bs] at kg5
              refine rw_gf 68 30 67 true rfl rfl rfl rfl rfl rfl (by rw [g5]; decide) ?_
              refine rw_gf 69 30 67 true rfl rfl rfl rfl rfl rfl (by rw [g5]; decide) ?_
              refine rw_gf 70 30 67 true rfl rfl rfl rfl rfl rfl (by rw [g5]; decide) ?_
              refine rw_gf 71 30 67 true rfl rfl rfl rfl rfl rfl (by rw [g5]; decide) ?_
              refine rw_gf 72 30 67 true rfl rfl rfl rfl rfl rfl (by rw [g5]; decide) ?_
              refine rw_t 73 rfl rfl rfl (do_pick_f rfl g5 rfl ?_)
              refine rw_t 74 rfl rfl rfl (do_move rfl ?_)
              refine rw_gf 75 37 74 true rfl rfl rfl rfl rfl rfl (by decide) ?_
              refine rw_gf 76 37 74 true rfl rfl rfl rfl rfl rfl (by decide) ?_
              refine rw_gf 77 37 74 true rfl rfl rfl rfl rfl rfl (by decide) ?_
              refine rw_gf 78 37 74 true rfl rfl rfl rfl rfl rfl (by decide) ?_
              refine rw_gf 79 37 74 true rfl rfl rfl rfl rfl rfl (by decide) ?_
              refine rw_t 80 rfl rfl rfl (do_pick_f rfl rfl rfl ?_)
              refine rw_t 81 rfl rfl rfl (do_move rfl ?_)
              refine rw_gf 82 44 81 true rfl rfl rfl rfl rfl rfl (by decide) ?_
              refine rw_gf 83 44 81 true rfl rfl rfl rfl rfl rfl (by decide) ?_
              refine rw_gf 84 44 81 true rfl rfl rfl rfl rfl rfl (by decide) ?_
              refine rw_gf 85 44 81 true rfl rfl rfl rfl rfl rfl (by decide) ?_
              refine rw_gf 86 44 81 true rfl rfl rfl rfl rfl rfl (by decide) ?_
              refine rw_t 87 rfl rfl rfl (do_pick_f rfl rfl rfl ?_)
              refine rw_t 88 rfl rfl rfl (do_move rfl ?_)
              refine rw_gf 89 51 88 true rfl rfl rfl rfl rfl rfl (by decide) ?_
              refine rw_gf 90 51 88 true rfl rfl rfl rfl rfl rfl (by decide) ?_
              refine rw_gf 91 51 88 true rfl rfl rfl rfl rfl rfl (by decide) ?_
              refine rw_gf 92 51 88 true rfl rfl rfl rfl rfl rfl (by decide) ?_
              refine rw_gf 93 51 88 true rfl rfl rfl rfl rfl rfl (by decide) ?_
              refine rw_t 94 rfl rfl rfl (do_pick_f rfl rfl rfl ?_)
              refine rw_t 0 rfl rfl rfl (do_assign rfl ?_)
              refine rw_nil ?_
              refine ⟨rfl, ⟨_, rfl, by first | (simp; done) | (simp only [bs]; omega) | (simp [*]; done) | (simp; omega) | (constructor <;> intro h <;> simp_all <;> omega)⟩, ?_⟩
              repeat (refine ⟨⟨_, rfl, rfl⟩, ?_⟩)
              exact trivial
          · have kg4 := g4
            try simp only [bs] at kg4
            refine rw_gf 61 23 60 true rfl rfl rfl rfl rfl rfl (by rw [g4]; decide) ?_
            refine rw_gf 62 23 60 true rfl rfl rfl rfl rfl rfl (by rw [g4]; decide) ?_
            refine rw_gf 63 23 60 true rfl rfl rfl rfl rfl rfl (by rw [g4]; decide) ?_
            refine rw_gf 64 23 60 true rfl rfl rfl rfl rfl rfl (by rw [g4]; decide) ?_
            refine rw_gf 65 23 60 true rfl rfl rfl rfl rfl rfl (by rw [g4]; decide) ?_
            refine rw_t 66 rfl rfl rfl (do_pick_f rfl g4 rfl ?_)
            refine rw_t 67 rfl rfl rfl (do_move rfl ?_)
            refine rw_gf 68 30 67 true rfl rfl rfl rfl rfl rfl (by decide) ?_
            refine rw_gf 69 30 67 true rfl rfl rfl rfl rfl rfl (by decide) ?_
            refine rw_gf 70 30 67 true rfl rfl rfl rfl rfl rfl (by decide) ?_
            refine rw_gf 71 30 67 true rfl rfl rfl rfl rfl rfl (by decide) ?_
            refine rw_gf 72 30 67 true rfl rfl rfl rfl rfl rfl (by decide) ?_
            refine rw_t 73 rfl rfl rfl (do_pick_f rfl rfl rfl ?_)
            refine rw_t 74 rfl rfl rfl (do_move rfl ?_)
            refine rw_gf 75 37 74 true rfl rfl rfl rfl rfl rfl (by decide) ?_
            refine rw_gf 76 37 74 true rfl rfl rfl rfl rfl rfl (by decide) ?_
            refine rw_gf 77 37 74 true rfl rfl rfl rfl rfl rfl (by decide) ?_
            refine rw_gf 78 37 74 true rfl rfl rfl rfl rfl rfl (by decide) ?_
            refine rw_gf 79 37 74 true rfl rfl rfl rfl rfl rfl (by decide) ?_
            refine rw_t 80 rfl rfl rfl (do_pick_f rfl rfl rfl ?_)
            refine rw_t 81 rfl rfl rfl (do_move rfl ?_)
            refine rw_gf 82 44 81 true rfl rfl rfl rfl rfl rfl (by decide) ?_
            refine rw_gf 83 44 81 true rfl rfl rfl rfl rfl rfl (by decide) ?_
            refine rw_gf 84 44 81 true rfl rfl rfl rfl rfl rfl (by decide) ?_
            refine rw_gf 85 44 81 true rfl rfl rfl rfl rfl rfl (by decide) ?_
            refine rw_gf 86 44 81 true rfl rfl rfl rfl rfl rfl (by decide) ?_
            refine rw_t 87 rfl rfl rfl (do_pick_f rfl rfl rfl ?_)
            refine rw_t 88 rfl rfl rfl (do_move rfl ?_)
            refine rw_gf 89 51 88 true rfl rfl rfl rfl rfl rfl (by decide) ?_
            refine rw_gf 90 51 88 true rfl rfl rfl rfl rfl rfl (by decide) ?_
            refine rw_gf 91 51 88 true rfl rfl rfl rfl rfl rfl (by decide) ?_
            refine rw_gf 92 51 88 true rfl rfl rfl rfl rfl rfl (by decide) ?_
            refine rw_gf 93 51 88 true rfl rfl rfl rfl rfl rfl (by decide) ?_
            refine rw_t 94 rfl rfl rfl (do_pick_f rfl rfl rfl ?_)
            refine rw_t 0 rfl rfl rfl (do_assign rfl ?_)
            refine rw_nil ?_
            refine ⟨rfl, ⟨_, rfl, by first | (simp; done) | (simp only [bs]; omega) | (simp [*]; done) | (simp; omega) | (constructor <;> intro h <;> simp_all <;> omega)⟩, ?_⟩
            repeat (refine ⟨⟨_, rfl, rfl⟩, ?_⟩)
            exact trivial
        · have kg3 := g3
          try simp only [bs] at kg3
          refine rw_gf 55 17 54 true rfl rfl rfl rfl rfl rfl (by rw [g3]; decide) ?_
          refine rw_gf 56 17 54 true rfl rfl rfl rfl rfl rfl (by rw [g3]; decide) ?_
          refine rw_gf 57 17 54 true rfl rfl rfl rfl rfl rfl (by rw [g3]; decide) ?_
          refine rw_gf 58 17 54 true rfl rfl rfl rfl rfl rfl (by rw [g3]; decide) ?_
          refine rw_t 59 rfl rfl rfl (do_pick_f rfl g3 rfl ?_)
          refine rw_t 60 rfl rfl rfl (do_move rfl ?_)
          refine rw_gf 61 23 60 true rfl rfl rfl rfl rfl rfl (by decide) ?_
          refine rw_gf 62 23 60 true rfl rfl rfl rfl rfl rfl (by decide) ?_
          refine rw_gf 63 23 60 true rfl rfl rfl rfl rfl rfl (by decide) ?_
          refine rw_gf 64 23 60 true rfl rfl rfl rfl rfl rfl (by decide) ?_
          refine rw_gf 65 23 60 true rfl rfl rfl rfl rfl rfl (by decide) ?_
          refine rw_t 66 rfl rfl rfl (do_pick_f rfl rfl rfl ?_)
          refine rw_t 67 rfl rfl rfl (do_move rfl ?_)
          refine rw_gf 68 30 67 true rfl rfl rfl rfl rfl rfl (by decide) ?_
          refine rw_gf 69 30 67 true rfl rfl rfl rfl rfl rfl (by decide) ?_
          refine rw_gf 70 30 67 true rfl rfl rfl rfl rfl rfl (by decide) ?_
          refine rw_gf 71 30 67 true rfl rfl rfl rfl rfl rfl (by decide) ?_
          refine rw_gf 72 30 67 true rfl rfl rfl rfl rfl rfl (by decide) ?_
          refine rw_t 73 rfl rfl rfl (do_pick_f rfl rfl rfl ?_)
          refine rw_t 74 rfl rfl rfl (do_move rfl ?_)
          refine rw_gf 75 37 74 true rfl rfl rfl rfl rfl rfl (by decide) ?_
          refine rw_gf 76 37 74 true rfl rfl rfl rfl rfl rfl (by decide) ?_
          refine rw_gf 77 37 74 true rfl rfl rfl rfl rfl rfl (by decide) ?_
          refine rw_gf 78 37 74 true rfl rfl rfl rfl rfl rfl (by decide) ?_
          refine rw_gf 79 37 74 true rfl rfl rfl rfl rfl rfl (by decide) ?_
          refine rw_t 80 rfl rfl rfl (do_pick_f rfl rfl rfl ?_)
          refine rw_t 81 rfl rfl rfl (do_move rfl ?_)
          refine rw_gf 82 44 81 true rfl rfl rfl rfl rfl rfl (by decide) ?_
          refine rw_gf 83 44 81 true rfl rfl rfl rfl rfl rfl (by decide) ?_
          refine rw_gf 84 44 81 true rfl rfl rfl rfl rfl rfl (by decide) ?_
          refine rw_gf 85 44 81 true rfl rfl rfl rfl rfl rfl (by decide) ?_
          refine rw_gf 86 44 81 true rfl rfl rfl rfl rfl rfl (by decide) ?_
          refine rw_t 87 rfl rfl rfl (do_pick_f rfl rfl rfl ?_)
          refine rw_t 88 rfl rfl rfl (do_move rfl ?_)
          refine rw_gf 89 51 88 true rfl rfl rfl rfl rfl rfl (by decide) ?_
          refine rw_gf 90 51 88 true rfl rfl rfl rfl rfl rfl (by decide) ?_
          refine rw_gf 91 51 88 true rfl rfl rfl rfl rfl rfl (by decide) ?_
          refine rw_gf 92 51 88 true rfl rfl rfl rfl rfl rfl (by decide) ?_
          refine rw_gf 93 51 88 true rfl rfl rfl rfl rfl rfl (by decide) ?_
          refine rw_t 94 rfl rfl rfl (do_pick_f rfl rfl rfl ?_)
          refine rw_t 0 rfl rfl rfl (do_assign rfl ?_)
          refine rw_nil ?_
          refine ⟨rfl, ⟨_, rfl, by first | (simp; done) | (simp only [bs]; omega) | (simp [*]; done) | (simp; omega) | (constructor <;> intro h <;> simp_all <;> omega)⟩, ?_⟩
          repeat (refine ⟨⟨_, rfl, rfl⟩, ?_⟩)
          exact trivial
      · have kg2 := g2
        try simp only [bs] at kg2
        refine rw_gf 48 10 47 true rfl rfl rfl rfl rfl rfl (by rw [g2]; decide) ?_
        refine rw_gf 49 10 47 true rfl rfl rfl rfl rfl rfl (by rw [g2]; decide) ?_
        refine rw_gf 50 10 47 true rfl rfl rfl rfl rfl rfl (by rw [g2]; decide) ?_
        refine rw_gf 51 10 47 true rfl rfl rfl rfl rfl rfl (by rw [g2]; decide) ?_
        refine rw_gf 52 10 47 true rfl rfl rfl rfl rfl rfl (by rw [g2]; decide) ?_
        refine rw_t 53 rfl rfl rfl (do_pick_f rfl g2 rfl ?_)
        refine rw_t 54 rfl rfl rfl (do_move rfl ?_)
        refine rw_gf 55 17 54 true rfl rfl rfl rfl rfl rfl (by decide) ?_
        refine rw_gf 56 17 54 true rfl rfl rfl rfl rfl rfl (by decide) ?_
        refine rw_gf 57 17 54 true rfl rfl rfl rfl rfl rfl (by decide) ?_
        refine rw_gf 58 17 54 true rfl rfl rfl rfl rfl rfl (by decide) ?_
        refine rw_t 59 rfl rfl rfl (do_pick_f rfl rfl rfl ?_)
        refine rw_t 60 rfl rfl rfl (do_move rfl ?_)
        refine rw_gf 61 23 60 true rfl rfl rfl rfl rfl rfl (by decide) ?_
        refine rw_gf 62 23 60 true rfl rfl rfl rfl rfl rfl (by decide) ?_
        refine rw_gf 63 23 60 true rfl rfl rfl rfl rfl rfl (by decide) ?_
        refine rw_gf 64 23 60 true rfl rfl rfl rfl rfl rfl (by decide) ?_
        refine rw_gf 65 23 60 true rfl rfl rfl rfl rfl rfl (by decide) ?_
        refine rw_t 66 rfl rfl rfl (do_pick_f rfl rfl rfl ?_)
        refine rw_t 67 rfl rfl rfl (do_move rfl ?_)
        refine rw_gf 68 30 67 true rfl rfl rfl rfl rfl rfl (by decide) ?_
        refine rw_gf 69 30 67 true rfl rfl rfl rfl rfl rfl (by decide) ?_
        refine rw_gf 70 30 67 true rfl rfl rfl rfl rfl rfl (by decide) ?_
        refine rw_gf 71 30 67 true rfl rfl rfl rfl rfl rfl (by decide) ?_
        refine rw_gf 72 30 67 true rfl rfl rfl rfl rfl rfl (by decide) ?_
        refine rw_t 73 rfl rfl rfl (do_pick_f rfl rfl rfl ?_)
        refine rw_t 74 rfl rfl rfl (do_move rfl ?_)
        refine rw_gf 75 37 74 true rfl rfl rfl rfl rfl rfl (by decide) ?_
        refine rw_gf 76 37 74 true rfl rfl rfl rfl rfl rfl (by decide) ?_
        refine rw_gf 77 37 74 true rfl rfl rfl rfl rfl rfl (by decide) ?_
        refine rw_gf 78 37 74 true rfl rfl rfl rfl rfl rfl (by decide) ?_
        refine rw_gf 79 37 74 true rfl rfl rfl rfl rfl rfl (by decide) ?_
        refine rw_t 80 rfl rfl rfl (do_pick_f rfl rfl rfl ?_)
        refine rw_t 81 rfl rfl rfl (do_move rfl ?_)
        refine rw_gf 82 44 81 true rfl rfl rfl rfl rfl rfl (by decide) ?_
        refine rw_gf 83 44 81 true rfl rfl rfl rfl rfl rfl (by decide) ?_
        refine rw_gf 84 44 81 true rfl rfl rfl rfl rfl rfl (by decide) ?_
        refine rw_gf 85 44 81 true rfl rfl rfl rfl rfl rfl (by decide) ?_
        refine rw_gf 86 44 81 true rfl rfl rfl rfl rfl rfl (by decide) ?_
        refine rw_t 87 rfl rfl rfl (do_pick_f rfl rfl rfl ?_)
        refine rw_t 88 rfl rfl rfl (do_move rfl ?_)
        refine rw_gf 89 51 88 true rfl rfl rfl rfl rfl rfl (by decide) ?_
        refine rw_gf 90 51 88 true rfl rfl rfl rfl rfl rfl (by decide) ?_
        refine rw_gf 91 51 88 true rfl rfl rfl rfl rfl rfl (by decide) ?_
        refine rw_gf 92 51 88 true rfl rfl rfl rfl rfl rfl (by decide) ?_
        refine rw_gf 93 51 88 true rfl rfl rfl rfl rfl rfl (by decide) ?_
        refine rw_t 94 rfl rfl rfl (do_pick_f rfl rfl rfl ?_)
        refine rw_t 0 rfl rfl rfl (do_assign rfl ?_)
        refine rw_nil ?_
        refine ⟨rfl, ⟨_, rfl, by first | (simp; done) | (simp only [bs]; omega) | (simp [*]; done) | (simp; omega) | (constructor <;> intro h <;> simp_all <;> omega)⟩, ?_⟩
        repeat (refine ⟨⟨_, rfl, rfl⟩, ?_⟩)
        exact trivial
    · have kg1 := g1
      try simp only [bs] at kg1
      refine rw_gf 41 3 40 true rfl rfl rfl rfl rfl rfl (by rw [g1]; decide) ?_
      refine rw_gf 42 3 40 true rfl rfl rfl rfl rfl rfl (by rw [g1]; decide) ?_
      refine rw_gf 43 3 40 true rfl rfl rfl rfl rfl rfl (by rw [g1]; decide) ?_
      refine rw_gf 44 3 40 true rfl rfl rfl rfl rfl rfl (by rw [g1]; decide) ?_
      refine rw_gf 45 3 40 true rfl rfl rfl rfl rfl rfl (by rw [g1]; decide) ?_
      refine rw_t 46 rfl rfl rfl (do_pick_f rfl g1 rfl ?_)
      refine rw_t 47 rfl rfl rfl (do_move rfl ?_)
      refine rw_gf 48 10 47 true rfl rfl rfl rfl rfl rfl (by decide) ?_
      refine rw_gf 49 10 47 true rfl rfl rfl rfl rfl rfl (by decide) ?_
      refine rw_gf 50 10 47 true rfl rfl rfl rfl rfl rfl (by decide) ?_
      refine rw_gf 51 10 47 true rfl rfl rfl rfl rfl rfl (by decide) ?_
      refine rw_gf 52 10 47 true rfl rfl rfl rfl rfl rfl (by decide) ?_
      refine rw_t 53 rfl rfl rfl (do_pick_f rfl rfl rfl ?_)
      refine rw_t 54 rfl rfl rfl (do_move rfl ?_)
      refine rw_gf 55 17 54 true rfl rfl rfl rfl rfl rfl (by decide) ?_
      refine rw_gf 56 17 54 true rfl rfl rfl rfl rfl rfl (by decide) ?_
      refine rw_gf 57 17 54 true rfl rfl rfl rfl rfl rfl (by decide) ?_
      refine rw_gf 58 17 54 true rfl rfl rfl rfl rfl rfl (by decide) ?_
      refine rw_t 59 rfl rfl rfl (do_pick_f rfl rfl rfl ?_)
      refine rw_t 60 rfl rfl rfl (do_move rfl ?_)
      refine rw_gf 61 23 60 true rfl rfl rfl rfl rfl rfl (by decide) ?_
      refine rw_gf 62 23 60 true rfl rfl rfl rfl rfl rfl (by decide) ?_
      refine rw_gf 63 23 60 true rfl rfl rfl rfl rfl rfl (by decide) ?_
      refine rw_gf 64 23 60 true rfl rfl rfl rfl rfl rfl (by decide) ?_
      refine rw_gf 65 23 60 true rfl rfl rfl rfl rfl rfl (by decide) ?_
      refine rw_t 66 rfl rfl rfl (do_pick_f rfl rfl rfl ?_)
      refine rw_t 67 rfl rfl rfl (do_move rfl ?_)
      refine rw_gf 68 30 67 true rfl rfl rfl rfl rfl rfl (by decide) ?_
      refine rw_gf 69 30 67 true rfl rfl rfl rfl rfl rfl (by decide) ?_
      refine rw_gf 70 30 67 true rfl rfl rfl rfl rfl rfl (by decide) ?_
      refine rw_gf 71 30 67 true rfl rfl rfl rfl rfl rfl (by decide) ?_
      refine rw_gf 72 30 67 true rfl rfl rfl rfl rfl rfl (by decide) ?_
      refine rw_t 73 rfl rfl rfl (do_pick_f rfl rfl rfl ?_)
      refine rw_t 74 rfl rfl rfl (do_move rfl ?_)
      refine rw_gf 75 37 74 true rfl rfl rfl rfl rfl rfl (by decide) ?_
      refine rw_gf 76 37 74 true rfl rfl rfl rfl rfl rfl (by decide) ?_
      refine rw_gf 77 37 74 true rfl rfl rfl rfl rfl rfl (by decide) ?_
      refine rw_gf 78 37 74 true rfl rfl rfl rfl rfl rfl (by decide) ?_
      refine rw_gf 79 37 74 true rfl rfl rfl rfl rfl rfl (by decide) ?_
      refine rw_t 80 rfl rfl rfl (do_pick_f rfl rfl rfl ?_)
      refine rw_t 81 rfl rfl rfl (do_move rfl ?_)
      refine rw_gf 82 44 81 true rfl rfl rfl rfl rfl rfl (by decide) ?_
      refine rw_gf 83 44 81 true rfl rfl rfl rfl rfl rfl (by decide) ?_
      refine rw_gf 84 44 81 true rfl rfl rfl rfl rfl rfl (by decide) ?_
      refine rw_gf 85 44 81 true rfl rfl rfl rfl rfl rfl (by decide) ?_
      refine rw_gf 86 44 81 true rfl rfl rfl rfl rfl rfl (by decide) ?_
      refine rw_t 87 rfl rfl rfl (do_pick_f rfl rfl rfl ?_)
      refine rw_t 88 rfl rfl rfl (do_move rfl ?_)
      refine rw_gf 89 51 88 true rfl rfl rfl rfl rfl rfl (by decide) ?_
      refine rw_gf 90 51 88 true rfl rfl rfl rfl rfl rfl (by decide) ?_
      refine rw_gf 91 51 88 true rfl rfl rfl rfl rfl rfl (by decide) ?_
      refine rw_gf 92 51 88 true rfl rfl rfl rfl rfl rfl (by decide) ?_
      refine rw_gf 93 51 88 true rfl rfl rfl rfl rfl rfl (by decide) ?_
      refine rw_t 94 rfl rfl rfl (do_pick_f rfl rfl rfl ?_)
      refine rw_t 0 rfl rfl rfl (do_assign rfl ?_)
      refine rw_nil ?_
      refine ⟨rfl, ⟨_, rfl, by first | (simp; done) | (simp only [bs]; omega) | (simp [*]; done) | (simp; omega) | (constructor <;> intro h <;> simp_all <;> omega)⟩, ?_⟩
      repeat (refine ⟨⟨_, rfl, rfl⟩, ?_⟩)
      exact trivial
  intro b1 hb1
  refine w_ret ?_
  exact ret_eq (.inl rfl) (.cons (res_tmp rfl) .nil) [] (Eq.symm (bool_congr ((hb1.2 aw_all).symm))) trivial rfl (pre_ok rfl)
end Go.Proofs

set_option linter.unusedVariables false
namespace Go.Proofs
open Go Go.Sx Go.RowKit
abbrev encAct (x : Act) : List Value := [.int .i64 x.e.who, .int .u8 x.e.what, .int .i64 x.e.u, .int .i64 x.e.arc, .int .i64 x.e.d, .int .i64 x.e.h, .int .i64 x.e.low, .bool x.raw, .int .u8 x.fit]
abbrev Act.none : Act := ⟨Event.none, false, 0⟩
abbrev SO.acts (own : Bool) (xs : List Act) : SO := .arr Act own 9 encAct Act.none xs
theorem slc_eq {o off off' len len' : Nat} {cap : Option Nat} (h : off = off') (k : len = len') : SV.slc o off len cap = SV.slc o off' len' cap := by rw [h, k]
theorem right_in64 {c : Csr} (h : CsrT c) {p : Pre} (hp : rightP c p) : ∀ x ∈ p.Ex, In64 x := by
  intro x hx
  obtain ⟨i, hi, rfl⟩ := List.mem_iff_getElem.1 hx
  have h1 := (right_ok h hp).exv i (by have := hp.1.2.1; omega)
  simp only [List.getD, List.getElem?_eq_getElem hi, Option.getD_some] at h1
  unfold In64; omega
theorem fit_in {c : Csr} (h : CsrOK c) {p : Pre} (hp : PreOK c p) {x : Act} (hx : EvIn x.e) : EvIn (fitE c p x) := by
  unfold fitE
  split
  · exact hx
  · have hn := h.n
    have hu0 := among_lo x.e.u c.N
    have hu1 := among_hi x.e.u (n := c.N) (by omega)
    have hm := h.mono (Among x.e.u c.N).toNat (by omega)
    have hhv := hp.hv (Among x.e.u c.N).toNat (by omega)
    have hhd := h.head
    have hmt : (Among x.e.u c.N + 1).toNat = (Among x.e.u c.N).toNat + 1 := by omega
    have h30 := among_lo x.e.h 3
    have h31 := among_hi x.e.h (n := 3) (by omega)
    have h20 := among_lo x.e.low 2
    have h21 := among_hi x.e.low (n := 2) (by omega)
    dsimp only
    split
    · exact ⟨by unfold In64; dsimp only; omega, hx.arc, hx.d, by unfold In64; dsimp only; omega, hx.low⟩
    · split
      · rename_i hmany
        rw [hmt] at hmany
        have ha0 := among_lo x.e.arc (c.First.getD (Among x.e.u c.N + 1).toNat 0 - c.First.getD (Among x.e.u c.N).toNat 0)
        have ha1 := among_hi x.e.arc (n := c.First.getD (Among x.e.u c.N + 1).toNat 0 - c.First.getD (Among x.e.u c.N).toNat 0) (by rw [hmt]; omega)
        have hrv : 0 ≤ p.Res.getD (c.First.getD (Among x.e.u c.N).toNat 0 + Among x.e.arc (c.First.getD (Among x.e.u c.N + 1).toNat 0 - c.First.getD (Among x.e.u c.N).toNat 0)).toNat 0 ∧ p.Res.getD (c.First.getD (Among x.e.u c.N).toNat 0 + Among x.e.arc (c.First.getD (Among x.e.u c.N + 1).toNat 0 - c.First.getD (Among x.e.u c.N).toNat 0)).toNat 0 ≤ 4611686018427387904 := by
          have q1 := hp.resv (c.First.getD (Among x.e.u c.N).toNat 0 + Among x.e.arc (c.First.getD (Among x.e.u c.N + 1).toNat 0 - c.First.getD (Among x.e.u c.N).toNat 0)).toNat (by rw [hmt] at *; omega)
          have q2 := h.cp (c.First.getD (Among x.e.u c.N).toNat 0 + Among x.e.arc (c.First.getD (Among x.e.u c.N + 1).toNat 0 - c.First.getD (Among x.e.u c.N).toNat 0)).toNat (by rw [hmt] at *; omega)
          omega
        have hmd : 0 ≤ mostD p (Among x.e.u c.N) (c.First.getD (Among x.e.u c.N).toNat 0 + Among x.e.arc (c.First.getD (Among x.e.u c.N + 1).toNat 0 - c.First.getD (Among x.e.u c.N).toNat 0)) ∧ mostD p (Among x.e.u c.N) (c.First.getD (Among x.e.u c.N).toNat 0 + Among x.e.arc (c.First.getD (Among x.e.u c.N + 1).toNat 0 - c.First.getD (Among x.e.u c.N).toNat 0)) ≤ 4611686018427387904 := by
          unfold mostD
          split <;> split <;> omega
        refine ⟨by unfold In64; dsimp only; omega, ?_, ?_, by unfold In64; dsimp only; omega, by unfold In64; dsimp only; omega⟩
        · unfold In64; dsimp only; rw [hmt] at *; omega
        · unfold In64; dsimp only
          unfold halfD
          split
          · have := Int.tdiv_eq_ediv_of_nonneg (b := 2) hmd.1
            rw [this]; omega
          · omega
      · exact ⟨by unfold In64; dsimp only; omega, hx.arc, hx.d, by unfold In64; dsimp only; omega, by unfold In64; dsimp only; omega⟩
end Go.Proofs

set_option linter.unusedVariables false
namespace Go.Proofs.P7
open Go Go.Sx Go.RowKit
set_option maxHeartbeats 8000000 in
set_option synthInstance.maxHeartbeats 400000 in
set_option synthInstance.maxSize 2000 in
theorem t_Len (c : Csr) : Tri Try.prog 31 [.agg [.val (.int .i64 c.N), .val (.int .i64 c.S), .val (.int .i64 c.T), .slc 0 0 c.First.length none, .slc 1 0 c.Head.length none, .slc 2 0 c.Rev.length none, .slc 3 0 c.Cap.length none, .slc 4 0 c.Arc.length none, .slc 5 0 c.Back.length none]] [SO.ints false .i64 c.First, SO.ints false .i64 c.Head, SO.ints false .i64 c.Rev, SO.ints false .i64 c.Cap, SO.ints false .i64 c.Arc, SO.bools false c.Back] (fun s H => s = .val (.int .i64 ((c.Head.length : Nat) : Int)) ∧ H = [SO.ints false .i64 c.First, SO.ints false .i64 c.Head, SO.ints false .i64 c.Rev, SO.ints false .i64 c.Cap, SO.ints false .i64 c.Arc, SO.bools false c.Back]) := by
  refine tri_of_w (fn := Try.f31) Try.func31 rfl (by simp [Try.f31]) ?_
  intro ρ w hρ
  refine w_seq ?_
  refine w_region ?_
  refine rw_t 1 rfl rfl rfl (n_box_agg (n := 6) rfl rfl ?_)
  refine rw_t 2 rfl rfl rfl (do_assign rfl ?_)
  refine rw_nil ?_
  refine w_seq ?_
  refine w_region ?_
  refine rw_t 3 rfl rfl rfl (do_fieldaddr rfl ?_)
  refine rw_t 4 rfl rfl rfl (do_load_box rfl rfl rfl ?_)
  refine rw_t 5 rfl rfl rfl (do_len rfl ?_)
  refine rw_t 2 rfl rfl rfl (do_assign rfl ?_)
  refine rw_nil ?_
  refine w_ret ?_
  exact ret_eq (.inl rfl) (.cons (res_tmp rfl) .nil) [0, 1, 2, 3, 4, 5] (rfl) ⟨shR rfl, shR rfl, shR rfl, shR rfl, shR rfl, shR rfl, trivial⟩ rfl (pre_ok rfl)
set_option maxHeartbeats 8000000 in
set_option synthInstance.maxHeartbeats 400000 in
set_option synthInstance.maxSize 2000 in
theorem t_Tail (c : Csr) (a : Int) (h : CsrT c) (ha : 0 ≤ a ∧ a < c.Head.length) : Tri Try.prog 57 [.agg [.val (.int .i64 c.N), .val (.int .i64 c.S), .val (.int .i64 c.T), .slc 0 0 c.First.length none, .slc 1 0 c.Head.length none, .slc 2 0 c.Rev.length none, .slc 3 0 c.Cap.length none, .slc 4 0 c.Arc.length none, .slc 5 0 c.Back.length none], .val (.int .i64 a)] [SO.ints false .i64 c.First, SO.ints false .i64 c.Head, SO.ints false .i64 c.Rev, SO.ints false .i64 c.Cap, SO.ints false .i64 c.Arc, SO.bools false c.Back] (fun s H => s = .tup [.val (.int .i64 (tailOf c a)), .val (.bool true)] ∧ H = [SO.ints false .i64 c.First, SO.ints false .i64 c.Head, SO.ints false .i64 c.Rev, SO.ints false .i64 c.Cap, SO.ints false .i64 c.Arc, SO.bools false c.Back]) := by
  refine tri_of_w (fn := Try.f57) Try.func57 rfl (by simp [Try.f57]) ?_
  intro ρ w hρ
  refine w_seq ?_
  refine w_region ?_
  refine rw_t 2 rfl rfl rfl (n_box_agg (n := 6) rfl rfl ?_)
  refine rw_t 4 rfl rfl rfl (do_assign rfl ?_)
  refine rw_t 5 rfl rfl rfl (do_assign rfl ?_)
  refine rw_nil ?_
  refine w_seq ?_
  have hn := h.n
  have hf := h.first
  have hhd := h.head
  have hrl := h.rev
  have hcl := h.cap
  have hal := h.arc
  have hbl := h.back
  refine w_seqB 13 ((a < 0 ∨ a ≥ ((c.Head.length : Nat) : Int))) ?_ ?_
  · -- region 1
    refine w_region ?_
    refine rw_t 6 rfl rfl rfl (do_move rfl ?_)
    refine rw_t 7 rfl rfl rfl (do_bin rfl rfl rfl ?_)
    refine rw_t 8 rfl rfl rfl (do_move rfl ?_)
    refine rw_case 8 rfl (fun g1 => ?_) (fun g1 => ?_)
    · have kg1 := g1
      try simp only [bs] at kg1
      refine rw_gf 9 2 8 false rfl rfl rfl rfl rfl rfl (by rw [g1]; decide) ?_
      refine rw_gf 10 2 8 false rfl rfl rfl rfl rfl rfl (by rw [g1]; decide) ?_
      refine rw_gf 11 2 8 false rfl rfl rfl rfl rfl rfl (by rw [g1]; decide) ?_
      refine rw_gf 12 2 8 false rfl rfl rfl rfl rfl rfl (by rw [g1]; decide) ?_
      refine rw_t 13 rfl rfl rfl (do_pick_t rfl g1 rfl ?_)
      refine rw_nil ?_
      refine ⟨rfl, ⟨_, rfl, by first | (simp; done) | (simp only [bs]; omega) | (simp [*]; done) | (simp; omega) | (constructor <;> intro h <;> simp_all <;> omega)⟩, ?_⟩
      repeat (refine ⟨⟨_, rfl, rfl⟩, ?_⟩)
      exact trivial
    · have kg1 := g1
      try simp only [bs] at kg1
      refine rw_gt 9 2 8 false rfl rfl rfl rfl rfl rfl g1 (do_move rfl ?_)
      refine rw_gt 10 2 8 false rfl rfl rfl rfl rfl rfl g1 (n_load_boxagg [_, _, _, _, _, _, _, _, _] rfl rfl (Nat.le_of_ble_eq_true rfl) rfl ?_)
      refine rw_gt 11 2 8 false rfl rfl rfl rfl rfl rfl g1 (do_callR (X' := .val (.int .i64 ((c.Head.length : Nat) : Int))) rfl rfl (t_Len (c := c)) [0, 1, 2, 3, 4, 5] ⟨.inr ⟨_, rfl, srv⟩, .inr ⟨_, rfl, srv⟩, .inr ⟨_, rfl, srv⟩, .inr ⟨_, rfl, srv⟩, .inr ⟨_, rfl, srv⟩, .inr ⟨_, rfl, srv⟩, trivial⟩ rfl rfl rfl ?_)
      refine rw_gt 12 2 8 false rfl rfl rfl rfl rfl rfl g1 (do_bin rfl rfl rfl ?_)
      refine rw_t 13 rfl rfl rfl (do_pick_f rfl g1 rfl ?_)
      refine rw_nil ?_
      refine ⟨rfl, ⟨_, rfl, by first | (simp; done) | (simp only [bs]; omega) | (simp [*]; done) | (simp; omega) | (constructor <;> intro h <;> simp_all <;> omega)⟩, ?_⟩
      repeat (refine ⟨⟨_, rfl, rfl⟩, ?_⟩)
      exact trivial
  intro b1 hb1
  refine w_condP hb1 rfl (fun hc1 => ?_) (fun hc1 => ?_)
  · exfalso; omega
  refine w_skip ?_
  refine w_seq ?_
  obtain ⟨v, q1, q2, q3, q4⟩ := h.tail_at ha.1 ha.2
  refine w_region ?_
  refine rw_t 14 rfl rfl rfl (do_fieldaddr rfl ?_)
  refine rw_t 15 rfl rfl rfl (do_load_box rfl rfl rfl ?_)
  refine rw_t 16 rfl rfl rfl (do_move rfl ?_)
  refine rw_t 17 rfl rfl rfl (do_add rfl rfl (by omega) ?_)
  refine rw_t 18 rfl rfl rfl (do_callR (X' := .val (.int .i64 (((searchI c.First (a + 1)) : Nat) : Int))) rfl rfl (t_SearchInts (xs := c.First) (x := (a + 1)) (by omega) (fun i j hij hj => h.up hij (by omega))) [0] ⟨.inr ⟨_, rfl, srv⟩, trivial⟩ rfl rfl rfl ?_)
  refine rw_t 19 rfl rfl rfl (do_sub rfl rfl (by omega) ?_)
  refine rw_as (.val (.int .i64 (tailOf c a))) (val_congr (by rw [q3]; exact q4)) ?_
  refine rw_t 4 rfl rfl rfl (do_assign rfl ?_)
  refine rw_t 5 rfl rfl rfl (do_assign rfl ?_)
  refine rw_nil ?_
  refine w_ret ?_
  exact ret_eq (.inl rfl) (.cons (res_tmp rfl) (.cons (res_tmp rfl) .nil)) [0, 1, 2, 3, 4, 5] (rfl) ⟨shR rfl, shR rfl, shR rfl, shR rfl, shR rfl, shR rfl, trivial⟩ rfl (pre_ok rfl)
set_option maxHeartbeats 8000000 in
set_option synthInstance.maxHeartbeats 400000 in
set_option synthInstance.maxSize 2000 in
theorem t_CloneLongs (xs : List Int) (hl : xs.length ≤ 17592186044416) : Tri Try.prog 46 [.slc 0 0 xs.length none] [SO.ints false .i64 xs] (fun s H => s = .slc 1 0 xs.length none ∧ H = [SO.ints false .i64 xs, SO.ints true .i64 xs]) := by
  refine tri_of_w (fn := Try.f46) Try.func46 rfl (by simp [Try.f46]) ?_
  intro ρ w hρ
  refine w_seq ?_
  refine w_region ?_
  refine rw_t 2 rfl rfl rfl (do_assign rfl ?_)
  refine rw_nil ?_
  refine w_seq ?_
  refine w_seq ?_
  refine w_region ?_
  refine rw_t 3 rfl rfl rfl (do_move rfl ?_)
  refine rw_t 4 rfl rfl rfl (do_slnil (rt := 0) rfl (fun nb1 hnb1 => ?_))
  refine rw_nil ?_
  refine w_cond rfl (fun hc1 => ?_) (fun hc1 => ?_)
  all_goals try simp only [bs] at hc1
  · refine w_seq ?_
    refine w_region ?_
    refine rw_t 2 rfl rfl rfl (do_assign rfl ?_)
    refine rw_nil ?_
    have hz := hnb1 hc1
    refine n_ghost Int 1 (encI .i64) 0 (fun _ => rfl) (fun _ _ h => by simp [encI] at h; subst h; rfl) ?_
    refine w_nilE 2 1 0 rfl ?_
    refine w_ret ?_
    exact ret_eq (.inl rfl) (.cons (res_tmp rfl) .nil) [0, 1] (congrArg (fun n => SV.slc 1 0 n none) hz.symm) ⟨shR rfl, .inr ⟨_, rfl, .inl (congrArg (SO.ints true .i64) (List.eq_nil_of_length_eq_zero hz))⟩, trivial⟩ rfl (pre_ok rfl)
  refine w_skip ?_
  refine w_seq ?_
  refine w_region ?_
  refine rw_t 5 rfl rfl rfl (n_bs (nm := 1) Int (encI .i64) 0 [] rfl rfl rfl rfl rfl (fun _ => rfl) (fun _ _ h => by simp [encI] at h; subst h; rfl) rfl ?_)
  refine rw_t 6 rfl rfl rfl (do_move rfl ?_)
  refine rw_t 7 rfl rfl rfl (n_app_e (nm := 2) rfl rfl rfl rfl rfl (by first | omega | (simp only [ls] <;> omega)) (by omega) (by omega) rfl ?_)
  refine rw_t 2 rfl rfl rfl (do_assign rfl ?_)
  refine rw_nil ?_
  refine w_ret ?_
  exact ret_eq (.inl rfl) (.cons (res_tmp rfl) .nil) [0, 2] (rfl) ⟨shR rfl, shR rfl, trivial⟩ rfl (pre_ok rfl)
set_option maxHeartbeats 8000000 in
set_option synthInstance.maxHeartbeats 400000 in
set_option synthInstance.maxSize 2000 in
theorem t_CloneInts (xs : List Int) (hl : xs.length ≤ 17592186044416) : Tri Try.prog 63 [.slc 0 0 xs.length none] [SO.ints false .i64 xs] (fun s H => s = .slc 1 0 xs.length none ∧ H = [SO.ints false .i64 xs, SO.ints true .i64 xs]) := by
  refine tri_of_w (fn := Try.f63) Try.func63 rfl (by simp [Try.f63]) ?_
  intro ρ w hρ
  refine w_seq ?_
  refine w_region ?_
  refine rw_t 2 rfl rfl rfl (do_assign rfl ?_)
  refine rw_nil ?_
  refine w_seq ?_
  refine w_seq ?_
  refine w_region ?_
  refine rw_t 3 rfl rfl rfl (do_move rfl ?_)
  refine rw_t 4 rfl rfl rfl (do_slnil (rt := 0) rfl (fun nb1 hnb1 => ?_))
  refine rw_nil ?_
  refine w_cond rfl (fun hc1 => ?_) (fun hc1 => ?_)
  all_goals try simp only [bs] at hc1
  · refine w_seq ?_
    refine w_region ?_
    refine rw_t 2 rfl rfl rfl (do_assign rfl ?_)
    refine rw_nil ?_
    have hz := hnb1 hc1
    refine n_ghost Int 1 (encI .i64) 0 (fun _ => rfl) (fun _ _ h => by simp [encI] at h; subst h; rfl) ?_
    refine w_nilE 2 1 0 rfl ?_
    refine w_ret ?_
    exact ret_eq (.inl rfl) (.cons (res_tmp rfl) .nil) [0, 1] (congrArg (fun n => SV.slc 1 0 n none) hz.symm) ⟨shR rfl, .inr ⟨_, rfl, .inl (congrArg (SO.ints true .i64) (List.eq_nil_of_length_eq_zero hz))⟩, trivial⟩ rfl (pre_ok rfl)
  refine w_skip ?_
  refine w_seq ?_
  refine w_region ?_
  refine rw_t 5 rfl rfl rfl (n_bs (nm := 1) Int (encI .i64) 0 [] rfl rfl rfl rfl rfl (fun _ => rfl) (fun _ _ h => by simp [encI] at h; subst h; rfl) rfl ?_)
  refine rw_t 6 rfl rfl rfl (do_move rfl ?_)
  refine rw_t 7 rfl rfl rfl (n_app_e (nm := 2) rfl rfl rfl rfl rfl (by first | omega | (simp only [ls] <;> omega)) (by omega) (by omega) rfl ?_)
  refine rw_t 2 rfl rfl rfl (do_assign rfl ?_)
  refine rw_nil ?_
  refine w_ret ?_
  exact ret_eq (.inl rfl) (.cons (res_tmp rfl) .nil) [0, 2] (rfl) ⟨shR rfl, shR rfl, trivial⟩ rfl (pre_ok rfl)
set_option maxHeartbeats 8000000 in
set_option synthInstance.maxHeartbeats 400000 in
set_option synthInstance.maxSize 2000 in
theorem t_Copy (p : Pre) (hl : p.Res.length ≤ 17592186044416 ∧ p.Ex.length ≤ 17592186044416 ∧ p.H.length ≤ 17592186044416) : Tri Try.prog 58 [.agg [.slc 0 0 p.Res.length none, .slc 1 0 p.Ex.length none, .slc 2 0 p.H.length none]] [SO.ints false .i64 p.Res, SO.ints false .i64 p.Ex, SO.ints false .i64 p.H] (fun s H => s = .agg [.slc 3 0 p.Res.length none, .slc 4 0 p.Ex.length none, .slc 5 0 p.H.length none] ∧ H = [SO.ints false .i64 p.Res, SO.ints false .i64 p.Ex, SO.ints false .i64 p.H, SO.ints true .i64 p.Res, SO.ints true .i64 p.Ex, SO.ints true .i64 p.H]) := by
  refine tri_of_w (fn := Try.f58) Try.func58 rfl (by simp [Try.f58]) ?_
  intro ρ w hρ
  refine w_seq ?_
  refine w_region ?_
  refine rw_t 1 rfl rfl rfl (n_box_agg (n := 3) rfl rfl ?_)
  refine rw_t 2 rfl rfl rfl (n_alloc (n := 4) rfl ?_)
  refine rw_nil ?_
  refine w_seq ?_
  refine w_draw mixed [0, 1, 3, 0, 8, 31, 0, 64] [255, 511, 1023] (by kernel_rfl) (by kernel_rfl) rfl rfl rfl (hle hρ rfl) ?_
  refine ra_q (j := 0) rfl rfl rfl rfl (do_fieldaddr rfl ⟨rfl, rfl⟩) (by rfl) ?_
  refine ra_q (j := 1) rfl rfl rfl rfl (do_load_box rfl rfl rfl ⟨rfl, rfl⟩) (by rfl) ?_
  refine ra_n (j := 2) rfl rfl rfl rfl (g_callN (X' := .slc 5 0 p.Res.length none) (N' := [SO.ints true .i64 p.Res]) rfl rfl (t_CloneLongs (xs := p.Res) (by omega)) [0] ⟨.inr ⟨_, rfl, srv⟩, trivial⟩ rfl rfl rfl rfl rfl ⟨rfl, rfl⟩) (by rfl) (by rfl) (by rfl) ?_
  refine ra_q (j := 3) rfl rfl rfl rfl (do_fieldaddr rfl ⟨rfl, rfl⟩) (by rfl) ?_
  refine ra_q (j := 4) rfl rfl rfl rfl (do_load_box rfl rfl rfl ⟨rfl, rfl⟩) (by rfl) ?_
  refine ra_n (j := 5) rfl rfl rfl rfl (g_callN (X' := .slc 6 0 p.Ex.length none) (N' := [SO.ints true .i64 p.Ex]) rfl rfl (t_CloneLongs (xs := p.Ex) (by omega)) [1] ⟨.inr ⟨_, rfl, srv⟩, trivial⟩ rfl rfl rfl rfl rfl ⟨rfl, rfl⟩) (by rfl) (by rfl) (by rfl) ?_
  refine ra_q (j := 6) rfl rfl rfl rfl (do_fieldaddr rfl ⟨rfl, rfl⟩) (by rfl) ?_
  refine ra_q (j := 7) rfl rfl rfl rfl (do_load_box rfl rfl rfl ⟨rfl, rfl⟩) (by rfl) ?_
  refine n_done ?_
  refine rw_t 11 rfl rfl rfl (n_callN (X' := .slc 7 0 p.H.length none) (N' := [SO.ints true .i64 p.H]) rfl rfl (t_CloneInts (xs := p.H) (by omega)) [2] ⟨.inr ⟨_, rfl, srv⟩, trivial⟩ rfl rfl rfl rfl rfl ?_)
  refine rw_t 12 rfl rfl rfl (do_build (out := [_, _, _]) rfl rfl ?_)
  refine rw_u rfl rfl (n_store_whole rfl rfl rfl rfl rfl rfl ?_)
  refine rw_nil ?_
  refine w_ret ?_
  exact ret_eq (.inl rfl) (.cons (res_agg rfl rfl (Nat.le_of_ble_eq_true rfl)) .nil) [0, 1, 2, 5, 6, 7] (rfl) ⟨shR rfl, shR rfl, shR rfl, shR rfl, shR rfl, shR rfl, trivial⟩ rfl (pre_ok rfl)
end Go.Proofs.P7

set_option linter.unusedVariables false
namespace Go.Proofs.P7
open Go Go.Sx Go.RowKit
/-- So much from an arc to its reverse. -/
def moveP (c : Csr) (p : Pre) (a : Int) (d : Int) : Pre :=
  ⟨addAt (subAt p.Res a d) (c.Rev.getD a.toNat 0) d, addAt (subAt p.Ex (c.Head.getD (c.Rev.getD a.toNat 0).toNat 0) d) (c.Head.getD a.toNat 0) d, p.H⟩
def In1 (x : Int) : Prop := -9223372036854775808 ≤ x ∧ x < 9223372036854775808
structure MoveIn (c : Csr) (p : Pre) (a d : Int) : Prop where
  r1 : In1 (p.Res.getD a.toNat 0 - d)
  r2 : In1 ((subAt p.Res a d).getD (c.Rev.getD a.toNat 0).toNat 0 + d)
  x1 : In1 (p.Ex.getD (c.Head.getD (c.Rev.getD a.toNat 0).toNat 0).toNat 0 - d)
  x2 : In1 ((subAt p.Ex (c.Head.getD (c.Rev.getD a.toNat 0).toNat 0) d).getD (c.Head.getD a.toNat 0).toNat 0 + d)
set_option maxHeartbeats 8000000 in
set_option synthInstance.maxHeartbeats 400000 in
set_option synthInstance.maxSize 2000 in
theorem t_move (c : Csr) (p : Pre) (h : CsrOK c) (hp : PreLen c p) (a d : Int) (ha : 0 ≤ a ∧ a < c.Head.length) (hm : MoveIn c p a d) : Tri Try.prog 48 [.agg [.val (.int .i64 c.N), .val (.int .i64 c.S), .val (.int .i64 c.T), .slc 0 0 c.First.length none, .slc 1 0 c.Head.length none, .slc 2 0 c.Rev.length none, .slc 3 0 c.Cap.length none, .slc 4 0 c.Arc.length none, .slc 5 0 c.Back.length none], .ptr 9 0 0, .val (.int .i64 a), .val (.int .i64 d)] [SO.ints false .i64 c.First, SO.ints false .i64 c.Head, SO.ints false .i64 c.Rev, SO.ints false .i64 c.Cap, SO.ints false .i64 c.Arc, SO.bools false c.Back, SO.ints true .i64 p.Res, SO.ints true .i64 p.Ex, SO.ints true .i64 p.H, .box [.slc 6 0 p.Res.length none, .slc 7 0 p.Ex.length none, .slc 8 0 p.H.length none]] (fun s H => s = .tup [] ∧ H = [SO.ints false .i64 c.First, SO.ints false .i64 c.Head, SO.ints false .i64 c.Rev, SO.ints false .i64 c.Cap, SO.ints false .i64 c.Arc, SO.bools false c.Back, SO.ints true .i64 ((moveP c p a d).Res), SO.ints true .i64 ((moveP c p a d).Ex), SO.ints true .i64 p.H, .box [.slc 6 0 p.Res.length none, .slc 7 0 p.Ex.length none, .slc 8 0 p.H.length none]]) := by
  refine tri_of_w (fn := Try.f48) Try.func48 rfl (by simp [Try.f48]) ?_
  intro ρ w hρ
  refine w_seq ?_
  have hn := h.n
  have hf := h.first
  have hhd := h.head
  have hrl := h.rev
  have hcl := h.cap
  have hal := h.arc
  have hbl := h.back
  have hr := hp.res
  have hx := hp.ex
  have hh := hp.h
  have hv := h.rv a.toNat (by omega)
  have hd1 := h.hd a.toNat (by omega)
  have hd2 := h.hd (c.Rev.getD a.toNat 0).toNat (by omega)
  obtain ⟨m1, m2⟩ := hm.r1
  obtain ⟨m3, m4⟩ := hm.r2
  obtain ⟨m5, m6⟩ := hm.x1
  obtain ⟨m7, m8⟩ := hm.x2
  simp only [subAt] at m3 m4 m7 m8
  refine w_region ?_
  refine rw_t 4 rfl rfl rfl (n_box_agg (n := 10) rfl rfl ?_)
  refine rw_nil ?_
  refine w_seq ?_
  refine w_draw mixed [0, 1, 0, 4, 0, 28, 60] [127, 255, 511] (by kernel_rfl) (by kernel_rfl) rfl rfl rfl (hle hρ rfl) ?_
  refine ra_q (j := 0) rfl rfl rfl rfl (do_fieldaddr rfl ⟨rfl, rfl⟩) (by rfl) ?_
  refine ra_q (j := 1) rfl rfl rfl rfl (do_load_box rfl rfl rfl ⟨rfl, rfl⟩) (by rfl) ?_
  refine ra_q (j := 2) rfl rfl rfl rfl (do_fieldaddr rfl ⟨rfl, rfl⟩) (by rfl) ?_
  refine ra_q (j := 3) rfl rfl rfl rfl (do_load_box rfl rfl rfl ⟨rfl, rfl⟩) (by rfl) ?_
  refine ra_q (j := 4) rfl rfl rfl rfl (do_move rfl ⟨rfl, rfl⟩) (by rfl) ?_
  refine ra_q (j := 5) rfl rfl rfl rfl (do_ix0 rfl rfl rfl (by first | omega | (simp only [ls] <;> omega)) ⟨rfl, rfl⟩) (by rfl) ?_
  refine ra_q (j := 6) rfl rfl rfl rfl (do_load_arr rfl rfl (by first | omega | (simp only [ls] <;> omega)) rfl ⟨rfl, rfl⟩) (by rfl) ?_
  refine n_done ?_
  refine rw_t 16 rfl rfl rfl (do_ix0 rfl rfl rfl (by first | omega | (simp only [ls] <;> omega)) ?_)
  refine rw_t 17 rfl rfl rfl (do_load_arr rfl rfl (by first | omega | (simp only [ls] <;> omega)) rfl ?_)
  refine rw_t 8 rfl rfl rfl (do_assign rfl ?_)
  refine rw_nil ?_
  refine w_seq ?_
  refine w_region ?_
  refine rw_t 18 rfl rfl rfl (do_move rfl ?_)
  refine rw_t 19 rfl rfl rfl (do_nilcheck rfl ?_)
  refine rw_t 20 rfl rfl rfl (do_fieldaddr rfl ?_)
  refine rw_t 21 rfl rfl rfl (do_load_box rfl rfl rfl ?_)
  refine rw_t 22 rfl rfl rfl (do_move rfl ?_)
  refine rw_t 23 rfl rfl rfl (do_ix0 rfl rfl rfl (by first | omega | (simp only [ls] <;> omega)) ?_)
  refine rw_t 24 rfl rfl rfl (do_load_arr rfl rfl (by first | omega | (simp only [ls] <;> omega)) rfl ?_)
  refine rw_t 25 rfl rfl rfl (do_move rfl ?_)
  refine rw_t 26 rfl rfl rfl (do_sub rfl rfl (by omega) ?_)
  refine rw_t 27 rfl rfl rfl (do_ix0 rfl rfl rfl (by first | omega | (simp only [ls] <;> omega)) ?_)
  refine rw_u rfl rfl (n_store_arr (z := ((p.Res.getD a.toNat 0) - d)) rfl rfl rfl (by first | omega | (simp only [ls] <;> omega)) rfl (by decide) rfl ?_)
  refine rw_nil ?_
  refine w_seq ?_
  refine w_draw mixed [0, 1, 3, 7, 0, 16, 0, 112, 240, 511, 1023, 0] [4095, 8191, 16383] (by kernel_rfl) (by kernel_rfl) rfl rfl rfl (hle hρ rfl) ?_
  refine ra_q (j := 0) rfl rfl rfl rfl (do_move rfl ⟨rfl, rfl⟩) (by rfl) ?_
  refine ra_q (j := 1) rfl rfl rfl rfl (do_nilcheck rfl ⟨rfl, rfl⟩) (by rfl) ?_
  refine ra_q (j := 2) rfl rfl rfl rfl (do_fieldaddr rfl ⟨rfl, rfl⟩) (by rfl) ?_
  refine ra_q (j := 3) rfl rfl rfl rfl (do_load_box rfl rfl rfl ⟨rfl, rfl⟩) (by rfl) ?_
  refine ra_q (j := 4) rfl rfl rfl rfl (do_fieldaddr rfl ⟨rfl, rfl⟩) (by rfl) ?_
  refine ra_q (j := 5) rfl rfl rfl rfl (do_load_box rfl rfl rfl ⟨rfl, rfl⟩) (by rfl) ?_
  refine ra_q (j := 6) rfl rfl rfl rfl (do_move rfl ⟨rfl, rfl⟩) (by rfl) ?_
  refine ra_q (j := 7) rfl rfl rfl rfl (do_ix0 rfl rfl rfl (by first | omega | (simp only [ls] <;> omega)) ⟨rfl, rfl⟩) (by rfl) ?_
  refine ra_q (j := 8) rfl rfl rfl rfl (do_load_arr rfl rfl (by first | omega | (simp only [ls] <;> omega)) rfl ⟨rfl, rfl⟩) (by rfl) ?_
  refine ra_q (j := 9) rfl rfl rfl rfl (do_ix0 rfl rfl rfl (by first | omega | (simp only [ls] <;> omega)) ⟨rfl, rfl⟩) (by rfl) ?_
  refine ra_q (j := 10) rfl rfl rfl rfl (do_load_arr rfl rfl (by first | omega | (simp only [ls] <;> omega)) rfl ⟨rfl, rfl⟩) (by rfl) ?_
  refine ra_q (j := 11) rfl rfl rfl rfl (do_move rfl ⟨rfl, rfl⟩) (by rfl) ?_
  refine n_done ?_
  refine rw_t 40 rfl rfl rfl (do_add rfl rfl (by omega) ?_)
  refine rw_t 41 rfl rfl rfl (do_ix0 rfl rfl rfl (by first | omega | (simp only [ls] <;> omega)) ?_)
  refine rw_u rfl rfl (n_store_arr (z := (((p.Res.set a.toNat ((p.Res.getD a.toNat 0) - d)).getD ((c.Rev.getD a.toNat 0).toNat) 0) + d)) rfl rfl rfl (by first | omega | (simp only [ls] <;> omega)) rfl (by decide) rfl ?_)
  refine rw_nil ?_
  refine w_seq ?_
  refine w_region ?_
  refine rw_t 42 rfl rfl rfl (do_move rfl ?_)
  refine rw_t 43 rfl rfl rfl (do_nilcheck rfl ?_)
  refine rw_t 44 rfl rfl rfl (do_fieldaddr rfl ?_)
  refine rw_t 45 rfl rfl rfl (do_load_box rfl rfl rfl ?_)
  refine rw_t 46 rfl rfl rfl (do_move rfl ?_)
  refine rw_t 47 rfl rfl rfl (do_ix0 rfl rfl rfl (by first | omega | (simp only [ls] <;> omega)) ?_)
  refine rw_t 48 rfl rfl rfl (do_load_arr rfl rfl (by first | omega | (simp only [ls] <;> omega)) rfl ?_)
  refine rw_t 49 rfl rfl rfl (do_move rfl ?_)
  refine rw_t 50 rfl rfl rfl (do_sub rfl rfl (by omega) ?_)
  refine rw_t 51 rfl rfl rfl (do_ix0 rfl rfl rfl (by first | omega | (simp only [ls] <;> omega)) ?_)
  refine rw_u rfl rfl (n_store_arr (z := ((p.Ex.getD ((c.Head.getD ((c.Rev.getD a.toNat 0).toNat) 0).toNat) 0) - d)) rfl rfl rfl (by first | omega | (simp only [ls] <;> omega)) rfl (by decide) rfl ?_)
  refine rw_nil ?_
  refine w_draw mixed [0, 1, 3, 7, 0, 16, 0, 112, 240, 511, 1023, 0] [4095, 8191, 16383] (by kernel_rfl) (by kernel_rfl) rfl rfl rfl (hle hρ rfl) ?_
  refine ra_q (j := 0) rfl rfl rfl rfl (do_move rfl ⟨rfl, rfl⟩) (by rfl) ?_
  refine ra_q (j := 1) rfl rfl rfl rfl (do_nilcheck rfl ⟨rfl, rfl⟩) (by rfl) ?_
  refine ra_q (j := 2) rfl rfl rfl rfl (do_fieldaddr rfl ⟨rfl, rfl⟩) (by rfl) ?_
  refine ra_q (j := 3) rfl rfl rfl rfl (do_load_box rfl rfl rfl ⟨rfl, rfl⟩) (by rfl) ?_
  refine ra_q (j := 4) rfl rfl rfl rfl (do_fieldaddr rfl ⟨rfl, rfl⟩) (by rfl) ?_
  refine ra_q (j := 5) rfl rfl rfl rfl (do_load_box rfl rfl rfl ⟨rfl, rfl⟩) (by rfl) ?_
  refine ra_q (j := 6) rfl rfl rfl rfl (do_move rfl ⟨rfl, rfl⟩) (by rfl) ?_
  refine ra_q (j := 7) rfl rfl rfl rfl (do_ix0 rfl rfl rfl (by first | omega | (simp only [ls] <;> omega)) ⟨rfl, rfl⟩) (by rfl) ?_
  refine ra_q (j := 8) rfl rfl rfl rfl (do_load_arr rfl rfl (by first | omega | (simp only [ls] <;> omega)) rfl ⟨rfl, rfl⟩) (by rfl) ?_
  refine ra_q (j := 9) rfl rfl rfl rfl (do_ix0 rfl rfl rfl (by first | omega | (simp only [ls] <;> omega)) ⟨rfl, rfl⟩) (by rfl) ?_
  refine ra_q (j := 10) rfl rfl rfl rfl (do_load_arr rfl rfl (by first | omega | (simp only [ls] <;> omega)) rfl ⟨rfl, rfl⟩) (by rfl) ?_
  refine ra_q (j := 11) rfl rfl rfl rfl (do_move rfl ⟨rfl, rfl⟩) (by rfl) ?_
  refine n_done ?_
  refine rw_t 64 rfl rfl rfl (do_add rfl rfl (by omega) ?_)
  refine rw_t 65 rfl rfl rfl (do_ix0 rfl rfl rfl (by first | omega | (simp only [ls] <;> omega)) ?_)
  refine rw_u rfl rfl (n_store_arr (z := (((p.Ex.set ((c.Head.getD ((c.Rev.getD a.toNat 0).toNat) 0).toNat) ((p.Ex.getD ((c.Head.getD ((c.Rev.getD a.toNat 0).toNat) 0).toNat) 0) - d)).getD ((c.Head.getD a.toNat 0).toNat) 0) + d)) rfl rfl rfl (by first | omega | (simp only [ls] <;> omega)) rfl (by decide) rfl ?_)
  refine rw_nil ?_
  exact ret_eq (.inr rfl) (.nil) [0, 1, 2, 3, 4, 5, 6, 7, 8, 9] (rfl) ⟨shR rfl, shR rfl, shR rfl, shR rfl, shR rfl, shR rfl, shR rfl, shR rfl, shR rfl, shR rfl, trivial⟩ rfl (pre_ok rfl)
end Go.Proofs.P7

set_option linter.unusedVariables false
namespace Go.Proofs.P7
open Go Go.Sx Go.RowKit
/-- P7.1: the first state, with k of S's arcs full on. -/
def begK (c : Csr) : Nat → Pre
  | 0 => ⟨c.Cap, List.replicate c.N.toNat 0, (List.replicate c.N.toNat 0).set c.S.toNat c.N⟩
  | k + 1 => moveP c (begK c k) (c.First.getD c.S.toNat 0 + k) ((begK c k).Res.getD (c.First.getD c.S.toNat 0 + k).toNat 0)
def begC (c : Csr) : Pre := begK c (c.First.getD (c.S + 1).toNat 0 - c.First.getD c.S.toNat 0).toNat
theorem moveP_len (c : Csr) (p : Pre) (a d : Int) : (moveP c p a d).Res.length = p.Res.length ∧ (moveP c p a d).Ex.length = p.Ex.length ∧ (moveP c p a d).H.length = p.H.length := by
  simp [moveP, addAt, subAt]
theorem begK_len {c : Csr} (h : CsrLen c) : ∀ k, PreLen c (begK c k)
  | 0 => ⟨h.cap, by simp [begK], by simp [begK]⟩
  | k + 1 => by
    have := begK_len h k
    obtain ⟨l1, l2, l3⟩ := moveP_len c (begK c k) (c.First.getD c.S.toNat 0 + k) ((begK c k).Res.getD (c.First.getD c.S.toNat 0 + k).toNat 0)
    exact ⟨l1.trans this.res, l2.trans this.ex, l3.trans this.h⟩
/-- The moves that the first state is made of stay within. -/
def BegIn (c : Csr) : Prop := ∀ k : Nat, k < (c.First.getD (c.S + 1).toNat 0 - c.First.getD c.S.toNat 0).toNat → MoveIn c (begK c k) (c.First.getD c.S.toNat 0 + k) ((begK c k).Res.getD (c.First.getD c.S.toNat 0 + k).toNat 0)
set_option maxHeartbeats 8000000 in
set_option synthInstance.maxHeartbeats 400000 in
set_option synthInstance.maxSize 2000 in
theorem t_arcs (c : Csr) (u : Int) : Tri Try.prog 47 [.agg [.val (.int .i64 c.N), .val (.int .i64 c.S), .val (.int .i64 c.T), .slc 0 0 c.First.length none, .slc 1 0 c.Head.length none, .slc 2 0 c.Rev.length none, .slc 3 0 c.Cap.length none, .slc 4 0 c.Arc.length none, .slc 5 0 c.Back.length none], .val (.int .i64 u)] [SO.ints false .i64 c.First, SO.ints false .i64 c.Head, SO.ints false .i64 c.Rev, SO.ints false .i64 c.Cap, SO.ints false .i64 c.Arc, SO.bools false c.Back] (fun s H => s = .func 67 [] [.ptr 6 0 0, .ptr 7 0 0] ∧ H = [SO.ints false .i64 c.First, SO.ints false .i64 c.Head, SO.ints false .i64 c.Rev, SO.ints false .i64 c.Cap, SO.ints false .i64 c.Arc, SO.bools false c.Back, .box [.val (.int .i64 c.N), .val (.int .i64 c.S), .val (.int .i64 c.T), .slc 0 0 c.First.length none, .slc 1 0 c.Head.length none, .slc 2 0 c.Rev.length none, .slc 3 0 c.Cap.length none, .slc 4 0 c.Arc.length none, .slc 5 0 c.Back.length none], .box [.val (.int .i64 u)]]) := by
  refine tri_of_w (fn := Try.f47) Try.func47 rfl (by simp [Try.f47]) ?_
  intro ρ w hρ
  refine w_seq ?_
  refine w_region ?_
  refine rw_t 2 rfl rfl rfl (n_box_agg (n := 6) rfl rfl ?_)
  refine rw_t 3 rfl rfl rfl (n_box (n := 7) rfl rfl rfl ?_)
  refine rw_t 4 rfl rfl rfl (do_assign rfl ?_)
  refine rw_nil ?_
  refine w_seq ?_
  refine w_region ?_
  refine rw_t 5 rfl rfl rfl (do_makefunc rfl rfl ?_)
  refine rw_t 4 rfl rfl rfl (do_assign rfl ?_)
  refine rw_nil ?_
  refine w_ret ?_
  exact ret_eq (.inl rfl) (.cons (res_tmp rfl) .nil) [0, 1, 2, 3, 4, 5, 6, 7] (rfl) ⟨shR rfl, shR rfl, shR rfl, shR rfl, shR rfl, shR rfl, shR rfl, shR rfl, trivial⟩ rfl (pre_ok rfl)
set_option maxHeartbeats 8000000 in
set_option synthInstance.maxHeartbeats 400000 in
set_option synthInstance.maxSize 2000 in
theorem t_Begin (c : Csr) (h : CsrT c) (hb : BegIn c) : Tri Try.prog 23 [.agg [.val (.int .i64 c.N), .val (.int .i64 c.S), .val (.int .i64 c.T), .slc 0 0 c.First.length none, .slc 1 0 c.Head.length none, .slc 2 0 c.Rev.length none, .slc 3 0 c.Cap.length none, .slc 4 0 c.Arc.length none, .slc 5 0 c.Back.length none]] [SO.ints false .i64 c.First, SO.ints false .i64 c.Head, SO.ints false .i64 c.Rev, SO.ints false .i64 c.Cap, SO.ints false .i64 c.Arc, SO.bools false c.Back] (fun s H => s = .agg [.slc 6 0 ((begC c).Res.length) none, .slc 7 0 ((begC c).Ex.length) none, .slc 8 0 ((begC c).H.length) none] ∧ H = [SO.ints false .i64 c.First, SO.ints false .i64 c.Head, SO.ints false .i64 c.Rev, SO.ints false .i64 c.Cap, SO.ints false .i64 c.Arc, SO.bools false c.Back, SO.ints true .i64 ((begC c).Res), SO.ints true .i64 ((begC c).Ex), SO.ints true .i64 ((begC c).H)]) := by
  refine tri_of_w (fn := Try.f23) Try.func23 rfl (by simp [Try.f23]) ?_
  intro ρ w hρ
  refine w_seq ?_
  have hn := h.n
  have hf := h.first
  have hhd := h.head
  have hrl := h.rev
  have hcl := h.cap
  have hal := h.arc
  have hbl := h.back
  have hS := h.s
  have hsm := h.small
  have hm := h.mono c.S.toNat (by omega)
  have hmt : (c.S + 1).toNat = c.S.toNat + 1 := by omega
  rw [← hmt] at hm
  refine w_region ?_
  refine rw_t 1 rfl rfl rfl (n_box_agg (n := 6) rfl rfl ?_)
  refine rw_t 2 rfl rfl rfl (n_alloc (n := 7) rfl ?_)
  refine rw_nil ?_
  refine w_seq ?_
  refine w_draw mixed [0, 1, 3, 0, 8, 24, 0, 64, 192, 511, 0] [2047] (by kernel_rfl) (by kernel_rfl) rfl rfl rfl (hle hρ rfl) ?_
  refine ra_q (j := 0) rfl rfl rfl rfl (do_fieldaddr rfl ⟨rfl, rfl⟩) (by rfl) ?_
  refine ra_q (j := 1) rfl rfl rfl rfl (do_load_box rfl rfl rfl ⟨rfl, rfl⟩) (by rfl) ?_
  refine ra_n (j := 2) rfl rfl rfl rfl (g_callN (X' := .slc 8 0 c.Cap.length none) (N' := [SO.ints true .i64 c.Cap]) rfl rfl (t_CloneLongs (xs := c.Cap) (by omega)) [3] ⟨.inr ⟨_, rfl, srv⟩, trivial⟩ rfl rfl rfl rfl rfl ⟨rfl, rfl⟩) (by rfl) (by rfl) (by rfl) ?_
  refine ra_q (j := 3) rfl rfl rfl rfl (do_fieldaddr rfl ⟨rfl, rfl⟩) (by rfl) ?_
  refine ra_q (j := 4) rfl rfl rfl rfl (do_load_box rfl rfl rfl ⟨rfl, rfl⟩) (by rfl) ?_
  refine ra_n (j := 5) rfl rfl rfl rfl (g_make (nm := 9) Int (encI .i64) 0 rfl rfl rfl (fun _ => rfl) (fun _ _ h => by simp [encI] at h; subst h; rfl) (by omega) (by omega) (by omega) rfl ⟨rfl, rfl⟩) (by rfl) (by rfl) (by rfl) ?_
  refine ra_q (j := 6) rfl rfl rfl rfl (do_fieldaddr rfl ⟨rfl, rfl⟩) (by rfl) ?_
  refine ra_q (j := 7) rfl rfl rfl rfl (do_load_box rfl rfl rfl ⟨rfl, rfl⟩) (by rfl) ?_
  refine ra_n (j := 8) rfl rfl rfl rfl (g_make (nm := 10) Int (encI .i64) 0 rfl rfl rfl (fun _ => rfl) (fun _ _ h => by simp [encI] at h; subst h; rfl) (by omega) (by omega) (by omega) rfl ⟨rfl, rfl⟩) (by rfl) (by rfl) (by rfl) ?_
  refine ra_q (j := 9) rfl rfl rfl rfl (do_build (out := [_, _, _]) rfl rfl ⟨rfl, rfl⟩) (by rfl) ?_
  refine ra_n (j := 10) rfl rfl rfl rfl (g_alloc (n := 11) rfl ⟨rfl, rfl⟩) (by rfl) (by rfl) (by rfl) ?_
  refine n_done ?_
  refine rw_u rfl rfl (n_store_whole rfl rfl rfl rfl rfl rfl ?_)
  refine rw_nil ?_
  refine w_seq ?_
  refine w_region ?_
  refine rw_t 15 rfl rfl rfl (do_fieldaddr rfl ?_)
  refine rw_t 16 rfl rfl rfl (do_load_box rfl rfl rfl ?_)
  refine rw_t 17 rfl rfl rfl (do_fieldaddr rfl ?_)
  refine rw_t 18 rfl rfl rfl (do_load_box rfl rfl rfl ?_)
  refine rw_t 19 rfl rfl rfl (do_fieldaddr rfl ?_)
  refine rw_t 20 rfl rfl rfl (do_load_box rfl rfl rfl ?_)
  refine rw_t 21 rfl rfl rfl (do_ix0 rfl rfl rfl (by first | omega | (simp only [ls] <;> omega)) ?_)
  refine rw_u rfl rfl (n_store_arr (z := c.N) rfl rfl rfl (by first | omega | (simp only [ls] <;> omega)) rfl (by decide) rfl ?_)
  refine rw_nil ?_
  refine w_seq ?_
  refine w_seq ?_
  refine w_region ?_
  refine rw_t 22 rfl rfl rfl (n_load_boxagg [_, _, _, _, _, _, _, _, _] rfl rfl (Nat.le_of_ble_eq_true rfl) rfl ?_)
  refine rw_t 23 rfl rfl rfl (do_fieldaddr rfl ?_)
  refine rw_t 24 rfl rfl rfl (do_load_box rfl rfl rfl ?_)
  refine rw_t 25 rfl rfl rfl (n_callN (X' := .func 67 [] [.ptr 12 0 0, .ptr 13 0 0]) (N' := [.box [.val (.int .i64 c.N), .val (.int .i64 c.S), .val (.int .i64 c.T), .slc 0 0 c.First.length none, .slc 1 0 c.Head.length none, .slc 2 0 c.Rev.length none, .slc 3 0 c.Cap.length none, .slc 4 0 c.Arc.length none, .slc 5 0 c.Back.length none], .box [.val (.int .i64 c.S)]]) rfl rfl (t_arcs (c := c) (u := c.S)) [0, 1, 2, 3, 4, 5] ⟨.inr ⟨_, rfl, srv⟩, .inr ⟨_, rfl, srv⟩, .inr ⟨_, rfl, srv⟩, .inr ⟨_, rfl, srv⟩, .inr ⟨_, rfl, srv⟩, .inr ⟨_, rfl, srv⟩, trivial⟩ rfl rfl rfl rfl rfl ?_)
  refine rw_nil ?_
  refine w_block ?_
  refine n_capB 11 1 rfl rfl ?_
  refine n_capB 11 2 rfl rfl ?_
  refine w_rf [(1, .ptr 6 0 0), (2, .ptr 7 0 0), (3, .ptr 11 0 0)] 14 [.yield 14, .ptr 12 0 0, .ptr 13 0 0] (fun q1 => [SO.ints false .i64 c.First, SO.ints false .i64 c.Head, SO.ints false .i64 c.Rev, SO.ints false .i64 c.Cap, SO.ints false .i64 c.Arc, SO.bools false c.Back, .box [.val (.int .i64 c.N), .val (.int .i64 c.S), .val (.int .i64 c.T), .slc 0 0 c.First.length none, .slc 1 0 c.Head.length none, .slc 2 0 c.Rev.length none, .slc 3 0 c.Cap.length none, .slc 4 0 c.Arc.length none, .slc 5 0 c.Back.length none], .box [.val (.slice none 0 0), .val (.slice none 0 0), .val (.slice none 0 0)], SO.ints true .i64 c.Cap, SO.ints true .i64 (List.replicate c.N.toNat 0), SO.ints true .i64 ((List.replicate c.N.toNat 0).set c.S.toNat c.N), .box [.slc 8 0 c.Cap.length none, .slc 9 0 c.N.toNat none, .slc 10 0 c.N.toNat none], .box [.val (.int .i64 c.N), .val (.int .i64 c.S), .val (.int .i64 c.T), .slc 0 0 c.First.length none, .slc 1 0 c.Head.length none, .slc 2 0 c.Rev.length none, .slc 3 0 c.Cap.length none, .slc 4 0 c.Arc.length none, .slc 5 0 c.Back.length none], .box [.val (.int .i64 c.S)], .gen [.ptr 6 0 0, .ptr 7 0 0, .ptr 11 0 0] (q1 .ready none)]) rfl rfl rfl rfl (fun _ => rfl) ⟨⟨_, rfl, rfl⟩, ⟨_, rfl, rfl⟩, ⟨_, rfl, rfl⟩, trivial⟩ (fun q1 hq1 => ?_)
  refine tri_of_w (fn := Try.f67) Try.func67 rfl (by simp [Try.f67]) ?_
  intro ρr1 wr1 hρ1
  refine w_seq ?_
  refine w_region ?_
  refine rw_t 5 rfl rfl rfl (do_fieldaddr rfl ?_)
  refine rw_t 6 rfl rfl rfl (do_load_box rfl rfl rfl ?_)
  refine rw_t 7 rfl rfl rfl (do_load_box rfl rfl rfl ?_)
  refine rw_t 8 rfl rfl rfl (do_ix0 rfl rfl rfl (by first | omega | (simp only [ls] <;> omega)) ?_)
  refine rw_t 9 rfl rfl rfl (do_load_arr rfl rfl (by first | omega | (simp only [ls] <;> omega)) rfl ?_)
  refine rw_t 4 rfl rfl rfl (do_assign rfl ?_)
  refine rw_nil ?_
  refine w_block ?_
  refine w_loopS (ι := Nat) (fun i => [(0, .yield 14), (1, .ptr 12 0 0), (2, .ptr 13 0 0), (4, .val (.int .i64 (c.First.getD c.S.toNat 0 + (i : Int))))]) (fun i => [SO.ints false .i64 c.First, SO.ints false .i64 c.Head, SO.ints false .i64 c.Rev, SO.ints false .i64 c.Cap, SO.ints false .i64 c.Arc, SO.bools false c.Back, .box [.val (.int .i64 c.N), .val (.int .i64 c.S), .val (.int .i64 c.T), .slc 0 0 c.First.length none, .slc 1 0 c.Head.length none, .slc 2 0 c.Rev.length none, .slc 3 0 c.Cap.length none, .slc 4 0 c.Arc.length none, .slc 5 0 c.Back.length none], .box [.val (.slice none 0 0), .val (.slice none 0 0), .val (.slice none 0 0)], SO.ints true .i64 ((begK c i).Res), SO.ints true .i64 ((begK c i).Ex), SO.ints true .i64 ((begK c i).H), .box [.slc 8 0 ((begK c i).Res.length) none, .slc 9 0 ((begK c i).Ex.length) none, .slc 10 0 ((begK c i).H.length) none], .box [.val (.int .i64 c.N), .val (.int .i64 c.S), .val (.int .i64 c.T), .slc 0 0 c.First.length none, .slc 1 0 c.Head.length none, .slc 2 0 c.Rev.length none, .slc 3 0 c.Cap.length none, .slc 4 0 c.Arc.length none, .slc 5 0 c.Back.length none], .box [.val (.int .i64 c.S)], .gen [.ptr 6 0 0, .ptr 7 0 0, .ptr 11 0 0] (q1 .ready none)]) (fun i => (c.First.getD (c.S + 1).toNat 0 - c.First.getD c.S.toNat 0).toNat - i) (fun i => i ≤ (c.First.getD (c.S + 1).toNat 0 - c.First.getD c.S.toNat 0).toNat) (0) [0, 1, 2, 3, 4, 5, 6, 7, 8, 9, 10, 11, 12, 13, 14] (by simp) ⟨shR rfl, shR rfl, shR rfl, shR rfl, shR rfl, shR rfl, shR rfl, shR rfl, shR rfl, shR rfl, shR rfl, .inr ⟨_, rfl, .inl (box_congr (cons_congr (rfl) (cons_congr ((congrArg (fun n => SV.slc 9 0 n none) (begK_len h.toCsrLen 0).ex).trans rfl) (cons_congr ((congrArg (fun n => SV.slc 10 0 n none) (begK_len h.toCsrLen 0).h).trans rfl) ((rfl : ([] : List SV) = []))))))⟩, shR rfl, shR rfl, shR rfl, trivial⟩ rfl (pre_ok rfl) hρ1 ⟨⟨_, rfl, rfl⟩, ⟨_, rfl, rfl⟩, ⟨_, rfl, rfl⟩, ⟨_, rfl, Eq.symm (val_congr (by simp))⟩, trivial⟩ ?_
  intro i hi
  refine w_seq ?_
  refine w_seq ?_
  refine w_region ?_
  refine rw_t 10 rfl rfl rfl (do_move rfl ?_)
  refine rw_t 11 rfl rfl rfl (do_fieldaddr rfl ?_)
  refine rw_t 12 rfl rfl rfl (do_load_box rfl rfl rfl ?_)
  refine rw_t 13 rfl rfl rfl (do_load_box rfl rfl rfl ?_)
  refine rw_t 14 rfl rfl rfl (do_add rfl rfl (by omega) ?_)
  refine rw_t 15 rfl rfl rfl (do_ix0 rfl rfl rfl (by first | omega | (simp only [ls] <;> omega)) ?_)
  refine rw_t 16 rfl rfl rfl (do_load_arr rfl rfl (by first | omega | (simp only [ls] <;> omega)) rfl ?_)
  refine rw_t 17 rfl rfl rfl (do_bin rfl rfl rfl ?_)
  refine rw_nil ?_
  refine w_cond rfl (fun hc1 => ?_) (fun hc1 => ?_)
  all_goals try simp only [bs] at hc1
  rotate_left
  · refine w_exit ?_
    refine ret_iter (.inr rfl) rfl (Y := [SO.ints false .i64 c.First, SO.ints false .i64 c.Head, SO.ints false .i64 c.Rev, SO.ints false .i64 c.Cap, SO.ints false .i64 c.Arc, SO.bools false c.Back, .box [.val (.int .i64 c.N), .val (.int .i64 c.S), .val (.int .i64 c.T), .slc 0 0 c.First.length none, .slc 1 0 c.Head.length none, .slc 2 0 c.Rev.length none, .slc 3 0 c.Cap.length none, .slc 4 0 c.Arc.length none, .slc 5 0 c.Back.length none], .box [.val (.slice none 0 0), .val (.slice none 0 0), .val (.slice none 0 0)], SO.ints true .i64 ((begK c i).Res), SO.ints true .i64 ((begK c i).Ex), SO.ints true .i64 ((begK c i).H), .box [.slc 8 0 ((begK c i).Res.length) none, .slc 9 0 ((begK c i).Ex.length) none, .slc 10 0 ((begK c i).H.length) none], .box [.val (.int .i64 c.N), .val (.int .i64 c.S), .val (.int .i64 c.T), .slc 0 0 c.First.length none, .slc 1 0 c.Head.length none, .slc 2 0 c.Rev.length none, .slc 3 0 c.Cap.length none, .slc 4 0 c.Arc.length none, .slc 5 0 c.Back.length none], .box [.val (.int .i64 c.S)], .gen [.ptr 6 0 0, .ptr 7 0 0, .ptr 11 0 0] (q1 .ready none)]) [0, 1, 2, 3, 4, 5, 6, 7, 8, 9, 10, 11, 12, 13, 14] ⟨shR rfl, shR rfl, shR rfl, shR rfl, shR rfl, shR rfl, shR rfl, shR rfl, shR rfl, shR rfl, shR rfl, shR rfl, shR rfl, shR rfl, shR rfl, trivial⟩ rfl (pre_ok rfl) ?_
    refine iter_none rfl ?_
    refine w_seq ?_
    refine w_region ?_
    refine rw_t 35 rfl rfl rfl (n_load_boxagg [_, _, _] rfl rfl (Nat.le_of_ble_eq_true rfl) rfl ?_)
    refine rw_u rfl rfl (n_store_whole rfl rfl rfl rfl rfl rfl ?_)
    refine rw_nil ?_
    have hi' : i = (c.First.getD (c.S + 1).toNat 0 - c.First.getD c.S.toNat 0).toNat := by omega
    subst hi'
    refine w_ret ?_
    exact ret_eq (.inl rfl) (.cons (res_agg rfl rfl (Nat.le_of_ble_eq_true rfl)) .nil) [0, 1, 2, 3, 4, 5, 8, 9, 10] (rfl) ⟨shR rfl, shR rfl, shR rfl, shR rfl, shR rfl, shR rfl, shR rfl, shR rfl, shR rfl, trivial⟩ rfl (pre_ok rfl)
  refine w_skip ?_
  refine w_seq ?_
  refine w_block ?_
  refine w_seq ?_
  refine w_region ?_
  refine rw_t 20 rfl rfl rfl (do_move rfl ?_)
  refine rw_t 21 rfl rfl rfl (do_move rfl ?_)
  refine rw_t 22 rfl rfl rfl (do_yieldQ [(26, .val (.int .i64 (c.First.getD c.S.toNat 0 + (i : Int)))), (1, .ptr 6 0 0), (2, .ptr 7 0 0), (3, .ptr 11 0 0)] hq1 rfl rfl rfl rfl rfl rfl (fun ρr2 wr2 lr2 hρ2 => ?_))
  refine w_region ?_
  refine rw_t 4 rfl rfl rfl (do_assign rfl ?_)
  refine rw_nil ?_
  refine asg_done rfl ?_
  refine w_block ?_
  have hl5 := begK_len h.toCsrLen i
  have hl6 := hl5.res
  refine w_draw mixed [0, 0, 0, 4, 0, 28, 60] [127] (by kernel_rfl) (by kernel_rfl) rfl rfl rfl (hle hρ2 rfl) ?_
  refine ra_q (j := 0) rfl rfl rfl rfl (n_load_boxagg [_, _, _, _, _, _, _, _, _] rfl rfl (Nat.le_of_ble_eq_true rfl) rfl ⟨rfl, rfl⟩) (by rfl) ?_
  refine ra_q (j := 1) rfl rfl rfl rfl (do_move rfl ⟨rfl, rfl⟩) (by rfl) ?_
  refine ra_q (j := 2) rfl rfl rfl rfl (do_fieldaddr rfl ⟨rfl, rfl⟩) (by rfl) ?_
  refine ra_q (j := 3) rfl rfl rfl rfl (do_load_box rfl rfl rfl ⟨rfl, rfl⟩) (by rfl) ?_
  refine ra_q (j := 4) rfl rfl rfl rfl (do_move rfl ⟨rfl, rfl⟩) (by rfl) ?_
  refine ra_q (j := 5) rfl rfl rfl rfl (do_ix0 rfl rfl rfl (by first | omega | (simp only [ls] <;> omega)) ⟨rfl, rfl⟩) (by rfl) ?_
  refine ra_q (j := 6) rfl rfl rfl rfl (do_load_arr rfl rfl (by first | omega | (simp only [ls] <;> omega)) rfl ⟨rfl, rfl⟩) (by rfl) ?_
  refine n_done ?_
  refine rw_t 34 rfl rfl rfl (n_callW (X' := .tup []) (H' := [SO.ints false .i64 c.First, SO.ints false .i64 c.Head, SO.ints false .i64 c.Rev, SO.ints false .i64 c.Cap, SO.ints false .i64 c.Arc, SO.bools false c.Back, .box [.val (.int .i64 c.N), .val (.int .i64 c.S), .val (.int .i64 c.T), .slc 0 0 c.First.length none, .slc 1 0 c.Head.length none, .slc 2 0 c.Rev.length none, .slc 3 0 c.Cap.length none, .slc 4 0 c.Arc.length none, .slc 5 0 c.Back.length none], .box [.val (.slice none 0 0), .val (.slice none 0 0), .val (.slice none 0 0)], SO.ints true .i64 ((moveP c (begK c i) (c.First.getD c.S.toNat 0 + (i : Int)) (((begK c i).Res).getD ((c.First.getD c.S.toNat 0 + (i : Int)).toNat) 0)).Res), SO.ints true .i64 ((moveP c (begK c i) (c.First.getD c.S.toNat 0 + (i : Int)) (((begK c i).Res).getD ((c.First.getD c.S.toNat 0 + (i : Int)).toNat) 0)).Ex), SO.ints true .i64 ((begK c i).H), .box [.slc 8 0 ((begK c i).Res.length) none, .slc 9 0 ((begK c i).Ex.length) none, .slc 10 0 ((begK c i).H.length) none], .box [.val (.int .i64 c.N), .val (.int .i64 c.S), .val (.int .i64 c.T), .slc 0 0 c.First.length none, .slc 1 0 c.Head.length none, .slc 2 0 c.Rev.length none, .slc 3 0 c.Cap.length none, .slc 4 0 c.Arc.length none, .slc 5 0 c.Back.length none], .box [.val (.int .i64 c.S)], .gen [.ptr 6 0 0, .ptr 7 0 0, .ptr 11 0 0] (q1 .busy none)]) rfl rfl (t_move (c := c) (p := (begK c i)) (a := (c.First.getD c.S.toNat 0 + (i : Int))) (d := (((begK c i).Res).getD ((c.First.getD c.S.toNat 0 + (i : Int)).toNat) 0)) (h.toCsrOK) (begK_len h.toCsrLen i) (by omega) (hb i (by omega))) [0, 1, 2, 3, 4, 5, 8, 9, 10, 11] ⟨.inr ⟨_, rfl, srv⟩, .inr ⟨_, rfl, srv⟩, .inr ⟨_, rfl, srv⟩, .inr ⟨_, rfl, srv⟩, .inr ⟨_, rfl, srv⟩, .inr ⟨_, rfl, srv⟩, shR rfl, shR rfl, shR rfl, shR rfl, trivial⟩ rfl rfl ⟨fun h => (by cases h), ⟨fun h => (by cases h), ⟨fun h => (by cases h), ⟨fun h => (by cases h), ⟨fun h => (by cases h), ⟨fun h => (by cases h), ⟨fun h => .inl rfl, ⟨fun h => .inl rfl, ⟨fun h => .inl rfl, ⟨fun h => .inl rfl, (fun y hy => by simp at hy)⟩⟩⟩⟩⟩⟩⟩⟩⟩⟩ rfl rfl ?_)
  refine rw_nil ?_
  repeat (with_reducible first | refine bl_n ?_ | refine bl_r ?_ | refine nx_r ?_ | refine nx_e ?_ | refine bl_e rfl ?_)
  refine round_normal rfl ?_
  refine rw_t 23 rfl rfl rfl (do_not rfl ?_)
  refine rw_nil ?_
  refine w_cond rfl (fun hc2 => ?_) (fun hc2 => ?_)
  · exfalso; first | (cases hc2; done) | exact (hc2 trivial) | (try simp only [bs] at hc2; first | omega | (simp_all; done) | (simp_all; omega))
  refine w_skip ?_
  refine w_region ?_
  refine rw_t 18 rfl rfl rfl (do_move rfl ?_)
  refine rw_t 19 rfl rfl rfl (do_add rfl rfl (by omega) ?_)
  refine rw_t 4 rfl rfl rfl (do_assign rfl ?_)
  refine rw_nil ?_
  refine ⟨i + 1, [0, 1, 2, 3, 4, 5, 6, 7, 8, 9, 10, 11, 12, 13, 14], by dsimp only; omega, by omega, ⟨shR rfl, shR rfl, shR rfl, shR rfl, shR rfl, shR rfl, shR rfl, shR rfl, shR rfl, shR rfl, shR rfl, .inr ⟨_, rfl, .inl (box_congr (cons_congr (congrArg (fun n => SV.slc 8 0 n none) (moveP_len c (begK c i) _ _).1) (cons_congr (congrArg (fun n => SV.slc 9 0 n none) (moveP_len c (begK c i) _ _).2.1) (cons_congr (congrArg (fun n => SV.slc 10 0 n none) (moveP_len c (begK c i) _ _).2.2) ((rfl : ([] : List SV) = []))))))⟩, shR rfl, shR rfl, shR rfl, trivial⟩, rfl, pre_ok rfl, ⟨⟨_, rfl, rfl⟩, ⟨_, rfl, rfl⟩, ⟨_, rfl, rfl⟩, ⟨_, rfl, Eq.symm (val_congr (by omega))⟩, trivial⟩⟩
end Go.Proofs.P7
