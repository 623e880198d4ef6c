/- RelaxedValid answers true for every input that can be read, and leaves the input as it was. Part 4. -/
import Derived.Test.YtnjmdlnaelpakaaW3
set_option linter.unusedVariables false
set_option linter.unusedSimpArgs false
set_option linter.unusedVariables false
namespace Go.Proofs
open Go Go.Sx Go.RowKit
theorem or_flip {b : Bool} {P : Prop} : (b = false ∨ P) ↔ (¬ b = true ∨ P) := by cases b <;> simp
/-- The lowest end of the first k arcs from a place on of which something is left. -/
def leastK (c : Csr) (p : Pre) (a0 : Int) : Nat → Int × Bool
  | 0 => (0, false)
  | k + 1 => if p.Res.getD (a0 + k).toNat 0 > 0 ∧ (¬ (leastK c p a0 k).2 = true ∨ p.H.getD (c.Head.getD (a0 + k).toNat 0).toNat 0 < (leastK c p a0 k).1) then (p.H.getD (c.Head.getD (a0 + k).toNat 0).toNat 0, true) else leastK c p a0 k
def manyOf (c : Csr) (u : Int) : Nat := (c.First.getD (u + 1).toNat 0 - c.First.getD u.toNat 0).toNat
def leastOf (c : Csr) (p : Pre) (u : Int) : Int × Bool := leastK c p (c.First.getD u.toNat 0) (manyOf c u)
theorem leastK_in {c : Csr} {p : Pre} {M : Int} (hM : 0 ≤ M) (hh : ∀ v, 0 ≤ p.H.getD v 0 ∧ p.H.getD v 0 ≤ M) (a0 : Int) : ∀ k, 0 ≤ (leastK c p a0 k).1 ∧ (leastK c p a0 k).1 ≤ M
  | 0 => ⟨Int.le_refl 0, hM⟩
  | k + 1 => by
    simp only [leastK]
    split
    · exact hh _
    · exact leastK_in hM hh a0 k
theorem high_all {c : Csr} {p : Pre} (hp : rightP c p) (h : CsrT c) (v : Nat) : 0 ≤ p.H.getD v 0 ∧ p.H.getD v 0 ≤ 8192 := by
  rcases Nat.lt_or_ge v c.N.toNat with hv | hv
  · exact (right_ok h hp).hv v hv
  · have := hp.1.2.2
    simp only [List.getD, List.getElem?_eq_none (show p.H.length ≤ v by omega)]
    decide
def idxI (q : Int → Bool) (xs : List Int) : Int := match (List.range xs.length).find? (fun i => q (xs.getD i 0)) with
  | some i => (i : Int)
  | none => -1
theorem idx_at {q : Int → Bool} {xs : List Int} {i : Nat} (hi : i < xs.length) (h : q (xs.getD i 0) = true) (hno : ∀ k, k < i → q (xs.getD k 0) = false) : idxI q xs = i := by
  unfold idxI
  have : (List.range xs.length).find? (fun i => q (xs.getD i 0)) = some i := by
    rw [List.find?_range_eq_some]
    exact ⟨h, by simpa using hi, fun j hj => by rw [hno j hj]; rfl⟩
  rw [this]
theorem idx_none {q : Int → Bool} {xs : List Int} (hno : ∀ k, k < xs.length → q (xs.getD k 0) = false) : idxI q xs = -1 := by
  unfold idxI
  have : (List.range xs.length).find? (fun i => q (xs.getD i 0)) = none := by
    rw [List.find?_range_eq_none]
    exact fun i hi => by rw [hno i hi]; rfl
  rw [this]
theorem idx_neg {q : Int → Bool} {xs : List Int} : ¬ (idxI q xs ≥ 0) ↔ ∀ k, k < xs.length → q (xs.getD k 0) = false := by
  constructor
  · intro hn k hk
    cases hf : (List.range xs.length).find? (fun i => q (xs.getD i 0)) with
    | some i => exact (hn (by unfold idxI; rw [hf]; exact Int.natCast_nonneg i)).elim
    | none =>
      rw [List.find?_range_eq_none] at hf
      have := hf k hk
      simpa using this
  · intro hno
    rw [idx_none hno]; decide
theorem idx_high {c : Csr} {p : Pre} (h : CsrOK c) (hp : PreLen c p) : ¬ (idxI (fun x => decide (x < 0 ∨ x > 2 * c.N)) p.H ≥ 0) ↔ highP c p := by
  rw [idx_neg, hp.h]
  unfold highP
  refine forall_congr' fun k => forall_congr' fun hk => ?_
  rw [decide_eq_false_iff_not]
  omega
theorem in64_wrap {x : Int} (h : In64 x) : IntKind.i64.wrap x = x := in64 h.1 h.2
theorem wrap_sub (a x : Int) : IntKind.i64.wrap (IntKind.i64.wrap a - x) = IntKind.i64.wrap (a - x) := by rw [IntKind.wrap_i64, IntKind.wrap_i64, IntKind.wrap_i64]; omega
theorem wrap_add (a x : Int) : IntKind.i64.wrap (IntKind.i64.wrap a + x) = IntKind.i64.wrap (a + x) := by rw [IntKind.wrap_i64, IntKind.wrap_i64, IntKind.wrap_i64]; omega
theorem ex_step {c : Csr} {p : Pre} {l : List Int} {i : Nat} (hb : c.Back.getD i false = true) (ht : 0 ≤ tailOf c i) (ht2 : (tailOf c i).toNat < l.length) (hh : 0 ≤ c.Head.getD i 0) (hh2 : (c.Head.getD i 0).toNat < l.length)
    (hg : ∀ v : Nat, v < c.N.toNat → l.getD v 0 = IntKind.i64.wrap (p.Ex.getD v 0 - exK c p.Res i v)) :
    ∀ v : Nat, v < c.N.toNat → ((l.set (tailOf c i).toNat (IntKind.i64.wrap (l.getD (tailOf c i).toNat 0 - p.Res.getD i 0))).set (c.Head.getD i 0).toNat (IntKind.i64.wrap ((l.set (tailOf c i).toNat (IntKind.i64.wrap (l.getD (tailOf c i).toNat 0 - p.Res.getD i 0))).getD (c.Head.getD i 0).toNat 0 + p.Res.getD i 0))).getD v 0 = IntKind.i64.wrap (p.Ex.getD v 0 - exK c p.Res (i + 1) v) := by
  intro v hv
  have h1 := hg v hv
  rw [exK, if_pos hb, getD_set _ _ _ _ (by rw [List.length_set]; exact hh2), getD_set _ _ _ _ ht2, getD_set _ _ _ _ ht2]
  by_cases e1 : (c.Head.getD i 0).toNat = v
  · rw [if_pos e1, if_pos (show c.Head.getD i 0 = (v : Int) by omega)]
    by_cases e2 : tailOf c i = (v : Int)
    · rw [if_pos e2, if_pos (by omega), e2, Int.toNat_natCast, h1, wrap_sub, wrap_add]; congr 1; omega
    · rw [if_neg e2, if_neg (by omega), e1, h1, wrap_add]; congr 1; omega
  · rw [if_neg e1, if_neg (show ¬ c.Head.getD i 0 = (v : Int) by omega)]
    by_cases e2 : tailOf c i = (v : Int)
    · rw [if_pos e2, if_pos (by omega), e2, Int.toNat_natCast, h1, wrap_sub]; congr 1; omega
    · rw [if_neg e2, if_neg (by omega), h1]; congr 1; omega
theorem ex_no {x y z : Int} (h : z = IntKind.i64.wrap (x - y)) {P : Prop} (hq : x = y ∧ (P → 0 ≤ x)) (hc : z ≠ 0 ∨ (P ∧ x < 0)) : False := by
  rcases hc with hc | ⟨h1, h2⟩
  · apply hc; rw [h, hq.1, Int.sub_self]; rfl
  · have := hq.2 h1; omega
theorem ex_yes {x y z : Int} {P : Prop} (hy : -2305843009213693952 ≤ y ∧ y ≤ 2305843009213693952) (hx : In64 x) (h : z = IntKind.i64.wrap (x - y)) (hc : ¬ (z ≠ 0 ∨ (P ∧ x < 0))) : x = y ∧ (P → 0 ≤ x) := by
  obtain ⟨h1, h2⟩ := hx
  rw [IntKind.wrap_i64] at h
  have h0 : z = 0 := Decidable.byContradiction fun q => hc (.inl q)
  have h3 : x - y = 0 := by
    rcases Int.lt_or_le (x - y + 9223372036854775808) 0 with q | q
    · have : (x - y + 9223372036854775808) % 18446744073709551616 = x - y + 9223372036854775808 + 18446744073709551616 := by omega
      omega
    · rcases Int.lt_or_le (x - y + 9223372036854775808) 18446744073709551616 with q2 | q2
      · rw [Int.emod_eq_of_lt q q2] at h; omega
      · omega
  refine ⟨by omega, fun hp => ?_⟩
  rcases Int.lt_or_le x 0 with q | q
  · exact (hc (.inr ⟨hp, q⟩)).elim
  · exact q
/-- P9.3: which moves are strict. -/
def strictP (c : Csr) (p : Pre) (e : Event) : Prop := legalE c p e = 0 ∧
  (if e.what = 1 then p.H.getD e.u.toNat 0 - p.H.getD (c.Head.getD e.arc.toNat 0).toNat 0 = 1 ∧ e.d = (if p.Res.getD e.arc.toNat 0 < p.Ex.getD e.u.toNat 0 then p.Res.getD e.arc.toNat 0 else p.Ex.getD e.u.toNat 0)
   else (leastOf c p e.u).2 = true ∧ p.Ex.getD e.u.toNat 0 > 0 ∧ (leastOf c p e.u).1 ≥ p.H.getD e.u.toNat 0 ∧ e.h = (leastOf c p e.u).1 + 1)
instance (c : Csr) (p : Pre) (e : Event) : Decidable (strictP c p e) := by unfold strictP; infer_instance

-- f41 "(acequia/relaxed.state).least"
set_option maxHeartbeats 8000000 in
set_option synthInstance.maxHeartbeats 400000 in
set_option synthInstance.maxSize 2000 in
theorem t_least (c : Csr) (p : Pre) (h : CsrG c) (hp : rightP c p) (u : Int) (hu : 0 ≤ u ∧ u < c.N) : Tri Try.prog 41 [.agg [.val (.int .i64 c.N), .val (.int .i64 c.S), .val (.int .i64 c.T), .slc 0 0 c.First.length none, .slc 1 0 c.Head.length none, .slc 2 0 c.Rev.length none, .slc 3 0 c.Cap.length none, .slc 4 0 c.Arc.length none, .slc 5 0 c.Back.length none, .slc 6 0 p.Res.length none, .slc 7 0 p.Ex.length none, .slc 8 0 p.H.length none], .val (.int .i64 u)] [SO.ints false .i64 c.First, SO.ints false .i64 c.Head, SO.ints false .i64 c.Rev, SO.ints false .i64 c.Cap, SO.ints false .i64 c.Arc, SO.bools false c.Back, SO.ints false .i64 p.Res, SO.ints false .i64 p.Ex, SO.ints false .i64 p.H] (fun s H => s = .tup [.val (.int .i64 ((leastOf c p u).1)), .val (.bool ((leastOf c p u).2))] ∧ H = [SO.ints false .i64 c.First, SO.ints false .i64 c.Head, SO.ints false .i64 c.Rev, SO.ints false .i64 c.Cap, SO.ints false .i64 c.Arc, SO.bools false c.Back, SO.ints false .i64 p.Res, SO.ints false .i64 p.Ex, SO.ints false .i64 p.H]) := by
  refine tri_of_w (fn := Try.f41) Try.func41 rfl (by simp [Try.f41]) ?_
  intro ρ w hρ
  refine w_seq ?_
  have hn := h.n
  have hf := h.first
  have hhd := h.head
  have hrl := h.rev
  have hcl := h.cap
  have hal := h.arc
  have hbl := h.back
  have hr := hp.1.1
  have hx := hp.1.2.1
  have hh := hp.1.2.2
  have hS := h.s
  have hT := h.t
  have hm := h.mono u.toNat (by omega)
  have hmt : (u + 1).toNat = u.toNat + 1 := by omega
  rw [← hmt] at hm
  -- region 0
  refine w_region ?_
  refine rw_t 2 rfl rfl rfl (n_box_agg (n := 9) rfl rfl ?_)
  refine rw_t 4 rfl rfl rfl (do_assign rfl ?_)
  refine rw_t 5 rfl rfl rfl (do_assign rfl ?_)
  refine rw_nil ?_
  refine w_seq ?_
  -- region 1
  refine w_region ?_
  refine rw_t 6 rfl rfl rfl (do_assign rfl ?_)
  refine rw_t 7 rfl rfl rfl (do_assign rfl ?_)
  refine rw_nil ?_
  refine w_seq ?_
  refine w_seq ?_
  -- region 2
  refine w_region ?_
  refine rw_t 10 rfl rfl rfl (do_fieldaddr rfl ?_)
  refine rw_t 11 rfl rfl rfl (do_fieldaddr rfl ?_)
  refine rw_t 12 rfl rfl rfl (do_load_box rfl rfl rfl ?_)
  refine rw_t 13 rfl rfl rfl (do_move rfl ?_)
  refine rw_t 14 rfl rfl rfl (do_ix0 rfl rfl rfl (by first | omega | (simp only [ls] <;> omega)) ?_)
  refine rw_t 15 rfl rfl rfl (do_load_arr rfl rfl (by first | omega | (simp only [ls] <;> omega)) rfl ?_)
  refine rw_t 8 rfl rfl rfl (do_assign rfl ?_)
  refine rw_nil ?_
  refine w_block ?_
  refine w_loopS (ι := Nat) (fun i => [(1, .val (.int .i64 u)), (2, .ptr 9 0 0), (4, .val (.int .i64 0)), (5, .val (.bool false)), (6, .val (.int .i64 ((leastK c p (c.First.getD u.toNat 0) i).1))), (7, .val (.bool ((leastK c p (c.First.getD u.toNat 0) i).2))), (8, .val (.int .i64 (c.First.getD u.toNat 0 + (i : Int))))]) (fun i => [SO.ints false .i64 c.First, SO.ints false .i64 c.Head, SO.ints false .i64 c.Rev, SO.ints false .i64 c.Cap, SO.ints false .i64 c.Arc, SO.bools false c.Back, SO.ints false .i64 p.Res, SO.ints false .i64 p.Ex, SO.ints false .i64 p.H, .box [.val (.int .i64 c.N), .val (.int .i64 c.S), .val (.int .i64 c.T), .slc 0 0 c.First.length none, .slc 1 0 c.Head.length none, .slc 2 0 c.Rev.length none, .slc 3 0 c.Cap.length none, .slc 4 0 c.Arc.length none, .slc 5 0 c.Back.length none, .slc 6 0 p.Res.length none, .slc 7 0 p.Ex.length none, .slc 8 0 p.H.length none]]) (fun i => manyOf c u - i) (fun i => i ≤ manyOf c u) (0) [0, 1, 2, 3, 4, 5, 6, 7, 8, 9] (by simp) ⟨.inr ⟨_, rfl, .inl rfl⟩, .inr ⟨_, rfl, .inl rfl⟩, .inr ⟨_, rfl, .inl rfl⟩, .inr ⟨_, rfl, .inl rfl⟩, .inr ⟨_, rfl, .inl rfl⟩, .inr ⟨_, rfl, .inl rfl⟩, .inr ⟨_, rfl, .inl rfl⟩, .inr ⟨_, rfl, .inl rfl⟩, .inr ⟨_, rfl, .inl rfl⟩, .inr ⟨_, rfl, .inl rfl⟩, trivial⟩ rfl (pre_ok rfl) hρ ⟨⟨_, rfl, rfl⟩, ⟨_, rfl, rfl⟩, ⟨_, rfl, rfl⟩, ⟨_, rfl, rfl⟩, ⟨_, rfl, rfl⟩, ⟨_, rfl, rfl⟩, ⟨_, rfl, Eq.symm (val_congr (by simp))⟩, trivial⟩ ?_
  intro i hi
  have hmo : (manyOf c u : Int) = c.First.getD (u + 1).toNat 0 - c.First.getD u.toNat 0 := by unfold manyOf; omega
  refine w_seq ?_
  refine w_seq ?_
  -- region 3
  refine w_region ?_
  refine rw_t 16 rfl rfl rfl (do_move rfl ?_)
  refine rw_t 17 rfl rfl rfl (do_fieldaddr rfl ?_)
  refine rw_t 18 rfl rfl rfl (do_fieldaddr rfl ?_)
  refine rw_t 19 rfl rfl rfl (do_load_box rfl rfl rfl ?_)
  refine rw_t 20 rfl rfl rfl (do_move rfl ?_)
  refine rw_t 21 rfl rfl rfl (do_add rfl rfl (by omega) ?_)
  refine rw_t 22 rfl rfl rfl (do_ix0 rfl rfl rfl (by first | omega | (simp only [ls] <;> omega)) ?_)
  refine rw_t 23 rfl rfl rfl (do_load_arr rfl rfl (by first | omega | (simp only [ls] <;> omega)) rfl ?_)
  refine rw_t 24 rfl rfl rfl (do_bin rfl rfl rfl ?_)
  refine rw_nil ?_
  refine w_cond rfl (fun hc1 => ?_) (fun hc1 => ?_)
  all_goals try simp only [bs] at hc1
  rotate_left
  · refine w_exit ?_ -- exit 0
    refine w_seq ?_
    -- region 8
    refine w_region ?_
    refine rw_t 55 rfl rfl rfl (do_move rfl ?_)
    refine rw_t 56 rfl rfl rfl (do_move rfl ?_)
    refine rw_t 4 rfl rfl rfl (do_assign rfl ?_)
    refine rw_t 5 rfl rfl rfl (do_assign rfl ?_)
    refine rw_nil ?_
    have hi' : i = manyOf c u := by omega
    subst hi'
    refine w_ret ?_
    -- RESULT .tup [.val (.int .i64 ((leastK c p (c.First.getD u.toNat 0) i).1)), .val (.bool ((leastK c p (c.First.getD u.toNat 0) i).2))], WANTED .tup [.val (.int .i64 ((leastOf c p u).1)), .val (.bool ((leastOf c p u).2))]
    exact ret_eq (.inl rfl) (.cons (res_tmp rfl) (.cons (res_tmp rfl) .nil)) [0, 1, 2, 3, 4, 5, 6, 7, 8] (rfl) ⟨.inr ⟨_, rfl, .inl rfl⟩, .inr ⟨_, rfl, .inl rfl⟩, .inr ⟨_, rfl, .inl rfl⟩, .inr ⟨_, rfl, .inl rfl⟩, .inr ⟨_, rfl, .inl rfl⟩, .inr ⟨_, rfl, .inl rfl⟩, .inr ⟨_, rfl, .inl rfl⟩, .inr ⟨_, rfl, .inl rfl⟩, .inr ⟨_, rfl, .inl rfl⟩, trivial⟩ rfl (pre_ok rfl)
  refine w_skip ?_
  refine w_seq ?_
  refine w_block ?_
  refine w_seq ?_
  have hA : (c.First.getD u.toNat 0 + (i : Int)).toNat < c.Head.length := by omega
  have hhd2 := h.hd _ hA
  have hla := leastK_in (M := 8192) (by omega) (high_all hp h.toCsrT) (c := c) (c.First.getD u.toNat 0) i
  -- region 5
  refine w_draw mixed [0, 1, 3, 0, 8, 24, 0, 120, 248] [511, 1023, 2047] (by kernel_rfl) (by kernel_rfl) rfl rfl rfl (hle hρ rfl) ?_
  refine ra_q (j := 0) rfl rfl rfl rfl (do_fieldaddr rfl ⟨rfl, rfl⟩) (by rfl) ?_
  refine ra_q (j := 1) rfl rfl rfl rfl (do_fieldaddr rfl ⟨rfl, rfl⟩) (by rfl) ?_
  refine ra_q (j := 2) rfl rfl rfl rfl (do_load_box rfl rfl rfl ⟨rfl, rfl⟩) (by rfl) ?_
  refine ra_q (j := 3) rfl rfl rfl rfl (do_fieldaddr rfl ⟨rfl, rfl⟩) (by rfl) ?_
  refine ra_q (j := 4) rfl rfl rfl rfl (do_fieldaddr rfl ⟨rfl, rfl⟩) (by rfl) ?_
  refine ra_q (j := 5) rfl rfl rfl rfl (do_load_box rfl rfl rfl ⟨rfl, rfl⟩) (by rfl) ?_
  refine ra_q (j := 6) rfl rfl rfl rfl (do_move rfl ⟨rfl, rfl⟩) (by rfl) ?_
  refine ra_q (j := 7) rfl rfl rfl rfl (do_ix0 rfl rfl rfl (by first | omega | (simp only [ls] <;> omega)) ⟨rfl, rfl⟩) (by rfl) ?_
  refine ra_q (j := 8) rfl rfl rfl rfl (do_load_arr rfl rfl (by first | omega | (simp only [ls] <;> omega)) rfl ⟨rfl, rfl⟩) (by rfl) ?_
  refine n_done ?_
  refine rw_t 36 rfl rfl rfl (do_ix0 rfl rfl rfl (by first | omega | (simp only [ls] <;> omega)) ?_)
  refine rw_t 37 rfl rfl rfl (do_load_arr rfl rfl (by first | omega | (simp only [ls] <;> omega)) rfl ?_)
  refine rw_t 9 rfl rfl rfl (do_assign rfl ?_)
  refine rw_nil ?_
  refine w_seqB 53 (((p.Res.getD ((c.First.getD u.toNat 0 + (i : Int)).toNat) 0) > 0 ∧ (¬ (((leastK c p (c.First.getD u.toNat 0) i).2) = true) ∨ (p.H.getD ((c.Head.getD ((c.First.getD u.toNat 0 + (i : Int)).toNat) 0).toNat) 0) < (leastK c p (c.First.getD u.toNat 0) i).1))) ?_ ?_
  · -- region 6
    refine w_region ?_
    refine rw_t 38 rfl rfl rfl (do_fieldaddr rfl ?_)
    refine rw_t 39 rfl rfl rfl (do_fieldaddr rfl ?_)
    refine rw_t 40 rfl rfl rfl (do_load_box rfl rfl rfl ?_)
    refine rw_t 41 rfl rfl rfl (do_move rfl ?_)
    refine rw_t 42 rfl rfl rfl (do_ix0 rfl rfl rfl (by first | omega | (simp only [ls] <;> omega)) ?_)
    refine rw_t 43 rfl rfl rfl (do_load_arr rfl rfl (by first | omega | (simp only [ls] <;> omega)) rfl ?_)
    refine rw_t 44 rfl rfl rfl (do_bin rfl rfl rfl ?_)
    refine rw_t 45 rfl rfl rfl (do_move rfl ?_)
    refine rw_case 45 rfl (fun g1 => ?_) (fun g1 => ?_)
    · have kg1 := g1
      try simp only [bs] at kg1
      refine rw_gt 46 7 45 true rfl rfl rfl rfl rfl rfl g1 (do_move rfl ?_)
      refine rw_gt 47 7 45 true rfl rfl rfl rfl rfl rfl g1 (do_not rfl ?_)
      refine rw_gt 48 7 45 true rfl rfl rfl rfl rfl rfl g1 (do_move rfl ?_)
      refine rw_case 48 rfl (fun g2 => ?_) (fun g2 => ?_)
      · have kg2 := g2
        try simp only [bs] at kg2
        refine rw_gf 49 10 48 false rfl rfl rfl rfl rfl rfl (by rw [g2]; decide) ?_
        refine rw_gf 50 10 48 false rfl rfl rfl rfl rfl rfl (by rw [g2]; decide) ?_
        refine rw_gf 51 10 48 false rfl rfl rfl rfl rfl rfl (by rw [g2]; decide) ?_
        refine rw_gt 52 7 45 true rfl rfl rfl rfl rfl rfl g1 (do_pick_t rfl g2 rfl ?_)
        refine rw_t 53 rfl rfl rfl (do_pick_t rfl g1 rfl ?_)
        refine rw_nil ?_
        refine ⟨rfl, ⟨_, rfl, by first | (simp; done) | (simp only [bs]; omega) | (simp [*]; done) | (simp; omega) | (constructor <;> intro h <;> simp_all <;> omega)⟩, ?_⟩
        repeat (refine ⟨⟨_, rfl, rfl⟩, ?_⟩)
        exact trivial
      · have kg2 := g2
        try simp only [bs] at kg2
        refine rw_gt 49 10 48 false rfl rfl rfl rfl rfl rfl g2 (do_move rfl ?_)
        refine rw_gt 50 10 48 false rfl rfl rfl rfl rfl rfl g2 (do_move rfl ?_)
        refine rw_gt 51 10 48 false rfl rfl rfl rfl rfl rfl g2 (do_bin rfl rfl rfl ?_)
        refine rw_gt 52 7 45 true rfl rfl rfl rfl rfl rfl g1 (do_pick_f rfl g2 rfl ?_)
        refine rw_t 53 rfl rfl rfl (do_pick_t rfl g1 rfl ?_)
        refine rw_nil ?_
        refine ⟨rfl, ⟨_, rfl, by first | (simp; done) | (simp only [bs]; omega) | (simp [*]; done) | (simp; omega) | (constructor <;> intro h <;> simp_all <;> omega)⟩, ?_⟩
        repeat (refine ⟨⟨_, rfl, rfl⟩, ?_⟩)
        exact trivial
    · have kg1 := g1
      try simp only [bs] at kg1
      refine rw_gf 46 7 45 true rfl rfl rfl rfl rfl rfl (by rw [g1]; decide) ?_
      refine rw_gf 47 7 45 true rfl rfl rfl rfl rfl rfl (by rw [g1]; decide) ?_
      refine rw_gf 48 7 45 true rfl rfl rfl rfl rfl rfl (by rw [g1]; decide) ?_
      refine rw_gu 49 10 48 false rfl rfl rfl rfl rfl rfl ?_
      refine rw_gu 50 10 48 false rfl rfl rfl rfl rfl rfl ?_
      refine rw_gu 51 10 48 false rfl rfl rfl rfl rfl rfl ?_
      refine rw_gf 52 7 45 true rfl rfl rfl rfl rfl rfl (by rw [g1]; decide) ?_
      refine rw_t 53 rfl rfl rfl (do_pick_f rfl g1 rfl ?_)
      refine rw_nil ?_
      refine ⟨rfl, ⟨_, rfl, by first | (simp; done) | (simp only [bs]; omega) | (simp [*]; done) | (simp; omega) | (constructor <;> intro h <;> simp_all <;> omega)⟩, ?_⟩
      repeat (refine ⟨⟨_, rfl, rfl⟩, ?_⟩)
      exact trivial
  intro b1 hb1
  refine w_condP hb1 rfl (fun hc2 => ?_) (fun hc2 => ?_)
  · -- region 7
    refine w_region ?_
    refine rw_t 54 rfl rfl rfl (do_move rfl ?_)
    refine rw_t 6 rfl rfl rfl (do_assign rfl ?_)
    refine rw_t 7 rfl rfl rfl (do_assign rfl ?_)
    refine rw_nil ?_
    -- region 4
    refine w_region ?_
    refine rw_t 25 rfl rfl rfl (do_move rfl ?_)
    refine rw_t 26 rfl rfl rfl (do_add rfl rfl (by omega) ?_)
    refine rw_t 8 rfl rfl rfl (do_assign rfl ?_)
    refine rw_nil ?_
    refine ⟨i + 1, [0, 1, 2, 3, 4, 5, 6, 7, 8, 9], by dsimp only; omega, by omega, ⟨.inr ⟨_, rfl, .inl rfl⟩, .inr ⟨_, rfl, .inl rfl⟩, .inr ⟨_, rfl, .inl rfl⟩, .inr ⟨_, rfl, .inl rfl⟩, .inr ⟨_, rfl, .inl rfl⟩, .inr ⟨_, rfl, .inl rfl⟩, .inr ⟨_, rfl, .inl rfl⟩, .inr ⟨_, rfl, .inl rfl⟩, .inr ⟨_, rfl, .inl rfl⟩, .inr ⟨_, rfl, .inl rfl⟩, trivial⟩, rfl, pre_ok rfl, ⟨⟨_, rfl, rfl⟩, ⟨_, rfl, rfl⟩, ⟨_, rfl, rfl⟩, ⟨_, rfl, rfl⟩, ⟨_, rfl, Eq.symm (val_congr (by simp only [leastK]; rw [if_pos hc2]))⟩, ⟨_, rfl, Eq.symm (bool_congr (by simp only [leastK]; rw [if_pos hc2]))⟩, ⟨_, rfl, Eq.symm (val_congr (by omega))⟩, trivial⟩⟩
  · refine w_skip ?_
    -- region 4
    refine w_region ?_
    refine rw_t 25 rfl rfl rfl (do_move rfl ?_)
    refine rw_t 26 rfl rfl rfl (do_add rfl rfl (by omega) ?_)
    refine rw_t 8 rfl rfl rfl (do_assign rfl ?_)
    refine rw_nil ?_
    refine ⟨i + 1, [0, 1, 2, 3, 4, 5, 6, 7, 8, 9], by dsimp only; omega, by omega, ⟨.inr ⟨_, rfl, .inl rfl⟩, .inr ⟨_, rfl, .inl rfl⟩, .inr ⟨_, rfl, .inl rfl⟩, .inr ⟨_, rfl, .inl rfl⟩, .inr ⟨_, rfl, .inl rfl⟩, .inr ⟨_, rfl, .inl rfl⟩, .inr ⟨_, rfl, .inl rfl⟩, .inr ⟨_, rfl, .inl rfl⟩, .inr ⟨_, rfl, .inl rfl⟩, .inr ⟨_, rfl, .inl rfl⟩, trivial⟩, rfl, pre_ok rfl, ⟨⟨_, rfl, rfl⟩, ⟨_, rfl, rfl⟩, ⟨_, rfl, rfl⟩, ⟨_, rfl, rfl⟩, ⟨_, rfl, Eq.symm (val_congr (by simp only [leastK]; rw [if_neg hc2]))⟩, ⟨_, rfl, Eq.symm (bool_congr (by simp only [leastK]; rw [if_neg hc2]))⟩, ⟨_, rfl, Eq.symm (val_congr (by omega))⟩, trivial⟩⟩
-- f17 "acequia/relaxed.Strict"
set_option maxHeartbeats 8000000 in
set_option synthInstance.maxHeartbeats 400000 in
set_option synthInstance.maxSize 2000 in
theorem t_Strict (c : Csr) (p : Pre) (h : CsrG c) (hp : rightP c p) (e : Event) (he : EvIn e) : Tri Try.prog 17 [.agg [.val (.int .i64 c.N), .val (.int .i64 c.S), .val (.int .i64 c.T), .slc 0 0 c.First.length none, .slc 1 0 c.Head.length none, .slc 2 0 c.Rev.length none, .slc 3 0 c.Cap.length none, .slc 4 0 c.Arc.length none, .slc 5 0 c.Back.length none], .agg [.slc 6 0 p.Res.length none, .slc 7 0 p.Ex.length none, .slc 8 0 p.H.length none], .agg [.val (.int .i64 e.who), .val (.int .u8 e.what), .val (.int .i64 e.u), .val (.int .i64 e.arc), .val (.int .i64 e.d), .val (.int .i64 e.h), .val (.int .i64 e.low)]] [SO.ints false .i64 c.First, SO.ints false .i64 c.Head, SO.ints false .i64 c.Rev, SO.ints false .i64 c.Cap, SO.ints false .i64 c.Arc, SO.bools false c.Back, SO.ints false .i64 p.Res, SO.ints false .i64 p.Ex, SO.ints false .i64 p.H] (fun s H => s = .val (.bool (decide (strictP c p e))) ∧ H = [SO.ints false .i64 c.First, SO.ints false .i64 c.Head, SO.ints false .i64 c.Rev, SO.ints false .i64 c.Cap, SO.ints false .i64 c.Arc, SO.bools false c.Back, SO.ints false .i64 p.Res, SO.ints false .i64 p.Ex, SO.ints false .i64 p.H]) := by
  refine tri_of_w (fn := Try.f17) Try.func17 rfl (by simp [Try.f17]) ?_
  intro ρ w hρ
  refine w_seq ?_
  have hn := h.n
  have hf := h.first
  have hhd := h.head
  have hrl := h.rev
  have hcl := h.cap
  have hal := h.arc
  have hbl := h.back
  have hr := hp.1.1
  have hx := hp.1.2.1
  have hh := hp.1.2.2
  have hS := h.s
  have hT := h.t
  have hha := high_all hp h.toCsrT
  -- region 0
  refine w_region ?_
  refine rw_t 3 rfl rfl rfl (n_box_agg (n := 9) rfl rfl ?_)
  refine rw_t 4 rfl rfl rfl (n_box_agg (n := 10) rfl rfl ?_)
  refine rw_t 5 rfl rfl rfl (n_box_agg (n := 11) rfl rfl ?_)
  refine rw_t 6 rfl rfl rfl (do_assign rfl ?_)
  refine rw_nil ?_
  refine w_seq ?_
  -- region 1
  refine w_region ?_
  refine rw_t 10 rfl rfl rfl (n_load_boxagg [_, _, _, _, _, _, _, _, _] rfl rfl (Nat.le_of_ble_eq_true rfl) rfl ?_)
  refine rw_t 11 rfl rfl rfl (n_load_boxagg [_, _, _] rfl rfl (Nat.le_of_ble_eq_true rfl) rfl ?_)
  refine rw_t 12 rfl rfl rfl (do_build (out := [_, _, _, _, _, _, _, _, _, _, _, _]) rfl rfl ?_)
  refine rw_t 7 rfl rfl rfl (n_alloc (n := 12) rfl ?_)
  refine rw_u rfl rfl (n_store_whole rfl rfl rfl rfl rfl rfl ?_)
  refine rw_nil ?_
  refine w_seq ?_
  refine w_seq ?_
  -- region 2
  refine w_region ?_
  refine rw_t 13 rfl rfl rfl (n_load_boxagg [_, _, _, _, _, _, _, _, _] rfl rfl (Nat.le_of_ble_eq_true rfl) rfl ?_)
  refine rw_t 14 rfl rfl rfl (n_load_boxagg [_, _, _] rfl rfl (Nat.le_of_ble_eq_true rfl) rfl ?_)
  refine rw_t 15 rfl rfl rfl (n_load_boxagg [_, _, _, _, _, _, _] rfl rfl (Nat.le_of_ble_eq_true rfl) rfl ?_)
  refine rw_t 16 rfl rfl rfl (do_callR (X' := .val (.int .i64 (legalE c p e))) rfl rfl (t_Legal (c := c) (p := p) (e := e) (h.toCsrOK) (right_len hp) (he)) [0, 1, 2, 3, 4, 5, 6, 7, 8] ⟨.inr ⟨_, rfl, srv⟩, .inr ⟨_, rfl, srv⟩, .inr ⟨_, rfl, srv⟩, .inr ⟨_, rfl, srv⟩, .inr ⟨_, rfl, srv⟩, .inr ⟨_, rfl, srv⟩, .inr ⟨_, rfl, srv⟩, .inr ⟨_, rfl, srv⟩, .inr ⟨_, rfl, srv⟩, trivial⟩ rfl rfl rfl ?_)
  refine rw_t 17 rfl rfl rfl (do_bin rfl rfl rfl ?_)
  refine rw_nil ?_
  refine w_cond rfl (fun hc1 => ?_) (fun hc1 => ?_)
  all_goals try simp only [bs] at hc1
  · refine w_seq ?_
    -- region 3
    refine w_region ?_
    refine rw_t 6 rfl rfl rfl (do_assign rfl ?_)
    refine rw_nil ?_
    refine w_ret ?_
    exact ret_eq (.inl rfl) (.cons (res_tmp rfl) .nil) [0, 1, 2, 3, 4, 5, 6, 7, 8] (Eq.symm (bool_congr (decide_eq_false (fun q => hc1 q.1)))) ⟨.inr ⟨_, rfl, .inl rfl⟩, .inr ⟨_, rfl, .inl rfl⟩, .inr ⟨_, rfl, .inl rfl⟩, .inr ⟨_, rfl, .inl rfl⟩, .inr ⟨_, rfl, .inl rfl⟩, .inr ⟨_, rfl, .inl rfl⟩, .inr ⟨_, rfl, .inl rfl⟩, .inr ⟨_, rfl, .inl rfl⟩, .inr ⟨_, rfl, .inl rfl⟩, trivial⟩ rfl (pre_ok rfl)
  refine w_skip ?_
  refine w_seq ?_
  refine w_seq ?_
  have hu := legal_u hc1
  -- region 4
  refine w_region ?_
  refine rw_t 18 rfl rfl rfl (do_fieldaddr rfl ?_)
  refine rw_t 19 rfl rfl rfl (do_load_box rfl rfl rfl ?_)
  refine rw_t 20 rfl rfl rfl (do_bin rfl rfl rfl ?_)
  refine rw_nil ?_
  refine w_cond rfl (fun hc2 => ?_) (fun hc2 => ?_)
  all_goals try simp only [bs] at hc2
  · obtain ⟨a1, a2, a3, a4, a5, a6, a7⟩ := legal_push hc1 (by omega)
    obtain ⟨t1, t2, t3⟩ := tail_of_arc h.toCsrT ⟨hu.2.1, hu.2.2.1⟩ a1 a2
    have hA : e.arc.toNat < c.Head.length := by omega
    have hhd2 := h.hd _ hA
    have y1 := hha e.u.toNat
    have y2 := hha (c.Head.getD e.arc.toNat 0).toNat
    refine w_env [(3, .ptr 9 0 0), (4, .ptr 10 0 0), (5, .ptr 11 0 0), (7, .ptr 12 0 0)] ⟨⟨_, rfl, rfl⟩, ⟨_, rfl, rfl⟩, ⟨_, rfl, rfl⟩, ⟨_, rfl, rfl⟩, trivial⟩ ?_
    refine w_seqB 6 ((((p.H.getD e.u.toNat 0) - (p.H.getD ((c.Head.getD e.arc.toNat 0).toNat) 0)) = 1 ∧ e.d = (if (p.Res.getD e.arc.toNat 0) < (p.Ex.getD e.u.toNat 0) then (p.Res.getD e.arc.toNat 0) else (p.Ex.getD e.u.toNat 0)))) ?_ ?_
    · -- region 5
      refine w_draw mixed [0, 1, 0, 4, 15, 31, 0, 64, 0, 256, 0, 1024, 3840, 7936, 16320, 32704, 65535, 131071, 262143, 524287, 1048575, 524287, 2621439, 524287, 8912895, 31981567, 65535999, 524287, 134742015, 524287, 537395199, 2013790207, 4161273855, 8588361727] [17179869183, 34359738367, 68719476735] (by kernel_rfl) (by kernel_rfl) rfl rfl rfl (hle hρ rfl) ?_
      refine ra_q (j := 0) rfl rfl rfl rfl (do_fieldaddr rfl ⟨rfl, rfl⟩) (by rfl) ?_
      refine ra_q (j := 1) rfl rfl rfl rfl (do_load_box rfl rfl rfl ⟨rfl, rfl⟩) (by rfl) ?_
      refine ra_q (j := 2) rfl rfl rfl rfl (do_fieldaddr rfl ⟨rfl, rfl⟩) (by rfl) ?_
      refine ra_q (j := 3) rfl rfl rfl rfl (do_load_box rfl rfl rfl ⟨rfl, rfl⟩) (by rfl) ?_
      refine ra_q (j := 4) rfl rfl rfl rfl (do_ix0 rfl rfl rfl (by first | omega | (simp only [ls] <;> omega)) ⟨rfl, rfl⟩) (by rfl) ?_
      refine ra_q (j := 5) rfl rfl rfl rfl (do_load_arr rfl rfl (by first | omega | (simp only [ls] <;> omega)) rfl ⟨rfl, rfl⟩) (by rfl) ?_
      refine ra_q (j := 6) rfl rfl rfl rfl (do_fieldaddr rfl ⟨rfl, rfl⟩) (by rfl) ?_
      refine ra_q (j := 7) rfl rfl rfl rfl (do_load_box rfl rfl rfl ⟨rfl, rfl⟩) (by rfl) ?_
      refine ra_q (j := 8) rfl rfl rfl rfl (do_fieldaddr rfl ⟨rfl, rfl⟩) (by rfl) ?_
      refine ra_q (j := 9) rfl rfl rfl rfl (do_load_box rfl rfl rfl ⟨rfl, rfl⟩) (by rfl) ?_
      refine ra_q (j := 10) rfl rfl rfl rfl (do_fieldaddr rfl ⟨rfl, rfl⟩) (by rfl) ?_
      refine ra_q (j := 11) rfl rfl rfl rfl (do_load_box rfl rfl rfl ⟨rfl, rfl⟩) (by rfl) ?_
      refine ra_q (j := 12) rfl rfl rfl rfl (do_ix0 rfl rfl rfl (by first | omega | (simp only [ls] <;> omega)) ⟨rfl, rfl⟩) (by rfl) ?_
      refine ra_q (j := 13) rfl rfl rfl rfl (do_load_arr rfl rfl (by first | omega | (simp only [ls] <;> omega)) rfl ⟨rfl, rfl⟩) (by rfl) ?_
      refine ra_q (j := 14) rfl rfl rfl rfl (do_ix0 rfl rfl rfl (by first | omega | (simp only [ls] <;> omega)) ⟨rfl, rfl⟩) (by rfl) ?_
      refine ra_q (j := 15) rfl rfl rfl rfl (do_load_arr rfl rfl (by first | omega | (simp only [ls] <;> omega)) rfl ⟨rfl, rfl⟩) (by rfl) ?_
      refine ra_q (j := 16) rfl rfl rfl rfl (do_sub rfl rfl (by omega) ⟨rfl, rfl⟩) (by rfl) ?_
      refine ra_q (j := 17) rfl rfl rfl rfl (do_bin rfl rfl rfl ⟨rfl, rfl⟩) (by rfl) ?_
      refine ra_q (j := 18) rfl rfl rfl rfl (do_move rfl ⟨rfl, rfl⟩) (by rfl) ?_
      refine ra_case 39 rfl (fun g1 => ?_) (fun g1 => ?_)
      · have kg1 := g1
        try simp only [bs] at kg1
        refine ra_gt (j := 19) rfl rfl rfl rfl g1 rfl rfl rfl (do_fieldaddr rfl ⟨rfl, rfl⟩) (by rfl) ?_
        refine ra_gt (j := 20) rfl rfl rfl rfl g1 rfl rfl rfl (do_load_box rfl rfl rfl ⟨rfl, rfl⟩) (by rfl) ?_
        refine ra_gt (j := 21) rfl rfl rfl rfl g1 rfl rfl rfl (do_fieldaddr rfl ⟨rfl, rfl⟩) (by rfl) ?_
        refine ra_gt (j := 22) rfl rfl rfl rfl g1 rfl rfl rfl (do_load_box rfl rfl rfl ⟨rfl, rfl⟩) (by rfl) ?_
        refine ra_gt (j := 23) rfl rfl rfl rfl g1 rfl rfl rfl (do_fieldaddr rfl ⟨rfl, rfl⟩) (by rfl) ?_
        refine ra_gt (j := 24) rfl rfl rfl rfl g1 rfl rfl rfl (do_load_box rfl rfl rfl ⟨rfl, rfl⟩) (by rfl) ?_
        refine ra_gt (j := 25) rfl rfl rfl rfl g1 rfl rfl rfl (do_ix0 rfl rfl rfl (by first | omega | (simp only [ls] <;> omega)) ⟨rfl, rfl⟩) (by rfl) ?_
        refine ra_gt (j := 26) rfl rfl rfl rfl g1 rfl rfl rfl (do_load_arr rfl rfl (by first | omega | (simp only [ls] <;> omega)) rfl ⟨rfl, rfl⟩) (by rfl) ?_
        refine ra_gt (j := 27) rfl rfl rfl rfl g1 rfl rfl rfl (do_fieldaddr rfl ⟨rfl, rfl⟩) (by rfl) ?_
        refine ra_gt (j := 28) rfl rfl rfl rfl g1 rfl rfl rfl (do_load_box rfl rfl rfl ⟨rfl, rfl⟩) (by rfl) ?_
        refine ra_gt (j := 29) rfl rfl rfl rfl g1 rfl rfl rfl (do_fieldaddr rfl ⟨rfl, rfl⟩) (by rfl) ?_
        refine ra_gt (j := 30) rfl rfl rfl rfl g1 rfl rfl rfl (do_load_box rfl rfl rfl ⟨rfl, rfl⟩) (by rfl) ?_
        refine ra_gt (j := 31) rfl rfl rfl rfl g1 rfl rfl rfl (do_ix0 rfl rfl rfl (by first | omega | (simp only [ls] <;> omega)) ⟨rfl, rfl⟩) (by rfl) ?_
        refine ra_gt (j := 32) rfl rfl rfl rfl g1 rfl rfl rfl (do_load_arr rfl rfl (by first | omega | (simp only [ls] <;> omega)) rfl ⟨rfl, rfl⟩) (by rfl) ?_
        refine ra_gt (j := 33) rfl rfl rfl rfl g1 rfl rfl rfl (do_min rfl rfl ⟨rfl, rfl⟩) (by rfl) ?_
        refine n_done ?_
        refine rw_gt 55 18 39 true rfl rfl rfl rfl rfl rfl g1 (do_bin rfl rfl rfl ?_)
        refine rw_t 56 rfl rfl rfl (do_pick_t rfl g1 rfl ?_)
        refine rw_t 6 rfl rfl rfl (do_assign rfl ?_)
        refine rw_nil ?_
        refine ⟨rfl, ⟨_, rfl, by first | (simp; done) | (simp only [bs]; omega) | (simp [*]; done) | (simp; omega) | (constructor <;> intro h <;> simp_all <;> omega)⟩, ?_⟩
        repeat (refine ⟨⟨_, rfl, rfl⟩, ?_⟩)
        exact trivial
      · have kg1 := g1
        try simp only [bs] at kg1
        refine ra_gf (j := 19) rfl rfl rfl rfl (by rw [g1]; decide) rfl rfl rfl ?_
        refine ra_gf (j := 20) rfl rfl rfl rfl (by rw [g1]; decide) rfl rfl rfl ?_
        refine ra_gf (j := 21) rfl rfl rfl rfl (by rw [g1]; decide) rfl rfl rfl ?_
        refine ra_gf (j := 22) rfl rfl rfl rfl (by rw [g1]; decide) rfl rfl rfl ?_
        refine ra_gf (j := 23) rfl rfl rfl rfl (by rw [g1]; decide) rfl rfl rfl ?_
        refine ra_gf (j := 24) rfl rfl rfl rfl (by rw [g1]; decide) rfl rfl rfl ?_
        refine ra_gf (j := 25) rfl rfl rfl rfl (by rw [g1]; decide) rfl rfl rfl ?_
        refine ra_gf (j := 26) rfl rfl rfl rfl (by rw [g1]; decide) rfl rfl rfl ?_
        refine ra_gf (j := 27) rfl rfl rfl rfl (by rw [g1]; decide) rfl rfl rfl ?_
        refine ra_gf (j := 28) rfl rfl rfl rfl (by rw [g1]; decide) rfl rfl rfl ?_
        refine ra_gf (j := 29) rfl rfl rfl rfl (by rw [g1]; decide) rfl rfl rfl ?_
        refine ra_gf (j := 30) rfl rfl rfl rfl (by rw [g1]; decide) rfl rfl rfl ?_
        refine ra_gf (j := 31) rfl rfl rfl rfl (by rw [g1]; decide) rfl rfl rfl ?_
        refine ra_gf (j := 32) rfl rfl rfl rfl (by rw [g1]; decide) rfl rfl rfl ?_
        refine ra_gf (j := 33) rfl rfl rfl rfl (by rw [g1]; decide) rfl rfl rfl ?_
        refine n_done ?_
        refine rw_gf 55 18 39 true rfl rfl rfl rfl rfl rfl (by rw [g1]; decide) ?_
        refine rw_t 56 rfl rfl rfl (do_pick_f rfl g1 rfl ?_)
        refine rw_t 6 rfl rfl rfl (do_assign rfl ?_)
        refine rw_nil ?_
        refine ⟨rfl, ⟨_, rfl, by first | (simp; done) | (simp only [bs]; omega) | (simp [*]; done) | (simp; omega) | (constructor <;> intro h <;> simp_all <;> omega)⟩, ?_⟩
        repeat (refine ⟨⟨_, rfl, rfl⟩, ?_⟩)
        exact trivial
    intro b1 hb1
    refine w_ret ?_
    exact ret_eq (.inl rfl) (.cons (res_tmp rfl) .nil) [0, 1, 2, 3, 4, 5, 6, 7, 8] (Eq.symm (bool_congr (dec_of hb1 (by unfold strictP; rw [if_pos hc2]; exact ⟨fun q => q.2, fun q => ⟨hc1, q⟩⟩)))) ⟨.inr ⟨_, rfl, .inl rfl⟩, .inr ⟨_, rfl, .inl rfl⟩, .inr ⟨_, rfl, .inl rfl⟩, .inr ⟨_, rfl, .inl rfl⟩, .inr ⟨_, rfl, .inl rfl⟩, .inr ⟨_, rfl, .inl rfl⟩, .inr ⟨_, rfl, .inl rfl⟩, .inr ⟨_, rfl, .inl rfl⟩, .inr ⟨_, rfl, .inl rfl⟩, trivial⟩ rfl (pre_ok rfl)
  refine w_skip ?_
  refine w_seq ?_
  -- region 6
  refine w_region ?_
  refine rw_t 58 rfl rfl rfl (n_load_boxagg [_, _, _, _, _, _, _, _, _, _, _, _] rfl rfl (Nat.le_of_ble_eq_true rfl) rfl ?_)
  refine rw_t 59 rfl rfl rfl (do_fieldaddr rfl ?_)
  refine rw_t 60 rfl rfl rfl (do_load_box rfl rfl rfl ?_)
  refine rw_t 61 rfl rfl rfl (do_callR (X' := .tup [.val (.int .i64 ((leastOf c p e.u).1)), .val (.bool ((leastOf c p e.u).2))]) rfl rfl (t_least (c := c) (p := p) (u := e.u) (h) (hp) (by omega)) [0, 1, 2, 3, 4, 5, 6, 7, 8] ⟨.inr ⟨_, rfl, srv⟩, .inr ⟨_, rfl, srv⟩, .inr ⟨_, rfl, srv⟩, .inr ⟨_, rfl, srv⟩, .inr ⟨_, rfl, srv⟩, .inr ⟨_, rfl, srv⟩, .inr ⟨_, rfl, srv⟩, .inr ⟨_, rfl, srv⟩, .inr ⟨_, rfl, srv⟩, trivial⟩ rfl rfl rfl ?_)
  refine rw_t 57 rfl rfl rfl (do_move rfl ?_)
  refine rw_t 62 rfl rfl rfl (do_extract rfl rfl ?_)
  refine rw_t 63 rfl rfl rfl (do_extract rfl rfl ?_)
  refine rw_t 8 rfl rfl rfl (do_assign rfl ?_)
  refine rw_t 9 rfl rfl rfl (do_assign rfl ?_)
  refine rw_nil ?_
  have hla : 0 ≤ (leastOf c p e.u).1 ∧ (leastOf c p e.u).1 ≤ 8192 := leastK_in (M := 8192) (by omega) hha (c := c) (c.First.getD e.u.toNat 0) (manyOf c e.u)
  refine w_env [(4, .ptr 10 0 0), (5, .ptr 11 0 0), (8, .val (.int .i64 ((leastOf c p e.u).1))), (9, .val (.bool ((leastOf c p e.u).2)))] ⟨⟨_, rfl, rfl⟩, ⟨_, rfl, rfl⟩, ⟨_, rfl, rfl⟩, ⟨_, rfl, rfl⟩, trivial⟩ ?_
  refine w_seqB 6 ((((((leastOf c p e.u).2) = true ∧ (p.Ex.getD e.u.toNat 0) > 0) ∧ (leastOf c p e.u).1 ≥ (p.H.getD e.u.toNat 0)) ∧ e.h = ((leastOf c p e.u).1 + 1))) ?_ ?_
  · -- region 7
    refine w_region ?_
    refine rw_t 64 rfl rfl rfl (do_move rfl ?_)
    refine rw_t 65 rfl rfl rfl (do_move rfl ?_)
    refine rw_case 65 rfl (fun g2 => ?_) (fun g2 => ?_)
    · have kg2 := g2
      try simp only [bs] at kg2
      refine rw_gt 66 1 65 true rfl rfl rfl rfl rfl rfl g2 (do_fieldaddr rfl ?_)
      refine rw_gt 67 1 65 true rfl rfl rfl rfl rfl rfl g2 (do_load_box rfl rfl rfl ?_)
      refine rw_gt 68 1 65 true rfl rfl rfl rfl rfl rfl g2 (do_fieldaddr rfl ?_)
      refine rw_gt 69 1 65 true rfl rfl rfl rfl rfl rfl g2 (do_load_box rfl rfl rfl ?_)
      refine rw_gt 70 1 65 true rfl rfl rfl rfl rfl rfl g2 (do_ix0 rfl rfl rfl (by first | omega | (simp only [ls] <;> omega)) ?_)
      refine rw_gt 71 1 65 true rfl rfl rfl rfl rfl rfl g2 (do_load_arr rfl rfl (by first | omega | (simp only [ls] <;> omega)) rfl ?_)
      refine rw_gt 72 1 65 true rfl rfl rfl rfl rfl rfl g2 (do_bin rfl rfl rfl ?_)
      refine rw_t 73 rfl rfl rfl (do_pick_t rfl g2 rfl ?_)
      refine rw_t 74 rfl rfl rfl (do_move rfl ?_)
      refine rw_case 74 rfl (fun g3 => ?_) (fun g3 => ?_)
      · have kg3 := g3
        try simp only [bs] at kg3
        refine rw_gt 75 10 74 true rfl rfl rfl rfl rfl rfl g3 (do_move rfl ?_)
        refine rw_gt 76 10 74 true rfl rfl rfl rfl rfl rfl g3 (do_fieldaddr rfl ?_)
        refine rw_gt 77 10 74 true rfl rfl rfl rfl rfl rfl g3 (do_load_box rfl rfl rfl ?_)
        refine rw_gt 78 10 74 true rfl rfl rfl rfl rfl rfl g3 (do_fieldaddr rfl ?_)
        refine rw_gt 79 10 74 true rfl rfl rfl rfl rfl rfl g3 (do_load_box rfl rfl rfl ?_)
        refine rw_gt 80 10 74 true rfl rfl rfl rfl rfl rfl g3 (do_ix0 rfl rfl rfl (by first | omega | (simp only [ls] <;> omega)) ?_)
        refine rw_gt 81 10 74 true rfl rfl rfl rfl rfl rfl g3 (do_load_arr rfl rfl (by first | omega | (simp only [ls] <;> omega)) rfl ?_)
        refine rw_gt 82 10 74 true rfl rfl rfl rfl rfl rfl g3 (do_bin rfl rfl rfl ?_)
        refine rw_t 83 rfl rfl rfl (do_pick_t rfl g3 rfl ?_)
        refine rw_t 84 rfl rfl rfl (do_move rfl ?_)
        refine rw_case 84 rfl (fun g4 => ?_) (fun g4 => ?_)
        · have kg4 := g4
          try simp only [bs] at kg4
          refine rw_gt 85 20 84 true rfl rfl rfl rfl rfl rfl g4 (do_fieldaddr rfl ?_)
          refine rw_gt 86 20 84 true rfl rfl rfl rfl rfl rfl g4 (do_load_box rfl rfl rfl ?_)
          refine rw_gt 87 20 84 true rfl rfl rfl rfl rfl rfl g4 (do_move rfl ?_)
          refine rw_gt 88 20 84 true rfl rfl rfl rfl rfl rfl g4 (do_add rfl rfl (by omega) ?_)
          refine rw_gt 89 20 84 true rfl rfl rfl rfl rfl rfl g4 (do_bin rfl rfl rfl ?_)
          refine rw_t 90 rfl rfl rfl (do_pick_t rfl g4 rfl ?_)
          refine rw_t 6 rfl rfl rfl (do_assign rfl ?_)
          refine rw_nil ?_
          refine ⟨rfl, ⟨_, rfl, by first | (simp; done) | (simp only [bs]; omega) | (simp [*]; done) | (simp; omega) | (constructor <;> intro h <;> simp_all <;> omega)⟩, ?_⟩
          repeat (refine ⟨⟨_, rfl, rfl⟩, ?_⟩)
          exact trivial
        · have kg4 := g4
          try simp only [bs] at kg4
          refine rw_gf 85 20 84 true rfl rfl rfl rfl rfl rfl (by rw [g4]; decide) ?_
          refine rw_gf 86 20 84 true rfl rfl rfl rfl rfl rfl (by rw [g4]; decide) ?_
          refine rw_gf 87 20 84 true rfl rfl rfl rfl rfl rfl (by rw [g4]; decide) ?_
          refine rw_gf 88 20 84 true rfl rfl rfl rfl rfl rfl (by rw [g4]; decide) ?_
          refine rw_gf 89 20 84 true rfl rfl rfl rfl rfl rfl (by rw [g4]; decide) ?_
          refine rw_t 90 rfl rfl rfl (do_pick_f rfl g4 rfl ?_)
          refine rw_t 6 rfl rfl rfl (do_assign rfl ?_)
          refine rw_nil ?_
          refine ⟨rfl, ⟨_, rfl, by first | (simp; done) | (simp only [bs]; omega) | (simp [*]; done) | (simp; omega) | (constructor <;> intro h <;> simp_all <;> omega)⟩, ?_⟩
          repeat (refine ⟨⟨_, rfl, rfl⟩, ?_⟩)
          exact trivial
      · have kg3 := g3
        try simp only [bs] at kg3
        refine rw_gf 75 10 74 true rfl rfl rfl rfl rfl rfl (by rw [g3]; decide) ?_
        refine rw_gf 76 10 74 true rfl rfl rfl rfl rfl rfl (by rw [g3]; decide) ?_
        refine rw_gf 77 10 74 true rfl rfl rfl rfl rfl rfl (by rw [g3]; decide) ?_
        refine rw_gf 78 10 74 true rfl rfl rfl rfl rfl rfl (by rw [g3]; decide) ?_
        refine rw_gf 79 10 74 true rfl rfl rfl rfl rfl rfl (by rw [g3]; decide) ?_
        refine rw_gf 80 10 74 true rfl rfl rfl rfl rfl rfl (by rw [g3]; decide) ?_
        refine rw_gf 81 10 74 true rfl rfl rfl rfl rfl rfl (by rw [g3]; decide) ?_
        refine rw_gf 82 10 74 true rfl rfl rfl rfl rfl rfl (by rw [g3]; decide) ?_
        refine rw_t 83 rfl rfl rfl (do_pick_f rfl g3 rfl ?_)
        refine rw_t 84 rfl rfl rfl (do_move rfl ?_)
        refine rw_gf 85 20 84 true rfl rfl rfl rfl rfl rfl (by decide) ?_
        refine rw_gf 86 20 84 true rfl rfl rfl rfl rfl rfl (by decide) ?_
        refine rw_gf 87 20 84 true rfl rfl rfl rfl rfl rfl (by decide) ?_
        refine rw_gf 88 20 84 true rfl rfl rfl rfl rfl rfl (by decide) ?_
        refine rw_gf 89 20 84 true rfl rfl rfl rfl rfl rfl (by decide) ?_
        refine rw_t 90 rfl rfl rfl (do_pick_f rfl rfl rfl ?_)
        refine rw_t 6 rfl rfl rfl (do_assign rfl ?_)
        refine rw_nil ?_
        refine ⟨rfl, ⟨_, rfl, by first | (simp; done) | (simp only [bs]; omega) | (simp [*]; done) | (simp; omega) | (constructor <;> intro h <;> simp_all <;> omega)⟩, ?_⟩
        repeat (refine ⟨⟨_, rfl, rfl⟩, ?_⟩)
        exact trivial
    · have kg2 := g2
      try simp only [bs] at kg2
      refine rw_gf 66 1 65 true rfl rfl rfl rfl rfl rfl (by rw [g2]; decide) ?_
      refine rw_gf 67 1 65 true rfl rfl rfl rfl rfl rfl (by rw [g2]; decide) ?_
      refine rw_gf 68 1 65 true rfl rfl rfl rfl rfl rfl (by rw [g2]; decide) ?_
      refine rw_gf 69 1 65 true rfl rfl rfl rfl rfl rfl (by rw [g2]; decide) ?_
      refine rw_gf 70 1 65 true rfl rfl rfl rfl rfl rfl (by rw [g2]; decide) ?_
      refine rw_gf 71 1 65 true rfl rfl rfl rfl rfl rfl (by rw [g2]; decide) ?_
      refine rw_gf 72 1 65 true rfl rfl rfl rfl rfl rfl (by rw [g2]; decide) ?_
      refine rw_t 73 rfl rfl rfl (do_pick_f rfl g2 rfl ?_)
      refine rw_t 74 rfl rfl rfl (do_move rfl ?_)
      refine rw_gf 75 10 74 true rfl rfl rfl rfl rfl rfl (by decide) ?_
      refine rw_gf 76 10 74 true rfl rfl rfl rfl rfl rfl (by decide) ?_
      refine rw_gf 77 10 74 true rfl rfl rfl rfl rfl rfl (by decide) ?_
      refine rw_gf 78 10 74 true rfl rfl rfl rfl rfl rfl (by decide) ?_
      refine rw_gf 79 10 74 true rfl rfl rfl rfl rfl rfl (by decide) ?_
      refine rw_gf 80 10 74 true rfl rfl rfl rfl rfl rfl (by decide) ?_
      refine rw_gf 81 10 74 true rfl rfl rfl rfl rfl rfl (by decide) ?_
      refine rw_gf 82 10 74 true rfl rfl rfl rfl rfl rfl (by decide) ?_
      refine rw_t 83 rfl rfl rfl (do_pick_f rfl rfl rfl ?_)
      refine rw_t 84 rfl rfl rfl (do_move rfl ?_)
      refine rw_gf 85 20 84 true rfl rfl rfl rfl rfl rfl (by decide) ?_
      refine rw_gf 86 20 84 true rfl rfl rfl rfl rfl rfl (by decide) ?_
      refine rw_gf 87 20 84 true rfl rfl rfl rfl rfl rfl (by decide) ?_
      refine rw_gf 88 20 84 true rfl rfl rfl rfl rfl rfl (by decide) ?_
      refine rw_gf 89 20 84 true rfl rfl rfl rfl rfl rfl (by decide) ?_
      refine rw_t 90 rfl rfl rfl (do_pick_f rfl rfl rfl ?_)
      refine rw_t 6 rfl rfl rfl (do_assign rfl ?_)
      refine rw_nil ?_
      refine ⟨rfl, ⟨_, rfl, by first | (simp; done) | (simp only [bs]; omega) | (simp [*]; done) | (simp; omega) | (constructor <;> intro h <;> simp_all <;> omega)⟩, ?_⟩
      repeat (refine ⟨⟨_, rfl, rfl⟩, ?_⟩)
      exact trivial
  intro b2 hb2
  refine w_ret ?_
  exact ret_eq (.inl rfl) (.cons (res_tmp rfl) .nil) [0, 1, 2, 3, 4, 5, 6, 7, 8] (Eq.symm (bool_congr (dec_of hb2 (by unfold strictP; rw [if_neg hc2]; exact ⟨fun q => ⟨⟨⟨q.2.1, q.2.2.1⟩, q.2.2.2.1⟩, q.2.2.2.2⟩, fun q => ⟨hc1, q.1.1.1, q.1.1.2, q.1.2, q.2⟩⟩)))) ⟨.inr ⟨_, rfl, .inl rfl⟩, .inr ⟨_, rfl, .inl rfl⟩, .inr ⟨_, rfl, .inl rfl⟩, .inr ⟨_, rfl, .inl rfl⟩, .inr ⟨_, rfl, .inl rfl⟩, .inr ⟨_, rfl, .inl rfl⟩, .inr ⟨_, rfl, .inl rfl⟩, .inr ⟨_, rfl, .inl rfl⟩, .inr ⟨_, rfl, .inl rfl⟩, trivial⟩ rfl (pre_ok rfl)
-- f60 "(acequia/relaxed.state).heights$1"
set_option maxHeartbeats 8000000 in
set_option synthInstance.maxHeartbeats 400000 in
set_option synthInstance.maxSize 2000 in
theorem t_hwrong (c : Csr) (p : Pre) (h : CsrOK c) (x : Int) : Tri Try.prog 60 [.val (.int .i64 x), .ptr 9 0 0] [SO.ints false .i64 c.First, SO.ints false .i64 c.Head, SO.ints false .i64 c.Rev, SO.ints false .i64 c.Cap, SO.ints false .i64 c.Arc, SO.bools false c.Back, SO.ints false .i64 p.Res, SO.ints false .i64 p.Ex, SO.ints false .i64 p.H, .box [.val (.int .i64 c.N), .val (.int .i64 c.S), .val (.int .i64 c.T), .slc 0 0 c.First.length none, .slc 1 0 c.Head.length none, .slc 2 0 c.Rev.length none, .slc 3 0 c.Cap.length none, .slc 4 0 c.Arc.length none, .slc 5 0 c.Back.length none, .slc 6 0 p.Res.length none, .slc 7 0 p.Ex.length none, .slc 8 0 p.H.length none]] (fun s H => s = .val (.bool (decide (x < 0 ∨ x > 2 * c.N))) ∧ H = [SO.ints false .i64 c.First, SO.ints false .i64 c.Head, SO.ints false .i64 c.Rev, SO.ints false .i64 c.Cap, SO.ints false .i64 c.Arc, SO.bools false c.Back, SO.ints false .i64 p.Res, SO.ints false .i64 p.Ex, SO.ints false .i64 p.H, .box [.val (.int .i64 c.N), .val (.int .i64 c.S), .val (.int .i64 c.T), .slc 0 0 c.First.length none, .slc 1 0 c.Head.length none, .slc 2 0 c.Rev.length none, .slc 3 0 c.Cap.length none, .slc 4 0 c.Arc.length none, .slc 5 0 c.Back.length none, .slc 6 0 p.Res.length none, .slc 7 0 p.Ex.length none, .slc 8 0 p.H.length none]]) := by
  refine tri_of_w (fn := Try.f60) Try.func60 rfl (by simp [Try.f60]) ?_
  intro ρ w hρ
  refine w_seq ?_
  have hn := h.n
  -- region 0
  refine w_region ?_
  refine rw_t 3 rfl rfl rfl (do_assign rfl ?_)
  refine rw_nil ?_
  refine w_env [(0, .val (.int .i64 x)), (1, .ptr 9 0 0)] ⟨⟨_, rfl, rfl⟩, ⟨_, rfl, rfl⟩, trivial⟩ ?_
  refine w_seqB 3 ((x < 0 ∨ x > (2 * c.N))) ?_ ?_
  · -- region 1
    refine w_region ?_
    refine rw_t 4 rfl rfl rfl (do_move rfl ?_)
    refine rw_t 5 rfl rfl rfl (do_bin rfl rfl rfl ?_)
    refine rw_t 6 rfl rfl rfl (do_move rfl ?_)
    refine rw_case 6 rfl (fun g1 => ?_) (fun g1 => ?_)
    · have kg1 := g1
      try simp only [bs] at kg1
      refine rw_gf 7 2 6 false rfl rfl rfl rfl rfl rfl (by rw [g1]; decide) ?_
      refine rw_gf 8 2 6 false rfl rfl rfl rfl rfl rfl (by rw [g1]; decide) ?_
      refine rw_gf 9 2 6 false rfl rfl rfl rfl rfl rfl (by rw [g1]; decide) ?_
      refine rw_gf 10 2 6 false rfl rfl rfl rfl rfl rfl (by rw [g1]; decide) ?_
      refine rw_gf 11 2 6 false rfl rfl rfl rfl rfl rfl (by rw [g1]; decide) ?_
      refine rw_gf 12 2 6 false rfl rfl rfl rfl rfl rfl (by rw [g1]; decide) ?_
      refine rw_t 13 rfl rfl rfl (do_pick_t rfl g1 rfl ?_)
      refine rw_t 3 rfl rfl rfl (do_assign rfl ?_)
      refine rw_nil ?_
      refine ⟨rfl, ⟨_, rfl, by first | (simp; done) | (simp only [bs]; omega) | (simp [*]; done) | (simp; omega) | (constructor <;> intro h <;> simp_all <;> omega)⟩, ?_⟩
      repeat (refine ⟨⟨_, rfl, rfl⟩, ?_⟩)
      exact trivial
    · have kg1 := g1
      try simp only [bs] at kg1
      refine rw_gt 7 2 6 false rfl rfl rfl rfl rfl rfl g1 (do_move rfl ?_)
      refine rw_gt 8 2 6 false rfl rfl rfl rfl rfl rfl g1 (do_fieldaddr rfl ?_)
      refine rw_gt 9 2 6 false rfl rfl rfl rfl rfl rfl g1 (do_fieldaddr rfl ?_)
      refine rw_gt 10 2 6 false rfl rfl rfl rfl rfl rfl g1 (do_load_box rfl rfl rfl ?_)
      refine rw_gt 11 2 6 false rfl rfl rfl rfl rfl rfl g1 (do_mul rfl rfl (by omega) ?_)
      refine rw_gt 12 2 6 false rfl rfl rfl rfl rfl rfl g1 (do_bin rfl rfl rfl ?_)
      refine rw_t 13 rfl rfl rfl (do_pick_f rfl g1 rfl ?_)
      refine rw_t 3 rfl rfl rfl (do_assign rfl ?_)
      refine rw_nil ?_
      refine ⟨rfl, ⟨_, rfl, by first | (simp; done) | (simp only [bs]; omega) | (simp [*]; done) | (simp; omega) | (constructor <;> intro h <;> simp_all <;> omega)⟩, ?_⟩
      repeat (refine ⟨⟨_, rfl, rfl⟩, ?_⟩)
      exact trivial
  intro b1 hb1
  refine w_ret ?_
  exact ret_eq (.inl rfl) (.cons (res_tmp rfl) .nil) [0, 1, 2, 3, 4, 5, 6, 7, 8, 9] (Eq.symm (bool_congr (dec_of hb1 Iff.rfl))) ⟨.inr ⟨_, rfl, .inl rfl⟩, .inr ⟨_, rfl, .inl rfl⟩, .inr ⟨_, rfl, .inl rfl⟩, .inr ⟨_, rfl, .inl rfl⟩, .inr ⟨_, rfl, .inl rfl⟩, .inr ⟨_, rfl, .inl rfl⟩, .inr ⟨_, rfl, .inl rfl⟩, .inr ⟨_, rfl, .inl rfl⟩, .inr ⟨_, rfl, .inl rfl⟩, .inr ⟨_, rfl, .inl rfl⟩, trivial⟩ rfl (pre_ok rfl)
-- f73 "slices.IndexFunc[[]int,int]"
set_option maxHeartbeats 8000000 in
set_option synthInstance.maxHeartbeats 400000 in
set_option synthInstance.maxSize 2000 in
theorem t_hIndex (c : Csr) (p : Pre) (h : CsrOK c) (hp : PreLen c p) : Tri Try.prog 73 [.slc 8 0 p.H.length none, .func 60 [] [.ptr 9 0 0]] [SO.ints false .i64 c.First, SO.ints false .i64 c.Head, SO.ints false .i64 c.Rev, SO.ints false .i64 c.Cap, SO.ints false .i64 c.Arc, SO.bools false c.Back, SO.ints false .i64 p.Res, SO.ints false .i64 p.Ex, SO.ints false .i64 p.H, .box [.val (.int .i64 c.N), .val (.int .i64 c.S), .val (.int .i64 c.T), .slc 0 0 c.First.length none, .slc 1 0 c.Head.length none, .slc 2 0 c.Rev.length none, .slc 3 0 c.Cap.length none, .slc 4 0 c.Arc.length none, .slc 5 0 c.Back.length none, .slc 6 0 p.Res.length none, .slc 7 0 p.Ex.length none, .slc 8 0 p.H.length none]] (fun s H => s = .val (.int .i64 (idxI (fun x => decide (x < 0 ∨ x > 2 * c.N)) p.H)) ∧ H = [SO.ints false .i64 c.First, SO.ints false .i64 c.Head, SO.ints false .i64 c.Rev, SO.ints false .i64 c.Cap, SO.ints false .i64 c.Arc, SO.bools false c.Back, SO.ints false .i64 p.Res, SO.ints false .i64 p.Ex, SO.ints false .i64 p.H, .box [.val (.int .i64 c.N), .val (.int .i64 c.S), .val (.int .i64 c.T), .slc 0 0 c.First.length none, .slc 1 0 c.Head.length none, .slc 2 0 c.Rev.length none, .slc 3 0 c.Cap.length none, .slc 4 0 c.Arc.length none, .slc 5 0 c.Back.length none, .slc 6 0 p.Res.length none, .slc 7 0 p.Ex.length none, .slc 8 0 p.H.length none]]) := by
  refine tri_of_w (fn := Try.f73) Try.func73 rfl (by simp [Try.f73]) ?_
  intro ρ w hρ
  refine w_seq ?_
  have hn := h.n
  have hh := hp.h
  -- region 0
  refine w_region ?_
  refine rw_t 4 rfl rfl rfl (do_assign rfl ?_)
  refine rw_nil ?_
  refine w_seq ?_
  refine w_seq ?_
  -- region 1
  refine w_region ?_
  refine rw_t 6 rfl rfl rfl (do_move rfl ?_)
  refine rw_t 7 rfl rfl rfl (do_len rfl ?_)
  refine rw_t 8 rfl rfl rfl (do_move rfl ?_)
  refine rw_nil ?_
  refine w_block ?_
  refine w_loopS (ι := Nat) (fun i => [(0, .slc 8 0 p.H.length none), (1, .func 60 [] [.ptr 9 0 0]), (7, .val (.int .i64 ((p.H.length : Nat) : Int))), (8, .val (.int .i64 ((i : Nat) : Int)))]) (fun i => [SO.ints false .i64 c.First, SO.ints false .i64 c.Head, SO.ints false .i64 c.Rev, SO.ints false .i64 c.Cap, SO.ints false .i64 c.Arc, SO.bools false c.Back, SO.ints false .i64 p.Res, SO.ints false .i64 p.Ex, SO.ints false .i64 p.H, .box [.val (.int .i64 c.N), .val (.int .i64 c.S), .val (.int .i64 c.T), .slc 0 0 c.First.length none, .slc 1 0 c.Head.length none, .slc 2 0 c.Rev.length none, .slc 3 0 c.Cap.length none, .slc 4 0 c.Arc.length none, .slc 5 0 c.Back.length none, .slc 6 0 p.Res.length none, .slc 7 0 p.Ex.length none, .slc 8 0 p.H.length none]]) (fun i => p.H.length - i) (fun i => i ≤ p.H.length ∧ ∀ k, k < i → ¬ (p.H.getD k 0 < 0 ∨ p.H.getD k 0 > 2 * c.N)) (0) [0, 1, 2, 3, 4, 5, 6, 7, 8, 9] (⟨by simp, fun k hk => by omega⟩) ⟨.inr ⟨_, rfl, .inl rfl⟩, .inr ⟨_, rfl, .inl rfl⟩, .inr ⟨_, rfl, .inl rfl⟩, .inr ⟨_, rfl, .inl rfl⟩, .inr ⟨_, rfl, .inl rfl⟩, .inr ⟨_, rfl, .inl rfl⟩, .inr ⟨_, rfl, .inl rfl⟩, .inr ⟨_, rfl, .inl rfl⟩, .inr ⟨_, rfl, .inl rfl⟩, .inr ⟨_, rfl, .inl rfl⟩, trivial⟩ rfl (pre_ok rfl) hρ ⟨⟨_, rfl, rfl⟩, ⟨_, rfl, rfl⟩, ⟨_, rfl, rfl⟩, ⟨_, rfl, rfl⟩, trivial⟩ ?_
  rintro i ⟨g1, g2⟩
  refine w_seq ?_
  -- region 2
  refine w_region ?_
  refine rw_t 9 rfl rfl rfl (do_bin rfl rfl rfl ?_)
  refine rw_nil ?_
  refine w_seq ?_
  refine w_cond rfl (fun hc1 => ?_) (fun hc1 => ?_)
  all_goals try simp only [bs] at hc1
  rotate_left
  · refine w_exit ?_ -- exit 0
    refine w_seq ?_
    -- region 7
    refine w_region ?_
    refine rw_t 4 rfl rfl rfl (do_assign rfl ?_)
    refine rw_nil ?_
    refine w_ret ?_
    exact ret_eq (.inl rfl) (.cons (res_tmp rfl) .nil) [0, 1, 2, 3, 4, 5, 6, 7, 8, 9] (Eq.symm (val_congr (by rw [idx_none (fun k hk => decide_eq_false (g2 k (by omega)))]))) ⟨.inr ⟨_, rfl, .inl rfl⟩, .inr ⟨_, rfl, .inl rfl⟩, .inr ⟨_, rfl, .inl rfl⟩, .inr ⟨_, rfl, .inl rfl⟩, .inr ⟨_, rfl, .inl rfl⟩, .inr ⟨_, rfl, .inl rfl⟩, .inr ⟨_, rfl, .inl rfl⟩, .inr ⟨_, rfl, .inl rfl⟩, .inr ⟨_, rfl, .inl rfl⟩, .inr ⟨_, rfl, .inl rfl⟩, trivial⟩ rfl (pre_ok rfl)
  refine w_skip ?_
  refine w_seq ?_
  refine w_block ?_
  refine w_seq ?_
  -- region 3
  refine w_region ?_
  refine rw_t 10 rfl rfl rfl (do_move rfl ?_)
  refine rw_t 5 rfl rfl rfl (do_assign rfl ?_)
  refine rw_nil ?_
  refine w_seq ?_
  -- region 4
  refine w_region ?_
  refine rw_t 11 rfl rfl rfl (do_move rfl ?_)
  refine rw_t 12 rfl rfl rfl (do_move rfl ?_)
  refine rw_t 13 rfl rfl rfl (do_move rfl ?_)
  refine rw_t 14 rfl rfl rfl (do_ixn rfl rfl rfl (by first | omega | (simp only [ls] <;> omega)) ?_)
  refine rw_t 15 rfl rfl rfl (do_load_arr rfl rfl (by first | omega | (simp only [ls] <;> omega)) rfl ?_)
  refine rw_t 16 rfl rfl rfl (n_callW (X' := .val (.bool (decide ((p.H.getD i 0) < 0 ∨ (p.H.getD i 0) > 2 * c.N)))) (H' := [SO.ints false .i64 c.First, SO.ints false .i64 c.Head, SO.ints false .i64 c.Rev, SO.ints false .i64 c.Cap, SO.ints false .i64 c.Arc, SO.bools false c.Back, SO.ints false .i64 p.Res, SO.ints false .i64 p.Ex, SO.ints false .i64 p.H, .box [.val (.int .i64 c.N), .val (.int .i64 c.S), .val (.int .i64 c.T), .slc 0 0 c.First.length none, .slc 1 0 c.Head.length none, .slc 2 0 c.Rev.length none, .slc 3 0 c.Cap.length none, .slc 4 0 c.Arc.length none, .slc 5 0 c.Back.length none, .slc 6 0 p.Res.length none, .slc 7 0 p.Ex.length none, .slc 8 0 p.H.length none]]) rfl rfl (t_hwrong (c := c) (p := p) (x := (p.H.getD i 0)) (h)) [0, 1, 2, 3, 4, 5, 6, 7, 8, 9] ⟨.inr ⟨_, rfl, srv⟩, .inr ⟨_, rfl, srv⟩, .inr ⟨_, rfl, srv⟩, .inr ⟨_, rfl, srv⟩, .inr ⟨_, rfl, srv⟩, .inr ⟨_, rfl, srv⟩, .inr ⟨_, rfl, srv⟩, .inr ⟨_, rfl, srv⟩, .inr ⟨_, rfl, srv⟩, .inr ⟨_, rfl, .inl rfl⟩, trivial⟩ rfl rfl ⟨fun h => (by cases h), ⟨fun h => (by cases h), ⟨fun h => (by cases h), ⟨fun h => (by cases h), ⟨fun h => (by cases h), ⟨fun h => (by cases h), ⟨fun h => (by cases h), ⟨fun h => (by cases h), ⟨fun h => (by cases h), ⟨fun h => .inl rfl, (fun y hy => by simp at hy)⟩⟩⟩⟩⟩⟩⟩⟩⟩⟩ rfl rfl ?_)
  refine rw_nil ?_
  refine w_cond rfl (fun hc2 => ?_) (fun hc2 => ?_)
  all_goals try simp only [bs] at hc2
  · refine w_seq ?_
    -- region 5
    refine w_region ?_
    refine rw_t 17 rfl rfl rfl (do_move rfl ?_)
    refine rw_t 4 rfl rfl rfl (do_assign rfl ?_)
    refine rw_nil ?_
    refine w_ret ?_
    exact ret_eq (.inl rfl) (.cons (res_tmp rfl) .nil) [0, 1, 2, 3, 4, 5, 6, 7, 8, 9] (Eq.symm (val_congr (by rw [idx_at (by omega) (decide_eq_true hc2) (fun k hk => decide_eq_false (g2 k hk))]))) ⟨.inr ⟨_, rfl, .inl rfl⟩, .inr ⟨_, rfl, .inl rfl⟩, .inr ⟨_, rfl, .inl rfl⟩, .inr ⟨_, rfl, .inl rfl⟩, .inr ⟨_, rfl, .inl rfl⟩, .inr ⟨_, rfl, .inl rfl⟩, .inr ⟨_, rfl, .inl rfl⟩, .inr ⟨_, rfl, .inl rfl⟩, .inr ⟨_, rfl, .inl rfl⟩, .inr ⟨_, rfl, .inl rfl⟩, trivial⟩ rfl (pre_ok rfl)
  refine w_skip ?_
  -- region 6
  refine w_region ?_
  refine rw_t 18 rfl rfl rfl (do_add rfl rfl (by omega) ?_)
  refine rw_t 8 rfl rfl rfl (do_move rfl ?_)
  refine rw_nil ?_
  refine ⟨i + 1, [0, 1, 2, 3, 4, 5, 6, 7, 8, 9], by dsimp only; omega, ⟨by omega, fun k hk => by rcases Nat.lt_or_ge k i with hki | hki; exact g2 k hki; have : k = i := (by omega); subst this; exact hc2⟩, ⟨.inr ⟨_, rfl, .inl rfl⟩, .inr ⟨_, rfl, .inl rfl⟩, .inr ⟨_, rfl, .inl rfl⟩, .inr ⟨_, rfl, .inl rfl⟩, .inr ⟨_, rfl, .inl rfl⟩, .inr ⟨_, rfl, .inl rfl⟩, .inr ⟨_, rfl, .inl rfl⟩, .inr ⟨_, rfl, .inl rfl⟩, .inr ⟨_, rfl, .inl rfl⟩, .inr ⟨_, rfl, .inl rfl⟩, trivial⟩, rfl, pre_ok rfl, ⟨⟨_, rfl, rfl⟩, ⟨_, rfl, rfl⟩, ⟨_, rfl, rfl⟩, ⟨_, rfl, rfl⟩, trivial⟩⟩
-- f61 "slices.ContainsFunc[[]int,int]"
set_option maxHeartbeats 8000000 in
set_option synthInstance.maxHeartbeats 400000 in
set_option synthInstance.maxSize 2000 in
theorem t_hContains (c : Csr) (p : Pre) (h : CsrOK c) (hp : PreLen c p) : Tri Try.prog 61 [.slc 8 0 p.H.length none, .func 60 [] [.ptr 9 0 0]] [SO.ints false .i64 c.First, SO.ints false .i64 c.Head, SO.ints false .i64 c.Rev, SO.ints false .i64 c.Cap, SO.ints false .i64 c.Arc, SO.bools false c.Back, SO.ints false .i64 p.Res, SO.ints false .i64 p.Ex, SO.ints false .i64 p.H, .box [.val (.int .i64 c.N), .val (.int .i64 c.S), .val (.int .i64 c.T), .slc 0 0 c.First.length none, .slc 1 0 c.Head.length none, .slc 2 0 c.Rev.length none, .slc 3 0 c.Cap.length none, .slc 4 0 c.Arc.length none, .slc 5 0 c.Back.length none, .slc 6 0 p.Res.length none, .slc 7 0 p.Ex.length none, .slc 8 0 p.H.length none]] (fun s H => s = .val (.bool (decide (idxI (fun x => decide (x < 0 ∨ x > 2 * c.N)) p.H ≥ 0))) ∧ H = [SO.ints false .i64 c.First, SO.ints false .i64 c.Head, SO.ints false .i64 c.Rev, SO.ints false .i64 c.Cap, SO.ints false .i64 c.Arc, SO.bools false c.Back, SO.ints false .i64 p.Res, SO.ints false .i64 p.Ex, SO.ints false .i64 p.H, .box [.val (.int .i64 c.N), .val (.int .i64 c.S), .val (.int .i64 c.T), .slc 0 0 c.First.length none, .slc 1 0 c.Head.length none, .slc 2 0 c.Rev.length none, .slc 3 0 c.Cap.length none, .slc 4 0 c.Arc.length none, .slc 5 0 c.Back.length none, .slc 6 0 p.Res.length none, .slc 7 0 p.Ex.length none, .slc 8 0 p.H.length none]]) := by
  refine tri_of_w (fn := Try.f61) Try.func61 rfl (by simp [Try.f61]) ?_
  intro ρ w hρ
  refine w_seq ?_
  -- region 0
  refine w_region ?_
  refine rw_t 4 rfl rfl rfl (do_assign rfl ?_)
  refine rw_nil ?_
  refine w_seq ?_
  -- region 1
  refine w_region ?_
  refine rw_t 5 rfl rfl rfl (do_move rfl ?_)
  refine rw_t 6 rfl rfl rfl (do_move rfl ?_)
  refine rw_t 7 rfl rfl rfl (n_callW (X' := .val (.int .i64 (idxI (fun x => decide (x < 0 ∨ x > 2 * c.N)) p.H))) (H' := [SO.ints false .i64 c.First, SO.ints false .i64 c.Head, SO.ints false .i64 c.Rev, SO.ints false .i64 c.Cap, SO.ints false .i64 c.Arc, SO.bools false c.Back, SO.ints false .i64 p.Res, SO.ints false .i64 p.Ex, SO.ints false .i64 p.H, .box [.val (.int .i64 c.N), .val (.int .i64 c.S), .val (.int .i64 c.T), .slc 0 0 c.First.length none, .slc 1 0 c.Head.length none, .slc 2 0 c.Rev.length none, .slc 3 0 c.Cap.length none, .slc 4 0 c.Arc.length none, .slc 5 0 c.Back.length none, .slc 6 0 p.Res.length none, .slc 7 0 p.Ex.length none, .slc 8 0 p.H.length none]]) rfl rfl (t_hIndex (c := c) (p := p) (h) (hp)) [0, 1, 2, 3, 4, 5, 6, 7, 8, 9] ⟨.inr ⟨_, rfl, srv⟩, .inr ⟨_, rfl, srv⟩, .inr ⟨_, rfl, srv⟩, .inr ⟨_, rfl, srv⟩, .inr ⟨_, rfl, srv⟩, .inr ⟨_, rfl, srv⟩, .inr ⟨_, rfl, srv⟩, .inr ⟨_, rfl, srv⟩, .inr ⟨_, rfl, srv⟩, .inr ⟨_, rfl, .inl rfl⟩, trivial⟩ rfl rfl ⟨fun h => (by cases h), ⟨fun h => (by cases h), ⟨fun h => (by cases h), ⟨fun h => (by cases h), ⟨fun h => (by cases h), ⟨fun h => (by cases h), ⟨fun h => (by cases h), ⟨fun h => (by cases h), ⟨fun h => (by cases h), ⟨fun h => .inl rfl, (fun y hy => by simp at hy)⟩⟩⟩⟩⟩⟩⟩⟩⟩⟩ rfl rfl ?_)
  refine rw_t 8 rfl rfl rfl (do_bin rfl rfl rfl ?_)
  refine rw_t 4 rfl rfl rfl (do_assign rfl ?_)
  refine rw_nil ?_
  refine w_ret ?_
  exact ret_eq (.inl rfl) (.cons (res_tmp rfl) .nil) [0, 1, 2, 3, 4, 5, 6, 7, 8, 9] (rfl) ⟨.inr ⟨_, rfl, .inl rfl⟩, .inr ⟨_, rfl, .inl rfl⟩, .inr ⟨_, rfl, .inl rfl⟩, .inr ⟨_, rfl, .inl rfl⟩, .inr ⟨_, rfl, .inl rfl⟩, .inr ⟨_, rfl, .inl rfl⟩, .inr ⟨_, rfl, .inl rfl⟩, .inr ⟨_, rfl, .inl rfl⟩, .inr ⟨_, rfl, .inl rfl⟩, .inr ⟨_, rfl, .inl rfl⟩, trivial⟩ rfl (pre_ok rfl)
-- f32 "(acequia/relaxed.state).heights"
set_option maxHeartbeats 8000000 in
set_option synthInstance.maxHeartbeats 400000 in
set_option synthInstance.maxSize 2000 in
theorem t_heights (c : Csr) (p : Pre) (h : CsrOK c) (hp : PreLen c p) : Tri Try.prog 32 [.agg [.val (.int .i64 c.N), .val (.int .i64 c.S), .val (.int .i64 c.T), .slc 0 0 c.First.length none, .slc 1 0 c.Head.length none, .slc 2 0 c.Rev.length none, .slc 3 0 c.Cap.length none, .slc 4 0 c.Arc.length none, .slc 5 0 c.Back.length none, .slc 6 0 p.Res.length none, .slc 7 0 p.Ex.length none, .slc 8 0 p.H.length none]] [SO.ints false .i64 c.First, SO.ints false .i64 c.Head, SO.ints false .i64 c.Rev, SO.ints false .i64 c.Cap, SO.ints false .i64 c.Arc, SO.bools false c.Back, SO.ints false .i64 p.Res, SO.ints false .i64 p.Ex, SO.ints false .i64 p.H] (fun s H => s = .val (.bool (decide (heightsP c p))) ∧ H = [SO.ints false .i64 c.First, SO.ints false .i64 c.Head, SO.ints false .i64 c.Rev, SO.ints false .i64 c.Cap, SO.ints false .i64 c.Arc, SO.bools false c.Back, SO.ints false .i64 p.Res, SO.ints false .i64 p.Ex, SO.ints false .i64 p.H]) := by
  refine tri_of_w (fn := Try.f32) Try.func32 rfl (by simp [Try.f32]) ?_
  intro ρ w hρ
  refine w_seq ?_
  have hn := h.n
  have hf := h.first
  have hhd := h.head
  have hrl := h.rev
  have hcl := h.cap
  have hal := h.arc
  have hbl := h.back
  have hr := hp.res
  have hx := hp.ex
  have hh := hp.h
  have hS := h.s
  have hT := h.t
  -- region 0
  refine w_region ?_
  refine rw_t 1 rfl rfl rfl (n_box_agg (n := 9) rfl rfl ?_)
  refine rw_t 2 rfl rfl rfl (do_assign rfl ?_)
  refine rw_nil ?_
  refine w_seq ?_
  -- region 1
  refine w_region ?_
  refine rw_t 4 rfl rfl rfl (do_makefunc rfl rfl ?_)
  refine rw_t 3 rfl rfl rfl (do_assign rfl ?_)
  refine rw_nil ?_
  refine w_env [(1, .ptr 9 0 0), (3, .func 60 [] [.ptr 9 0 0])] ⟨⟨_, rfl, rfl⟩, ⟨_, rfl, rfl⟩, trivial⟩ ?_
  refine w_seqB 2 (((¬ (idxI (fun x => decide (x < 0 ∨ x > 2 * c.N)) p.H ≥ 0) ∧ (p.H.getD c.S.toNat 0) = c.N) ∧ (p.H.getD c.T.toNat 0) = 0)) ?_ ?_
  · -- region 2
    refine w_draw mixed [0, 1, 3, 0, 15, 31, 63, 127, 255, 511, 127, 1151, 3199, 8191, 16383, 127, 32895, 98431, 262143, 524287, 1048575, 2097151, 4194303, 8388607, 2097151, 18874367, 52428799] [134217727, 268435455, 536870911, 1073741823, 2147483647] (by kernel_rfl) (by kernel_rfl) rfl rfl rfl (hle hρ rfl) ?_
    refine ra_q (j := 0) rfl rfl rfl rfl (do_fieldaddr rfl ⟨rfl, rfl⟩) (by rfl) ?_
    refine ra_q (j := 1) rfl rfl rfl rfl (do_fieldaddr rfl ⟨rfl, rfl⟩) (by rfl) ?_
    refine ra_q (j := 2) rfl rfl rfl rfl (do_load_box rfl rfl rfl ⟨rfl, rfl⟩) (by rfl) ?_
    refine ra_q (j := 3) rfl rfl rfl rfl (do_move rfl ⟨rfl, rfl⟩) (by rfl) ?_
    refine ra_q (j := 4) rfl rfl rfl rfl (n_callW (X' := .val (.bool (decide (idxI (fun x => decide (x < 0 ∨ x > 2 * c.N)) p.H ≥ 0)))) (H' := [SO.ints false .i64 c.First, SO.ints false .i64 c.Head, SO.ints false .i64 c.Rev, SO.ints false .i64 c.Cap, SO.ints false .i64 c.Arc, SO.bools false c.Back, SO.ints false .i64 p.Res, SO.ints false .i64 p.Ex, SO.ints false .i64 p.H, .box [.val (.int .i64 c.N), .val (.int .i64 c.S), .val (.int .i64 c.T), .slc 0 0 c.First.length none, .slc 1 0 c.Head.length none, .slc 2 0 c.Rev.length none, .slc 3 0 c.Cap.length none, .slc 4 0 c.Arc.length none, .slc 5 0 c.Back.length none, .slc 6 0 p.Res.length none, .slc 7 0 p.Ex.length none, .slc 8 0 p.H.length none]]) rfl rfl (t_hContains (c := c) (p := p) (h) (hp)) [0, 1, 2, 3, 4, 5, 6, 7, 8, 9] ⟨.inr ⟨_, rfl, srv⟩, .inr ⟨_, rfl, srv⟩, .inr ⟨_, rfl, srv⟩, .inr ⟨_, rfl, srv⟩, .inr ⟨_, rfl, srv⟩, .inr ⟨_, rfl, srv⟩, .inr ⟨_, rfl, srv⟩, .inr ⟨_, rfl, srv⟩, .inr ⟨_, rfl, srv⟩, .inr ⟨_, rfl, .inl rfl⟩, trivial⟩ rfl rfl ⟨fun h => (by cases h), ⟨fun h => (by cases h), ⟨fun h => (by cases h), ⟨fun h => (by cases h), ⟨fun h => (by cases h), ⟨fun h => (by cases h), ⟨fun h => (by cases h), ⟨fun h => (by cases h), ⟨fun h => (by cases h), ⟨fun h => .inl rfl, (fun y hy => by simp at hy)⟩⟩⟩⟩⟩⟩⟩⟩⟩⟩ rfl rfl ⟨rfl, rfl⟩) (by rfl) ?_
    refine ra_q (j := 5) rfl rfl rfl rfl (do_not rfl ⟨rfl, rfl⟩) (by rfl) ?_
    refine ra_q (j := 6) rfl rfl rfl rfl (do_move rfl ⟨rfl, rfl⟩) (by rfl) ?_
    refine ra_case 11 rfl (fun g1 => ?_) (fun g1 => ?_)
    · have kg1 := g1
      try simp only [bs] at kg1
      refine ra_gt (j := 7) rfl rfl rfl rfl g1 rfl rfl rfl (do_fieldaddr rfl ⟨rfl, rfl⟩) (by rfl) ?_
      refine ra_gt (j := 8) rfl rfl rfl rfl g1 rfl rfl rfl (do_fieldaddr rfl ⟨rfl, rfl⟩) (by rfl) ?_
      refine ra_gt (j := 9) rfl rfl rfl rfl g1 rfl rfl rfl (do_load_box rfl rfl rfl ⟨rfl, rfl⟩) (by rfl) ?_
      refine ra_gt (j := 10) rfl rfl rfl rfl g1 rfl rfl rfl (do_fieldaddr rfl ⟨rfl, rfl⟩) (by rfl) ?_
      refine ra_gt (j := 11) rfl rfl rfl rfl g1 rfl rfl rfl (do_fieldaddr rfl ⟨rfl, rfl⟩) (by rfl) ?_
      refine ra_gt (j := 12) rfl rfl rfl rfl g1 rfl rfl rfl (do_load_box rfl rfl rfl ⟨rfl, rfl⟩) (by rfl) ?_
      refine ra_gt (j := 13) rfl rfl rfl rfl g1 rfl rfl rfl (do_ix0 rfl rfl rfl (by first | omega | (simp only [ls] <;> omega)) ⟨rfl, rfl⟩) (by rfl) ?_
      refine ra_gt (j := 14) rfl rfl rfl rfl g1 rfl rfl rfl (do_load_arr rfl rfl (by first | omega | (simp only [ls] <;> omega)) rfl ⟨rfl, rfl⟩) (by rfl) ?_
      refine ra_gt (j := 15) rfl rfl rfl rfl g1 rfl rfl rfl (do_fieldaddr rfl ⟨rfl, rfl⟩) (by rfl) ?_
      refine ra_gt (j := 16) rfl rfl rfl rfl g1 rfl rfl rfl (do_fieldaddr rfl ⟨rfl, rfl⟩) (by rfl) ?_
      refine ra_gt (j := 17) rfl rfl rfl rfl g1 rfl rfl rfl (do_load_box rfl rfl rfl ⟨rfl, rfl⟩) (by rfl) ?_
      refine ra_gt (j := 18) rfl rfl rfl rfl g1 rfl rfl rfl (do_bin rfl rfl rfl ⟨rfl, rfl⟩) (by rfl) ?_
      refine ra_q (j := 19) rfl rfl rfl rfl (do_pick_t rfl g1 rfl ⟨rfl, rfl⟩) (by rfl) ?_
      refine ra_q (j := 20) rfl rfl rfl rfl (do_move rfl ⟨rfl, rfl⟩) (by rfl) ?_
      refine ra_case 25 rfl (fun g2 => ?_) (fun g2 => ?_)
      · have kg2 := g2
        try simp only [bs] at kg2
        refine ra_gt (j := 21) rfl rfl rfl rfl g2 rfl rfl rfl (do_fieldaddr rfl ⟨rfl, rfl⟩) (by rfl) ?_
        refine ra_gt (j := 22) rfl rfl rfl rfl g2 rfl rfl rfl (do_fieldaddr rfl ⟨rfl, rfl⟩) (by rfl) ?_
        refine ra_gt (j := 23) rfl rfl rfl rfl g2 rfl rfl rfl (do_load_box rfl rfl rfl ⟨rfl, rfl⟩) (by rfl) ?_
        refine ra_gt (j := 24) rfl rfl rfl rfl g2 rfl rfl rfl (do_fieldaddr rfl ⟨rfl, rfl⟩) (by rfl) ?_
        refine ra_gt (j := 25) rfl rfl rfl rfl g2 rfl rfl rfl (do_fieldaddr rfl ⟨rfl, rfl⟩) (by rfl) ?_
        refine ra_gt (j := 26) rfl rfl rfl rfl g2 rfl rfl rfl (do_load_box rfl rfl rfl ⟨rfl, rfl⟩) (by rfl) ?_
        refine n_done ?_
        refine rw_gt 32 20 25 true rfl rfl rfl rfl rfl rfl g2 (do_ix0 rfl rfl rfl (by first | omega | (simp only [ls] <;> omega)) ?_)
        refine rw_gt 33 20 25 true rfl rfl rfl rfl rfl rfl g2 (do_load_arr rfl rfl (by first | omega | (simp only [ls] <;> omega)) rfl ?_)
        refine rw_gt 34 20 25 true rfl rfl rfl rfl rfl rfl g2 (do_bin rfl rfl rfl ?_)
        refine rw_t 35 rfl rfl rfl (do_pick_t rfl g2 rfl ?_)
        refine rw_t 2 rfl rfl rfl (do_assign rfl ?_)
        refine rw_nil ?_
        refine ⟨rfl, ⟨_, rfl, by first | (simp; done) | (simp only [bs]; omega) | (simp [*]; done) | (simp; omega) | (constructor <;> intro h <;> simp_all <;> omega)⟩, ?_⟩
        repeat (refine ⟨⟨_, rfl, rfl⟩, ?_⟩)
        exact trivial
      · have kg2 := g2
        try simp only [bs] at kg2
        refine ra_gf (j := 21) rfl rfl rfl rfl (by rw [g2]; decide) rfl rfl rfl ?_
        refine ra_gf (j := 22) rfl rfl rfl rfl (by rw [g2]; decide) rfl rfl rfl ?_
        refine ra_gf (j := 23) rfl rfl rfl rfl (by rw [g2]; decide) rfl rfl rfl ?_
        refine ra_gf (j := 24) rfl rfl rfl rfl (by rw [g2]; decide) rfl rfl rfl ?_
        refine ra_gf (j := 25) rfl rfl rfl rfl (by rw [g2]; decide) rfl rfl rfl ?_
        refine ra_gf (j := 26) rfl rfl rfl rfl (by rw [g2]; decide) rfl rfl rfl ?_
        refine n_done ?_
        refine rw_gf 32 20 25 true rfl rfl rfl rfl rfl rfl (by rw [g2]; decide) ?_
        refine rw_gf 33 20 25 true rfl rfl rfl rfl rfl rfl (by rw [g2]; decide) ?_
        refine rw_gf 34 20 25 true rfl rfl rfl rfl rfl rfl (by rw [g2]; decide) ?_
        refine rw_t 35 rfl rfl rfl (do_pick_f rfl g2 rfl ?_)
        refine rw_t 2 rfl rfl rfl (do_assign rfl ?_)
        refine rw_nil ?_
        refine ⟨rfl, ⟨_, rfl, by first | (simp; done) | (simp only [bs]; omega) | (simp [*]; done) | (simp; omega) | (constructor <;> intro h <;> simp_all <;> omega)⟩, ?_⟩
        repeat (refine ⟨⟨_, rfl, rfl⟩, ?_⟩)
        exact trivial
    · have kg1 := g1
      try simp only [bs] at kg1
      refine ra_gf (j := 7) rfl rfl rfl rfl (by rw [g1]; decide) rfl rfl rfl ?_
      refine ra_gf (j := 8) rfl rfl rfl rfl (by rw [g1]; decide) rfl rfl rfl ?_
      refine ra_gf (j := 9) rfl rfl rfl rfl (by rw [g1]; decide) rfl rfl rfl ?_
      refine ra_gf (j := 10) rfl rfl rfl rfl (by rw [g1]; decide) rfl rfl rfl ?_
      refine ra_gf (j := 11) rfl rfl rfl rfl (by rw [g1]; decide) rfl rfl rfl ?_
      refine ra_gf (j := 12) rfl rfl rfl rfl (by rw [g1]; decide) rfl rfl rfl ?_
      refine ra_gf (j := 13) rfl rfl rfl rfl (by rw [g1]; decide) rfl rfl rfl ?_
      refine ra_gf (j := 14) rfl rfl rfl rfl (by rw [g1]; decide) rfl rfl rfl ?_
      refine ra_gf (j := 15) rfl rfl rfl rfl (by rw [g1]; decide) rfl rfl rfl ?_
      refine ra_gf (j := 16) rfl rfl rfl rfl (by rw [g1]; decide) rfl rfl rfl ?_
      refine ra_gf (j := 17) rfl rfl rfl rfl (by rw [g1]; decide) rfl rfl rfl ?_
      refine ra_gf (j := 18) rfl rfl rfl rfl (by rw [g1]; decide) rfl rfl rfl ?_
      refine ra_q (j := 19) rfl rfl rfl rfl (do_pick_f rfl g1 rfl ⟨rfl, rfl⟩) (by rfl) ?_
      refine ra_q (j := 20) rfl rfl rfl rfl (do_move rfl ⟨rfl, rfl⟩) (by rfl) ?_
      refine ra_gf (j := 21) rfl rfl rfl rfl (by decide) rfl rfl rfl ?_
      refine ra_gf (j := 22) rfl rfl rfl rfl (by decide) rfl rfl rfl ?_
      refine ra_gf (j := 23) rfl rfl rfl rfl (by decide) rfl rfl rfl ?_
      refine ra_gf (j := 24) rfl rfl rfl rfl (by decide) rfl rfl rfl ?_
      refine ra_gf (j := 25) rfl rfl rfl rfl (by decide) rfl rfl rfl ?_
      refine ra_gf (j := 26) rfl rfl rfl rfl (by decide) rfl rfl rfl ?_
      refine n_done ?_
      refine rw_gf 32 20 25 true rfl rfl rfl rfl rfl rfl (by decide) ?_
      refine rw_gf 33 20 25 true rfl rfl rfl rfl rfl rfl (by decide) ?_
      refine rw_gf 34 20 25 true rfl rfl rfl rfl rfl rfl (by decide) ?_
      refine rw_t 35 rfl rfl rfl (do_pick_f rfl rfl rfl ?_)
      refine rw_t 2 rfl rfl rfl (do_assign rfl ?_)
      refine rw_nil ?_
      refine ⟨rfl, ⟨_, rfl, by first | (simp; done) | (simp only [bs]; omega) | (simp [*]; done) | (simp; omega) | (constructor <;> intro h <;> simp_all <;> omega)⟩, ?_⟩
      repeat (refine ⟨⟨_, rfl, rfl⟩, ?_⟩)
      exact trivial
  intro b1 hb1
  refine w_ret ?_
  exact ret_eq (.inl rfl) (.cons (res_tmp rfl) .nil) [0, 1, 2, 3, 4, 5, 6, 7, 8] (Eq.symm (bool_congr (dec_of hb1 (by unfold heightsP; rw [idx_high h hp, and_assoc])))) ⟨.inr ⟨_, rfl, .inl rfl⟩, .inr ⟨_, rfl, .inl rfl⟩, .inr ⟨_, rfl, .inl rfl⟩, .inr ⟨_, rfl, .inl rfl⟩, .inr ⟨_, rfl, .inl rfl⟩, .inr ⟨_, rfl, .inl rfl⟩, .inr ⟨_, rfl, .inl rfl⟩, .inr ⟨_, rfl, .inl rfl⟩, .inr ⟨_, rfl, .inl rfl⟩, trivial⟩ rfl (pre_ok rfl)
-- f33 "(acequia/relaxed.state).pairs"
set_option maxHeartbeats 8000000 in
set_option synthInstance.maxHeartbeats 400000 in
set_option synthInstance.maxSize 2000 in
theorem t_pairs (c : Csr) (p : Pre) (h : CsrOK c) (hp : PreLen c p) : Tri Try.prog 33 [.agg [.val (.int .i64 c.N), .val (.int .i64 c.S), .val (.int .i64 c.T), .slc 0 0 c.First.length none, .slc 1 0 c.Head.length none, .slc 2 0 c.Rev.length none, .slc 3 0 c.Cap.length none, .slc 4 0 c.Arc.length none, .slc 5 0 c.Back.length none, .slc 6 0 p.Res.length none, .slc 7 0 p.Ex.length none, .slc 8 0 p.H.length none]] [SO.ints false .i64 c.First, SO.ints false .i64 c.Head, SO.ints false .i64 c.Rev, SO.ints false .i64 c.Cap, SO.ints false .i64 c.Arc, SO.bools false c.Back, SO.ints false .i64 p.Res, SO.ints false .i64 p.Ex, SO.ints false .i64 p.H] (fun s H => s = .val (.bool (decide (pairsP c p.Res))) ∧ H = [SO.ints false .i64 c.First, SO.ints false .i64 c.Head, SO.ints false .i64 c.Rev, SO.ints false .i64 c.Cap, SO.ints false .i64 c.Arc, SO.bools false c.Back, SO.ints false .i64 p.Res, SO.ints false .i64 p.Ex, SO.ints false .i64 p.H]) := by
  refine tri_of_w (fn := Try.f33) Try.func33 rfl (by simp [Try.f33]) ?_
  intro ρ w hρ
  refine w_seq ?_
  have hn := h.n
  have hf := h.first
  have hhd := h.head
  have hrl := h.rev
  have hcl := h.cap
  have hal := h.arc
  have hbl := h.back
  have hr := hp.res
  have hx := hp.ex
  have hh := hp.h
  -- region 0
  refine w_region ?_
  refine rw_t 1 rfl rfl rfl (n_box_agg (n := 9) rfl rfl ?_)
  refine rw_t 2 rfl rfl rfl (do_assign rfl ?_)
  refine rw_nil ?_
  refine w_seq ?_
  refine w_seq ?_
  -- region 1
  refine w_region ?_
  refine rw_t 7 rfl rfl rfl (do_fieldaddr rfl ?_)
  refine rw_t 8 rfl rfl rfl (do_fieldaddr rfl ?_)
  refine rw_t 9 rfl rfl rfl (do_load_box rfl rfl rfl ?_)
  refine rw_t 10 rfl rfl rfl (do_len rfl ?_)
  refine rw_t 11 rfl rfl rfl (do_move rfl ?_)
  refine rw_nil ?_
  refine w_block ?_
  refine w_loopS (ι := Nat) (fun i => [(1, .ptr 9 0 0), (9, .slc 6 0 p.Res.length none), (10, .val (.int .i64 ((p.Res.length : Nat) : Int))), (11, .val (.int .i64 ((i : Nat) : Int)))]) (fun i => [SO.ints false .i64 c.First, SO.ints false .i64 c.Head, SO.ints false .i64 c.Rev, SO.ints false .i64 c.Cap, SO.ints false .i64 c.Arc, SO.bools false c.Back, SO.ints false .i64 p.Res, SO.ints false .i64 p.Ex, SO.ints false .i64 p.H, .box [.val (.int .i64 c.N), .val (.int .i64 c.S), .val (.int .i64 c.T), .slc 0 0 c.First.length none, .slc 1 0 c.Head.length none, .slc 2 0 c.Rev.length none, .slc 3 0 c.Cap.length none, .slc 4 0 c.Arc.length none, .slc 5 0 c.Back.length none, .slc 6 0 p.Res.length none, .slc 7 0 p.Ex.length none, .slc 8 0 p.H.length none]]) (fun i => p.Res.length - i) (fun i => i ≤ p.Res.length ∧ ∀ a : Nat, a < i → 0 ≤ p.Res.getD a 0 ∧ p.Res.getD a 0 ≤ mostOf c a ∧ p.Res.getD (c.Rev.getD a 0).toNat 0 = mostOf c a - p.Res.getD a 0) (0) [0, 1, 2, 3, 4, 5, 6, 7, 8, 9] (⟨by simp, fun a ha => by omega⟩) ⟨.inr ⟨_, rfl, .inl rfl⟩, .inr ⟨_, rfl, .inl rfl⟩, .inr ⟨_, rfl, .inl rfl⟩, .inr ⟨_, rfl, .inl rfl⟩, .inr ⟨_, rfl, .inl rfl⟩, .inr ⟨_, rfl, .inl rfl⟩, .inr ⟨_, rfl, .inl rfl⟩, .inr ⟨_, rfl, .inl rfl⟩, .inr ⟨_, rfl, .inl rfl⟩, .inr ⟨_, rfl, .inl rfl⟩, trivial⟩ rfl (pre_ok rfl) hρ ⟨⟨_, rfl, rfl⟩, ⟨_, rfl, rfl⟩, ⟨_, rfl, rfl⟩, ⟨_, rfl, rfl⟩, trivial⟩ ?_
  rintro i ⟨g1, g2⟩
  refine w_seq ?_
  -- region 2
  refine w_region ?_
  refine rw_t 12 rfl rfl rfl (do_bin rfl rfl rfl ?_)
  refine rw_nil ?_
  refine w_seq ?_
  refine w_cond rfl (fun hc1 => ?_) (fun hc1 => ?_)
  all_goals try simp only [bs] at hc1
  rotate_left
  · refine w_exit ?_ -- exit 0
    refine w_seq ?_
    -- region 9
    refine w_region ?_
    refine rw_t 2 rfl rfl rfl (do_assign rfl ?_)
    refine rw_nil ?_
    refine w_ret ?_
    exact ret_eq (.inl rfl) (.cons (res_tmp rfl) .nil) [0, 1, 2, 3, 4, 5, 6, 7, 8] (Eq.symm (bool_congr (decide_eq_true (fun a ha => g2 a (by omega))))) ⟨.inr ⟨_, rfl, .inl rfl⟩, .inr ⟨_, rfl, .inl rfl⟩, .inr ⟨_, rfl, .inl rfl⟩, .inr ⟨_, rfl, .inl rfl⟩, .inr ⟨_, rfl, .inl rfl⟩, .inr ⟨_, rfl, .inl rfl⟩, .inr ⟨_, rfl, .inl rfl⟩, .inr ⟨_, rfl, .inl rfl⟩, .inr ⟨_, rfl, .inl rfl⟩, trivial⟩ rfl (pre_ok rfl)
  refine w_skip ?_
  refine w_seq ?_
  refine w_block ?_
  refine w_seq ?_
  -- region 3
  refine w_region ?_
  refine rw_t 13 rfl rfl rfl (do_move rfl ?_)
  refine rw_t 14 rfl rfl rfl (do_ixn rfl rfl rfl (by first | omega | (simp only [ls] <;> omega)) ?_)
  refine rw_t 15 rfl rfl rfl (do_load_arr rfl rfl (by first | omega | (simp only [ls] <;> omega)) rfl ?_)
  refine rw_t 3 rfl rfl rfl (do_assign rfl ?_)
  refine rw_t 4 rfl rfl rfl (do_assign rfl ?_)
  refine rw_nil ?_
  refine w_seq ?_
  have hv := h.rv i (by omega)
  have hcp := h.cp i (by omega)
  unfold mostOf at hcp
  -- region 4
  refine w_region ?_
  refine rw_t 16 rfl rfl rfl (do_fieldaddr rfl ?_)
  refine rw_t 17 rfl rfl rfl (do_fieldaddr rfl ?_)
  refine rw_t 18 rfl rfl rfl (do_load_box rfl rfl rfl ?_)
  refine rw_t 19 rfl rfl rfl (do_move rfl ?_)
  refine rw_t 20 rfl rfl rfl (do_ixn rfl rfl rfl (by first | omega | (simp only [ls] <;> omega)) ?_)
  refine rw_t 21 rfl rfl rfl (do_load_arr rfl rfl (by first | omega | (simp only [ls] <;> omega)) rfl ?_)
  refine rw_t 5 rfl rfl rfl (do_assign rfl ?_)
  refine rw_nil ?_
  refine w_seq ?_
  -- region 5
  refine w_draw mixed [0, 1, 3, 0, 15, 31, 0, 64, 192, 0, 960, 1984] [4095, 8191] (by kernel_rfl) (by kernel_rfl) rfl rfl rfl (hle hρ rfl) ?_
  refine ra_q (j := 0) rfl rfl rfl rfl (do_fieldaddr rfl ⟨rfl, rfl⟩) (by rfl) ?_
  refine ra_q (j := 1) rfl rfl rfl rfl (do_fieldaddr rfl ⟨rfl, rfl⟩) (by rfl) ?_
  refine ra_q (j := 2) rfl rfl rfl rfl (do_load_box rfl rfl rfl ⟨rfl, rfl⟩) (by rfl) ?_
  refine ra_q (j := 3) rfl rfl rfl rfl (do_move rfl ⟨rfl, rfl⟩) (by rfl) ?_
  refine ra_q (j := 4) rfl rfl rfl rfl (do_ixn rfl rfl rfl (by first | omega | (simp only [ls] <;> omega)) ⟨rfl, rfl⟩) (by rfl) ?_
  refine ra_q (j := 5) rfl rfl rfl rfl (do_load_arr rfl rfl (by first | omega | (simp only [ls] <;> omega)) rfl ⟨rfl, rfl⟩) (by rfl) ?_
  refine ra_q (j := 6) rfl rfl rfl rfl (do_fieldaddr rfl ⟨rfl, rfl⟩) (by rfl) ?_
  refine ra_q (j := 7) rfl rfl rfl rfl (do_fieldaddr rfl ⟨rfl, rfl⟩) (by rfl) ?_
  refine ra_q (j := 8) rfl rfl rfl rfl (do_load_box rfl rfl rfl ⟨rfl, rfl⟩) (by rfl) ?_
  refine ra_q (j := 9) rfl rfl rfl rfl (do_move rfl ⟨rfl, rfl⟩) (by rfl) ?_
  refine ra_q (j := 10) rfl rfl rfl rfl (do_ix0 rfl rfl rfl (by first | omega | (simp only [ls] <;> omega)) ⟨rfl, rfl⟩) (by rfl) ?_
  refine ra_q (j := 11) rfl rfl rfl rfl (do_load_arr rfl rfl (by first | omega | (simp only [ls] <;> omega)) rfl ⟨rfl, rfl⟩) (by rfl) ?_
  refine n_done ?_
  refine rw_t 34 rfl rfl rfl (do_add rfl rfl (by omega) ?_)
  refine rw_t 6 rfl rfl rfl (do_assign rfl ?_)
  refine rw_nil ?_
  refine w_seqB 53 ((((p.Res.getD i 0) < 0 ∨ (p.Res.getD i 0) > ((c.Cap.getD i 0) + (c.Cap.getD ((c.Rev.getD i 0).toNat) 0))) ∨ (p.Res.getD ((c.Rev.getD i 0).toNat) 0) ≠ (((c.Cap.getD i 0) + (c.Cap.getD ((c.Rev.getD i 0).toNat) 0)) - (p.Res.getD i 0)))) ?_ ?_
  · -- region 6
    refine w_region ?_
    refine rw_t 35 rfl rfl rfl (do_move rfl ?_)
    refine rw_t 36 rfl rfl rfl (do_bin rfl rfl rfl ?_)
    refine rw_t 37 rfl rfl rfl (do_move rfl ?_)
    refine rw_case 37 rfl (fun g1 => ?_) (fun g1 => ?_)
    · have kg1 := g1
      try simp only [bs] at kg1
      refine rw_gf 38 2 37 false rfl rfl rfl rfl rfl rfl (by rw [g1]; decide) ?_
      refine rw_gf 39 2 37 false rfl rfl rfl rfl rfl rfl (by rw [g1]; decide) ?_
      refine rw_gf 40 2 37 false rfl rfl rfl rfl rfl rfl (by rw [g1]; decide) ?_
      refine rw_t 41 rfl rfl rfl (do_pick_t rfl g1 rfl ?_)
      refine rw_t 42 rfl rfl rfl (do_move rfl ?_)
      refine rw_gf 43 7 42 false rfl rfl rfl rfl rfl rfl (by decide) ?_
      refine rw_gf 44 7 42 false rfl rfl rfl rfl rfl rfl (by decide) ?_
      refine rw_gf 45 7 42 false rfl rfl rfl rfl rfl rfl (by decide) ?_
      refine rw_gf 46 7 42 false rfl rfl rfl rfl rfl rfl (by decide) ?_
      refine rw_gf 47 7 42 false rfl rfl rfl rfl rfl rfl (by decide) ?_
      refine rw_gf 48 7 42 false rfl rfl rfl rfl rfl rfl (by decide) ?_
      refine rw_gf 49 7 42 false rfl rfl rfl rfl rfl rfl (by decide) ?_
      refine rw_gf 50 7 42 false rfl rfl rfl rfl rfl rfl (by decide) ?_
      refine rw_gf 51 7 42 false rfl rfl rfl rfl rfl rfl (by decide) ?_
      refine rw_gf 52 7 42 false rfl rfl rfl rfl rfl rfl (by decide) ?_
      refine rw_t 53 rfl rfl rfl (do_pick_t rfl rfl rfl ?_)
      refine rw_nil ?_
      refine ⟨rfl, ⟨_, rfl, by first | (simp; done) | (simp only [bs]; omega) | (simp [*]; done) | (simp; omega) | (constructor <;> intro h <;> simp_all <;> omega)⟩, ?_⟩
      repeat (refine ⟨⟨_, rfl, rfl⟩, ?_⟩)
      exact trivial
    · have kg1 := g1
      try simp only [bs] at kg1
      refine rw_gt 38 2 37 false rfl rfl rfl rfl rfl rfl g1 (do_move rfl ?_)
      refine rw_gt 39 2 37 false rfl rfl rfl rfl rfl rfl g1 (do_move rfl ?_)
      refine rw_gt 40 2 37 false rfl rfl rfl rfl rfl rfl g1 (do_bin rfl rfl rfl ?_)
      refine rw_t 41 rfl rfl rfl (do_pick_f rfl g1 rfl ?_)
      refine rw_t 42 rfl rfl rfl (do_move rfl ?_)
      refine rw_case 42 rfl (fun g2 => ?_) (fun g2 => ?_)
      · have kg2 := g2
        try simp only [bs] at kg2
        refine rw_gf 43 7 42 false rfl rfl rfl rfl rfl rfl (by rw [g2]; decide) ?_
        refine rw_gf 44 7 42 false rfl rfl rfl rfl rfl rfl (by rw [g2]; decide) ?_
        refine rw_gf 45 7 42 false rfl rfl rfl rfl rfl rfl (by rw [g2]; decide) ?_
        refine rw_gf 46 7 42 false rfl rfl rfl rfl rfl rfl (by rw [g2]; decide) ?_
        refine rw_gf 47 7 42 false rfl rfl rfl rfl rfl rfl (by rw [g2]; decide) ?_
        refine rw_gf 48 7 42 false rfl rfl rfl rfl rfl rfl (by rw [g2]; decide) ?_
        refine rw_gf 49 7 42 false rfl rfl rfl rfl rfl rfl (by rw [g2]; decide) ?_
        refine rw_gf 50 7 42 false rfl rfl rfl rfl rfl rfl (by rw [g2]; decide) ?_
        refine rw_gf 51 7 42 false rfl rfl rfl rfl rfl rfl (by rw [g2]; decide) ?_
        refine rw_gf 52 7 42 false rfl rfl rfl rfl rfl rfl (by rw [g2]; decide) ?_
        refine rw_t 53 rfl rfl rfl (do_pick_t rfl g2 rfl ?_)
        refine rw_nil ?_
        refine ⟨rfl, ⟨_, rfl, by first | (simp; done) | (simp only [bs]; omega) | (simp [*]; done) | (simp; omega) | (constructor <;> intro h <;> simp_all <;> omega)⟩, ?_⟩
        repeat (refine ⟨⟨_, rfl, rfl⟩, ?_⟩)
        exact trivial
      · have kg2 := g2
        try simp only [bs] at kg2
        refine rw_gt 43 7 42 false rfl rfl rfl rfl rfl rfl g2 (do_fieldaddr rfl ?_)
        refine rw_gt 44 7 42 false rfl rfl rfl rfl rfl rfl g2 (do_fieldaddr rfl ?_)
        refine rw_gt 45 7 42 false rfl rfl rfl rfl rfl rfl g2 (do_load_box rfl rfl rfl ?_)
        refine rw_gt 46 7 42 false rfl rfl rfl rfl rfl rfl g2 (do_move rfl ?_)
        refine rw_gt 47 7 42 false rfl rfl rfl rfl rfl rfl g2 (do_ix0 rfl rfl rfl (by first | omega | (simp only [ls] <;> omega)) ?_)
        refine rw_gt 48 7 42 false rfl rfl rfl rfl rfl rfl g2 (do_load_arr rfl rfl (by first | omega | (simp only [ls] <;> omega)) rfl ?_)
        refine rw_gt 49 7 42 false rfl rfl rfl rfl rfl rfl g2 (do_move rfl ?_)
        refine rw_gt 50 7 42 false rfl rfl rfl rfl rfl rfl g2 (do_move rfl ?_)
        refine rw_gt 51 7 42 false rfl rfl rfl rfl rfl rfl g2 (do_sub rfl rfl (by omega) ?_)
        refine rw_gt 52 7 42 false rfl rfl rfl rfl rfl rfl g2 (do_bin rfl rfl rfl ?_)
        refine rw_t 53 rfl rfl rfl (do_pick_f rfl g2 rfl ?_)
        refine rw_nil ?_
        refine ⟨rfl, ⟨_, rfl, by first | (simp; done) | (simp only [bs]; omega) | (simp [*]; done) | (simp; omega) | (constructor <;> intro h <;> simp_all <;> omega)⟩, ?_⟩
        repeat (refine ⟨⟨_, rfl, rfl⟩, ?_⟩)
        exact trivial
  intro b1 hb1
  refine w_condP hb1 rfl (fun hc2 => ?_) (fun hc2 => ?_)
  · refine w_seq ?_
    -- region 7
    refine w_region ?_
    refine rw_t 2 rfl rfl rfl (do_assign rfl ?_)
    refine rw_nil ?_
    refine w_ret ?_
    exact ret_eq (.inl rfl) (.cons (res_tmp rfl) .nil) [0, 1, 2, 3, 4, 5, 6, 7, 8] (Eq.symm (bool_congr (decide_eq_false (fun q => by have := q i (by omega); unfold mostOf at this; omega)))) ⟨.inr ⟨_, rfl, .inl rfl⟩, .inr ⟨_, rfl, .inl rfl⟩, .inr ⟨_, rfl, .inl rfl⟩, .inr ⟨_, rfl, .inl rfl⟩, .inr ⟨_, rfl, .inl rfl⟩, .inr ⟨_, rfl, .inl rfl⟩, .inr ⟨_, rfl, .inl rfl⟩, .inr ⟨_, rfl, .inl rfl⟩, .inr ⟨_, rfl, .inl rfl⟩, trivial⟩ rfl (pre_ok rfl)
  refine w_skip ?_
  -- region 8
  refine w_region ?_
  refine rw_t 54 rfl rfl rfl (do_add rfl rfl (by omega) ?_)
  refine rw_t 11 rfl rfl rfl (do_move rfl ?_)
  refine rw_nil ?_
  refine ⟨i + 1, [0, 1, 2, 3, 4, 5, 6, 7, 8, 9], by dsimp only; omega, ⟨by omega, fun a ha => by rcases Nat.lt_or_ge a i with hki | hki; exact g2 a hki; have : a = i := (by omega); subst this; unfold mostOf; omega⟩, ⟨.inr ⟨_, rfl, .inl rfl⟩, .inr ⟨_, rfl, .inl rfl⟩, .inr ⟨_, rfl, .inl rfl⟩, .inr ⟨_, rfl, .inl rfl⟩, .inr ⟨_, rfl, .inl rfl⟩, .inr ⟨_, rfl, .inl rfl⟩, .inr ⟨_, rfl, .inl rfl⟩, .inr ⟨_, rfl, .inl rfl⟩, .inr ⟨_, rfl, .inl rfl⟩, .inr ⟨_, rfl, .inl rfl⟩, trivial⟩, rfl, pre_ok rfl, ⟨⟨_, rfl, rfl⟩, ⟨_, rfl, rfl⟩, ⟨_, rfl, rfl⟩, ⟨_, rfl, rfl⟩, trivial⟩⟩
-- f34 "(acequia/relaxed.state).excess"
set_option maxHeartbeats 8000000 in
set_option synthInstance.maxHeartbeats 400000 in
set_option synthInstance.maxSize 2000 in
theorem t_excess (c : Csr) (p : Pre) (h : CsrT c) (hp : PreLen c p) (hpr : pairsP c p.Res) (hi : ∀ x ∈ p.Ex, In64 x) : Tri Try.prog 34 [.agg [.val (.int .i64 c.N), .val (.int .i64 c.S), .val (.int .i64 c.T), .slc 0 0 c.First.length none, .slc 1 0 c.Head.length none, .slc 2 0 c.Rev.length none, .slc 3 0 c.Cap.length none, .slc 4 0 c.Arc.length none, .slc 5 0 c.Back.length none, .slc 6 0 p.Res.length none, .slc 7 0 p.Ex.length none, .slc 8 0 p.H.length none]] [SO.ints false .i64 c.First, SO.ints false .i64 c.Head, SO.ints false .i64 c.Rev, SO.ints false .i64 c.Cap, SO.ints false .i64 c.Arc, SO.bools false c.Back, SO.ints false .i64 p.Res, SO.ints false .i64 p.Ex, SO.ints false .i64 p.H] (fun s H => s = .val (.bool (decide (excessP c p))) ∧ H = [SO.ints false .i64 c.First, SO.ints false .i64 c.Head, SO.ints false .i64 c.Rev, SO.ints false .i64 c.Cap, SO.ints false .i64 c.Arc, SO.bools false c.Back, SO.ints false .i64 p.Res, SO.ints false .i64 p.Ex, SO.ints false .i64 p.H]) := by
  refine tri_of_w (fn := Try.f34) Try.func34 rfl (by simp [Try.f34]) ?_
  intro ρ w hρ
  refine w_seq ?_
  have hn := h.n
  have hf := h.first
  have hhd := h.head
  have hrl := h.rev
  have hcl := h.cap
  have hal := h.arc
  have hbl := h.back
  have hr := hp.res
  have hx := hp.ex
  have hh := hp.h
  -- region 0
  refine w_region ?_
  refine rw_t 1 rfl rfl rfl (n_box_agg (n := 9) rfl rfl ?_)
  refine rw_t 2 rfl rfl rfl (do_assign rfl ?_)
  refine rw_nil ?_
  refine w_seq ?_
  -- region 1
  refine w_region ?_
  refine rw_t 10 rfl rfl rfl (do_fieldaddr rfl ?_)
  refine rw_t 11 rfl rfl rfl (do_fieldaddr rfl ?_)
  refine rw_t 12 rfl rfl rfl (do_load_box rfl rfl rfl ?_)
  refine rw_t 13 rfl rfl rfl (n_callN (X' := .slc 10 0 p.Ex.length none) (N' := [SO.ints true .i64 p.Ex]) rfl rfl (t_CloneLongs (xs := p.Ex) (by omega)) [7] ⟨.inr ⟨_, rfl, srv⟩, trivial⟩ rfl rfl rfl rfl rfl ?_)
  refine rw_t 3 rfl rfl rfl (do_assign rfl ?_)
  refine rw_nil ?_
  refine w_seq ?_
  refine w_seq ?_
  -- region 2
  refine w_region ?_
  refine rw_t 14 rfl rfl rfl (do_fieldaddr rfl ?_)
  refine rw_t 15 rfl rfl rfl (do_fieldaddr rfl ?_)
  refine rw_t 16 rfl rfl rfl (do_load_box rfl rfl rfl ?_)
  refine rw_t 17 rfl rfl rfl (do_len rfl ?_)
  refine rw_t 18 rfl rfl rfl (do_move rfl ?_)
  refine rw_nil ?_
  refine w_block ?_
  refine w_loopS (ι := Nat × List Int) (fun q => [(1, .ptr 9 0 0), (2, .val (.bool false)), (3, .slc 10 0 p.Ex.length none), (16, .slc 6 0 p.Res.length none), (17, .val (.int .i64 ((p.Res.length : Nat) : Int))), (18, .val (.int .i64 ((q.1 : Nat) : Int)))]) (fun q => [SO.ints false .i64 c.First, SO.ints false .i64 c.Head, SO.ints false .i64 c.Rev, SO.ints false .i64 c.Cap, SO.ints false .i64 c.Arc, SO.bools false c.Back, SO.ints false .i64 p.Res, SO.ints false .i64 p.Ex, SO.ints false .i64 p.H, .box [.val (.int .i64 c.N), .val (.int .i64 c.S), .val (.int .i64 c.T), .slc 0 0 c.First.length none, .slc 1 0 c.Head.length none, .slc 2 0 c.Rev.length none, .slc 3 0 c.Cap.length none, .slc 4 0 c.Arc.length none, .slc 5 0 c.Back.length none, .slc 6 0 p.Res.length none, .slc 7 0 p.Ex.length none, .slc 8 0 p.H.length none], SO.ints true .i64 q.2]) (fun q => p.Res.length - q.1) (fun q => q.1 ≤ p.Res.length ∧ q.2.length = p.Ex.length ∧ ∀ v : Nat, v < c.N.toNat → q.2.getD v 0 = IntKind.i64.wrap (p.Ex.getD v 0 - exK c p.Res q.1 v)) ((0, p.Ex)) [0, 1, 2, 3, 4, 5, 6, 7, 8, 9, 10] (⟨by simp, rfl, fun v hv => by rw [exK, Int.sub_zero]; exact (in64_wrap (hi _ (getD_mem 0 (by omega)))).symm⟩) ⟨.inr ⟨_, rfl, .inl rfl⟩, .inr ⟨_, rfl, .inl rfl⟩, .inr ⟨_, rfl, .inl rfl⟩, .inr ⟨_, rfl, .inl rfl⟩, .inr ⟨_, rfl, .inl rfl⟩, .inr ⟨_, rfl, .inl rfl⟩, .inr ⟨_, rfl, .inl rfl⟩, .inr ⟨_, rfl, .inl rfl⟩, .inr ⟨_, rfl, .inl rfl⟩, .inr ⟨_, rfl, .inl rfl⟩, .inr ⟨_, rfl, .inl rfl⟩, trivial⟩ rfl (pre_ok rfl) hρ ⟨⟨_, rfl, rfl⟩, ⟨_, rfl, rfl⟩, ⟨_, rfl, rfl⟩, ⟨_, rfl, rfl⟩, ⟨_, rfl, rfl⟩, ⟨_, rfl, rfl⟩, trivial⟩ ?_
  rintro ⟨i, l⟩ ⟨g1, g2, g3⟩
  dsimp only at g1 g2 g3 ⊢
  refine w_seq ?_
  -- region 3
  refine w_region ?_
  refine rw_t 19 rfl rfl rfl (do_bin rfl rfl rfl ?_)
  refine rw_nil ?_
  refine w_seq ?_
  refine w_cond rfl (fun hc1 => ?_) (fun hc1 => ?_)
  all_goals try simp only [bs] at hc1
  rotate_left
  · refine w_exit ?_ -- exit 0
    refine w_seq ?_
    refine w_seq ?_
    -- region 10
    refine w_region ?_
    refine rw_t 57 rfl rfl rfl (do_move rfl ?_)
    refine rw_t 58 rfl rfl rfl (do_len rfl ?_)
    refine rw_t 59 rfl rfl rfl (do_move rfl ?_)
    refine rw_nil ?_
    refine w_block ?_
    have hi' : i = c.Head.length := by omega
    subst hi'
    refine w_loopS (ι := Nat) (fun j => [(1, .ptr 9 0 0), (57, .slc 10 0 p.Ex.length none), (58, .val (.int .i64 ((p.Ex.length : Nat) : Int))), (59, .val (.int .i64 ((j : Nat) : Int)))]) (fun j => [SO.ints false .i64 c.First, SO.ints false .i64 c.Head, SO.ints false .i64 c.Rev, SO.ints false .i64 c.Cap, SO.ints false .i64 c.Arc, SO.bools false c.Back, SO.ints false .i64 p.Res, SO.ints false .i64 p.Ex, SO.ints false .i64 p.H, .box [.val (.int .i64 c.N), .val (.int .i64 c.S), .val (.int .i64 c.T), .slc 0 0 c.First.length none, .slc 1 0 c.Head.length none, .slc 2 0 c.Rev.length none, .slc 3 0 c.Cap.length none, .slc 4 0 c.Arc.length none, .slc 5 0 c.Back.length none, .slc 6 0 p.Res.length none, .slc 7 0 p.Ex.length none, .slc 8 0 p.H.length none], SO.ints true .i64 l]) (fun j => p.Ex.length - j) (fun j => j ≤ p.Ex.length ∧ ∀ v : Nat, v < j → ¬ (l.getD v 0 ≠ 0 ∨ ((v : Int) ≠ c.S ∧ p.Ex.getD v 0 < 0))) (0) [0, 1, 2, 3, 4, 5, 6, 7, 8, 9, 10] (⟨by simp, fun v hv => by omega⟩) ⟨.inr ⟨_, rfl, .inl rfl⟩, .inr ⟨_, rfl, .inl rfl⟩, .inr ⟨_, rfl, .inl rfl⟩, .inr ⟨_, rfl, .inl rfl⟩, .inr ⟨_, rfl, .inl rfl⟩, .inr ⟨_, rfl, .inl rfl⟩, .inr ⟨_, rfl, .inl rfl⟩, .inr ⟨_, rfl, .inl rfl⟩, .inr ⟨_, rfl, .inl rfl⟩, .inr ⟨_, rfl, .inl rfl⟩, .inr ⟨_, rfl, .inl rfl⟩, trivial⟩ rfl (pre_ok rfl) hρ ⟨⟨_, rfl, rfl⟩, ⟨_, rfl, rfl⟩, ⟨_, rfl, rfl⟩, ⟨_, rfl, rfl⟩, trivial⟩ ?_
    rintro j ⟨k1, k2⟩
    refine w_seq ?_
    -- region 11
    refine w_region ?_
    refine rw_t 60 rfl rfl rfl (do_bin rfl rfl rfl ?_)
    refine rw_nil ?_
    refine w_seq ?_
    refine w_cond rfl (fun hc2 => ?_) (fun hc2 => ?_)
    all_goals try simp only [bs] at hc2
    rotate_left
    · refine w_exit ?_ -- exit 2
      refine w_seq ?_
      -- region 16
      refine w_region ?_
      refine rw_t 2 rfl rfl rfl (do_assign rfl ?_)
      refine rw_nil ?_
      refine w_ret ?_
      exact ret_eq (.inl rfl) (.cons (res_tmp rfl) .nil) [0, 1, 2, 3, 4, 5, 6, 7, 8] (Eq.symm (bool_congr (decide_eq_true (fun v hv => ex_yes (exK_in h (fun a ha => ⟨(hpr a ha).1, (hpr a ha).2.1⟩) (Nat.le_refl _) v) (hi _ (getD_mem 0 (by omega))) (g3 v hv) (k2 v (by omega)))))) ⟨.inr ⟨_, rfl, .inl rfl⟩, .inr ⟨_, rfl, .inl rfl⟩, .inr ⟨_, rfl, .inl rfl⟩, .inr ⟨_, rfl, .inl rfl⟩, .inr ⟨_, rfl, .inl rfl⟩, .inr ⟨_, rfl, .inl rfl⟩, .inr ⟨_, rfl, .inl rfl⟩, .inr ⟨_, rfl, .inl rfl⟩, .inr ⟨_, rfl, .inl rfl⟩, trivial⟩ rfl (pre_ok rfl)
    refine w_skip ?_
    refine w_seq ?_
    refine w_block ?_
    refine w_seq ?_
    -- region 12
    refine w_region ?_
    refine rw_t 61 rfl rfl rfl (do_move rfl ?_)
    refine rw_t 62 rfl rfl rfl (do_ixn rfl rfl rfl (by first | omega | (simp only [ls] <;> omega)) ?_)
    refine rw_t 63 rfl rfl rfl (do_load_arr rfl rfl (by first | omega | (simp only [ls] <;> omega)) rfl ?_)
    refine rw_t 8 rfl rfl rfl (do_assign rfl ?_)
    refine rw_t 9 rfl rfl rfl (do_assign rfl ?_)
    refine rw_nil ?_
    refine w_seqB 81 (((l.getD j 0) ≠ 0 ∨ (((j : Nat) : Int) ≠ c.S ∧ (p.Ex.getD j 0) < 0))) ?_ ?_
    · -- region 13
      refine w_region ?_
      refine rw_t 64 rfl rfl rfl (do_move rfl ?_)
      refine rw_t 65 rfl rfl rfl (do_bin rfl rfl rfl ?_)
      refine rw_t 66 rfl rfl rfl (do_move rfl ?_)
      refine rw_case 66 rfl (fun g1 => ?_) (fun g1 => ?_)
      · have kg1 := g1
        try simp only [bs] at kg1
        refine rw_gf 67 2 66 false rfl rfl rfl rfl rfl rfl (by rw [g1]; decide) ?_
        refine rw_gf 68 2 66 false rfl rfl rfl rfl rfl rfl (by rw [g1]; decide) ?_
        refine rw_gf 69 2 66 false rfl rfl rfl rfl rfl rfl (by rw [g1]; decide) ?_
        refine rw_gf 70 2 66 false rfl rfl rfl rfl rfl rfl (by rw [g1]; decide) ?_
        refine rw_gf 71 2 66 false rfl rfl rfl rfl rfl rfl (by rw [g1]; decide) ?_
        refine rw_gf 72 2 66 false rfl rfl rfl rfl rfl rfl (by rw [g1]; decide) ?_
        refine rw_gu 73 8 72 true rfl rfl rfl rfl rfl rfl ?_
        refine rw_gu 74 8 72 true rfl rfl rfl rfl rfl rfl ?_
        refine rw_gu 75 8 72 true rfl rfl rfl rfl rfl rfl ?_
        refine rw_gu 76 8 72 true rfl rfl rfl rfl rfl rfl ?_
        refine rw_gu 77 8 72 true rfl rfl rfl rfl rfl rfl ?_
        refine rw_gu 78 8 72 true rfl rfl rfl rfl rfl rfl ?_
        refine rw_gu 79 8 72 true rfl rfl rfl rfl rfl rfl ?_
        refine rw_gf 80 2 66 false rfl rfl rfl rfl rfl rfl (by rw [g1]; decide) ?_
        refine rw_t 81 rfl rfl rfl (do_pick_t rfl g1 rfl ?_)
        refine rw_nil ?_
        refine ⟨rfl, ⟨_, rfl, by first | (simp; done) | (simp only [bs]; omega) | (simp [*]; done) | (simp; omega) | (constructor <;> intro h <;> simp_all <;> omega)⟩, ?_⟩
        repeat (refine ⟨⟨_, rfl, rfl⟩, ?_⟩)
        exact trivial
      · have kg1 := g1
        try simp only [bs] at kg1
        refine rw_gt 67 2 66 false rfl rfl rfl rfl rfl rfl g1 (do_move rfl ?_)
        refine rw_gt 68 2 66 false rfl rfl rfl rfl rfl rfl g1 (do_fieldaddr rfl ?_)
        refine rw_gt 69 2 66 false rfl rfl rfl rfl rfl rfl g1 (do_fieldaddr rfl ?_)
        refine rw_gt 70 2 66 false rfl rfl rfl rfl rfl rfl g1 (do_load_box rfl rfl rfl ?_)
        refine rw_gt 71 2 66 false rfl rfl rfl rfl rfl rfl g1 (do_bin rfl rfl rfl ?_)
        refine rw_gt 72 2 66 false rfl rfl rfl rfl rfl rfl g1 (do_move rfl ?_)
        refine rw_case 72 rfl (fun g2 => ?_) (fun g2 => ?_)
        · have kg2 := g2
          try simp only [bs] at kg2
          refine rw_gt 73 8 72 true rfl rfl rfl rfl rfl rfl g2 (do_fieldaddr rfl ?_)
          refine rw_gt 74 8 72 true rfl rfl rfl rfl rfl rfl g2 (do_fieldaddr rfl ?_)
          refine rw_gt 75 8 72 true rfl rfl rfl rfl rfl rfl g2 (do_load_box rfl rfl rfl ?_)
          refine rw_gt 76 8 72 true rfl rfl rfl rfl rfl rfl g2 (do_move rfl ?_)
          refine rw_gt 77 8 72 true rfl rfl rfl rfl rfl rfl g2 (do_ixn rfl rfl rfl (by first | omega | (simp only [ls] <;> omega)) ?_)
          refine rw_gt 78 8 72 true rfl rfl rfl rfl rfl rfl g2 (do_load_arr rfl rfl (by first | omega | (simp only [ls] <;> omega)) rfl ?_)
          refine rw_gt 79 8 72 true rfl rfl rfl rfl rfl rfl g2 (do_bin rfl rfl rfl ?_)
          refine rw_gt 80 2 66 false rfl rfl rfl rfl rfl rfl g1 (do_pick_t rfl g2 rfl ?_)
          refine rw_t 81 rfl rfl rfl (do_pick_f rfl g1 rfl ?_)
          refine rw_nil ?_
          refine ⟨rfl, ⟨_, rfl, by first | (simp; done) | (simp only [bs]; omega) | (simp [*]; done) | (simp; omega) | (constructor <;> intro h <;> simp_all <;> omega)⟩, ?_⟩
          repeat (refine ⟨⟨_, rfl, rfl⟩, ?_⟩)
          exact trivial
        · have kg2 := g2
          try simp only [bs] at kg2
          refine rw_gf 73 8 72 true rfl rfl rfl rfl rfl rfl (by rw [g2]; decide) ?_
          refine rw_gf 74 8 72 true rfl rfl rfl rfl rfl rfl (by rw [g2]; decide) ?_
          refine rw_gf 75 8 72 true rfl rfl rfl rfl rfl rfl (by rw [g2]; decide) ?_
          refine rw_gf 76 8 72 true rfl rfl rfl rfl rfl rfl (by rw [g2]; decide) ?_
          refine rw_gf 77 8 72 true rfl rfl rfl rfl rfl rfl (by rw [g2]; decide) ?_
          refine rw_gf 78 8 72 true rfl rfl rfl rfl rfl rfl (by rw [g2]; decide) ?_
          refine rw_gf 79 8 72 true rfl rfl rfl rfl rfl rfl (by rw [g2]; decide) ?_
          refine rw_gt 80 2 66 false rfl rfl rfl rfl rfl rfl g1 (do_pick_f rfl g2 rfl ?_)
          refine rw_t 81 rfl rfl rfl (do_pick_f rfl g1 rfl ?_)
          refine rw_nil ?_
          refine ⟨rfl, ⟨_, rfl, by first | (simp; done) | (simp only [bs]; omega) | (simp [*]; done) | (simp; omega) | (constructor <;> intro h <;> simp_all <;> omega)⟩, ?_⟩
          repeat (refine ⟨⟨_, rfl, rfl⟩, ?_⟩)
          exact trivial
    intro b1 hb1
    refine w_condP hb1 rfl (fun hc3 => ?_) (fun hc3 => ?_)
    · refine w_seq ?_
      -- region 14
      refine w_region ?_
      refine rw_t 2 rfl rfl rfl (do_assign rfl ?_)
      refine rw_nil ?_
      refine w_ret ?_
      exact ret_eq (.inl rfl) (.cons (res_tmp rfl) .nil) [0, 1, 2, 3, 4, 5, 6, 7, 8] (Eq.symm (bool_congr (decide_eq_false (fun q => ex_no (g3 j (by omega)) (q j (by omega)) hc3)))) ⟨.inr ⟨_, rfl, .inl rfl⟩, .inr ⟨_, rfl, .inl rfl⟩, .inr ⟨_, rfl, .inl rfl⟩, .inr ⟨_, rfl, .inl rfl⟩, .inr ⟨_, rfl, .inl rfl⟩, .inr ⟨_, rfl, .inl rfl⟩, .inr ⟨_, rfl, .inl rfl⟩, .inr ⟨_, rfl, .inl rfl⟩, .inr ⟨_, rfl, .inl rfl⟩, trivial⟩ rfl (pre_ok rfl)
    refine w_skip ?_
    -- region 15
    refine w_region ?_
    refine rw_t 82 rfl rfl rfl (do_add rfl rfl (by omega) ?_)
    refine rw_t 59 rfl rfl rfl (do_move rfl ?_)
    refine rw_nil ?_
    refine ⟨j + 1, [0, 1, 2, 3, 4, 5, 6, 7, 8, 9, 10], by dsimp only; omega, ⟨by omega, fun v hv => by rcases Nat.lt_or_ge v j with hki | hki; exact k2 v hki; have : v = j := (by omega); subst this; exact hc3⟩, ⟨.inr ⟨_, rfl, .inl rfl⟩, .inr ⟨_, rfl, .inl rfl⟩, .inr ⟨_, rfl, .inl rfl⟩, .inr ⟨_, rfl, .inl rfl⟩, .inr ⟨_, rfl, .inl rfl⟩, .inr ⟨_, rfl, .inl rfl⟩, .inr ⟨_, rfl, .inl rfl⟩, .inr ⟨_, rfl, .inl rfl⟩, .inr ⟨_, rfl, .inl rfl⟩, .inr ⟨_, rfl, .inl rfl⟩, .inr ⟨_, rfl, .inl rfl⟩, trivial⟩, rfl, pre_ok rfl, ⟨⟨_, rfl, rfl⟩, ⟨_, rfl, rfl⟩, ⟨_, rfl, rfl⟩, ⟨_, rfl, rfl⟩, trivial⟩⟩
  refine w_skip ?_
  refine w_seq ?_
  refine w_block ?_
  refine w_seq ?_
  -- region 4
  refine w_region ?_
  refine rw_t 20 rfl rfl rfl (do_move rfl ?_)
  refine rw_t 21 rfl rfl rfl (do_ixn rfl rfl rfl (by first | omega | (simp only [ls] <;> omega)) ?_)
  refine rw_t 22 rfl rfl rfl (do_load_arr rfl rfl (by first | omega | (simp only [ls] <;> omega)) rfl ?_)
  refine rw_t 4 rfl rfl rfl (do_assign rfl ?_)
  refine rw_t 5 rfl rfl rfl (do_assign rfl ?_)
  refine rw_nil ?_
  refine w_seq ?_
  refine w_seq ?_
  -- region 5
  refine w_region ?_
  refine rw_t 23 rfl rfl rfl (do_fieldaddr rfl ?_)
  refine rw_t 24 rfl rfl rfl (do_fieldaddr rfl ?_)
  refine rw_t 25 rfl rfl rfl (do_load_box rfl rfl rfl ?_)
  refine rw_t 26 rfl rfl rfl (do_move rfl ?_)
  refine rw_t 27 rfl rfl rfl (do_ixn rfl rfl rfl (by first | omega | (simp only [ls] <;> omega)) ?_)
  refine rw_t 28 rfl rfl rfl (do_load_arr rfl rfl (by first | omega | (simp only [ls] <;> omega)) rfl ?_)
  refine rw_t 29 rfl rfl rfl (do_not rfl ?_)
  refine rw_nil ?_
  refine w_cond rfl (fun hc4 => ?_) (fun hc4 => ?_)
  all_goals try simp only [bs] at hc4
  · refine w_exit ?_ -- exit 1
    -- region 9
    refine w_region ?_
    refine rw_t 56 rfl rfl rfl (do_add rfl rfl (by omega) ?_)
    refine rw_t 18 rfl rfl rfl (do_move rfl ?_)
    refine rw_nil ?_
    refine ⟨(i + 1, l), [0, 1, 2, 3, 4, 5, 6, 7, 8, 9, 10], by dsimp only; omega, ⟨by dsimp only; omega, g2, fun v hv => by dsimp only; rw [exK, if_neg (by rw [hc4]; decide), Int.add_zero]; exact g3 v hv⟩, ⟨.inr ⟨_, rfl, .inl rfl⟩, .inr ⟨_, rfl, .inl rfl⟩, .inr ⟨_, rfl, .inl rfl⟩, .inr ⟨_, rfl, .inl rfl⟩, .inr ⟨_, rfl, .inl rfl⟩, .inr ⟨_, rfl, .inl rfl⟩, .inr ⟨_, rfl, .inl rfl⟩, .inr ⟨_, rfl, .inl rfl⟩, .inr ⟨_, rfl, .inl rfl⟩, .inr ⟨_, rfl, .inl rfl⟩, .inr ⟨_, rfl, .inl rfl⟩, trivial⟩, rfl, pre_ok rfl, ⟨⟨_, rfl, rfl⟩, ⟨_, rfl, rfl⟩, ⟨_, rfl, rfl⟩, ⟨_, rfl, rfl⟩, ⟨_, rfl, rfl⟩, ⟨_, rfl, rfl⟩, trivial⟩⟩
  refine w_skip ?_
  refine w_seq ?_
  have hhd2 := h.hd i (by omega)
  obtain ⟨tv, ht1, ht2, ht3, ht4⟩ := h.tail_at (a := (i : Int)) (by omega) (by omega)
  -- region 6
  refine w_region ?_
  refine rw_t 31 rfl rfl rfl (do_fieldaddr rfl ?_)
  refine rw_t 32 rfl rfl rfl (n_load_boxagg [_, _, _, _, _, _, _, _, _] rfl rfl (Nat.le_of_ble_eq_true rfl) rfl ?_)
  refine rw_t 33 rfl rfl rfl (do_move rfl ?_)
  refine rw_t 34 rfl rfl rfl (do_callR (X' := .tup [.val (.int .i64 (tailOf c ((i : Nat) : Int))), .val (.bool true)]) rfl rfl (t_Tail (c := c) (a := ((i : Nat) : Int)) (h) (by omega)) [0, 1, 2, 3, 4, 5] ⟨.inr ⟨_, rfl, srv⟩, .inr ⟨_, rfl, srv⟩, .inr ⟨_, rfl, srv⟩, .inr ⟨_, rfl, srv⟩, .inr ⟨_, rfl, srv⟩, .inr ⟨_, rfl, srv⟩, trivial⟩ rfl rfl rfl ?_)
  refine rw_t 30 rfl rfl rfl (do_move rfl ?_)
  refine rw_t 35 rfl rfl rfl (do_extract rfl rfl ?_)
  refine rw_t 36 rfl rfl rfl (do_extract rfl rfl ?_)
  refine rw_t 6 rfl rfl rfl (do_assign rfl ?_)
  refine rw_t 7 rfl rfl rfl (do_assign rfl ?_)
  refine rw_nil ?_
  refine w_seq ?_
  -- region 7
  refine w_region ?_
  refine rw_t 37 rfl rfl rfl (do_move rfl ?_)
  refine rw_t 38 rfl rfl rfl (do_move rfl ?_)
  refine rw_t 39 rfl rfl rfl (do_ix0 rfl rfl rfl (by first | omega | (simp only [ls] <;> omega)) ?_)
  refine rw_t 40 rfl rfl rfl (do_load_arr rfl rfl (by first | omega | (simp only [ls] <;> omega)) rfl ?_)
  refine rw_t 41 rfl rfl rfl (do_move rfl ?_)
  refine rw_t 42 rfl rfl rfl (do_bin rfl rfl rfl ?_)
  refine rw_t 43 rfl rfl rfl (do_ix0 rfl rfl rfl (by first | omega | (simp only [ls] <;> omega)) ?_)
  refine rw_u rfl rfl (n_store_arr (z := IntKind.i64.wrap ((l.getD ((tailOf c ((i : Nat) : Int)).toNat) 0) - (p.Res.getD i 0))) rfl rfl rfl (by first | omega | (simp only [ls] <;> omega)) rfl (by decide) rfl ?_)
  refine rw_nil ?_
  -- region 8
  refine w_region ?_
  refine rw_t 44 rfl rfl rfl (do_move rfl ?_)
  refine rw_t 45 rfl rfl rfl (do_fieldaddr rfl ?_)
  refine rw_t 46 rfl rfl rfl (do_fieldaddr rfl ?_)
  refine rw_t 47 rfl rfl rfl (do_load_box rfl rfl rfl ?_)
  refine rw_t 48 rfl rfl rfl (do_move rfl ?_)
  refine rw_t 49 rfl rfl rfl (do_ixn rfl rfl rfl (by first | omega | (simp only [ls] <;> omega)) ?_)
  refine rw_t 50 rfl rfl rfl (do_load_arr rfl rfl (by first | omega | (simp only [ls] <;> omega)) rfl ?_)
  refine rw_t 51 rfl rfl rfl (do_ix0 rfl rfl rfl (by first | omega | (simp only [ls] <;> omega)) ?_)
  refine rw_t 52 rfl rfl rfl (do_load_arr rfl rfl (by first | omega | (simp only [ls] <;> omega)) rfl ?_)
  refine rw_t 53 rfl rfl rfl (do_move rfl ?_)
  refine rw_t 54 rfl rfl rfl (do_bin rfl rfl rfl ?_)
  refine rw_t 55 rfl rfl rfl (do_ix0 rfl rfl rfl (by first | omega | (simp only [ls] <;> omega)) ?_)
  refine rw_u rfl rfl (n_store_arr (z := IntKind.i64.wrap (((l.set ((tailOf c ((i : Nat) : Int)).toNat) (IntKind.i64.wrap ((l.getD ((tailOf c ((i : Nat) : Int)).toNat) 0) - (p.Res.getD i 0)))).getD ((c.Head.getD i 0).toNat) 0) + (p.Res.getD i 0))) rfl rfl rfl (by first | omega | (simp only [ls] <;> omega)) rfl (by decide) rfl ?_)
  refine rw_nil ?_
  -- region 9
  refine w_region ?_
  refine rw_t 56 rfl rfl rfl (do_add rfl rfl (by omega) ?_)
  refine rw_t 18 rfl rfl rfl (do_move rfl ?_)
  refine rw_nil ?_
  refine ⟨(i + 1, _), [0, 1, 2, 3, 4, 5, 6, 7, 8, 9, 10], by dsimp only; omega, ⟨by dsimp only; omega, by dsimp only; rw [List.length_set, List.length_set]; exact g2, ex_step hc4 (by omega) (by omega) (by omega) (by omega) g3⟩, ⟨.inr ⟨_, rfl, .inl rfl⟩, .inr ⟨_, rfl, .inl rfl⟩, .inr ⟨_, rfl, .inl rfl⟩, .inr ⟨_, rfl, .inl rfl⟩, .inr ⟨_, rfl, .inl rfl⟩, .inr ⟨_, rfl, .inl rfl⟩, .inr ⟨_, rfl, .inl rfl⟩, .inr ⟨_, rfl, .inl rfl⟩, .inr ⟨_, rfl, .inl rfl⟩, .inr ⟨_, rfl, .inl rfl⟩, .inr ⟨_, rfl, .inl rfl⟩, trivial⟩, rfl, pre_ok rfl, ⟨⟨_, rfl, rfl⟩, ⟨_, rfl, rfl⟩, ⟨_, rfl, rfl⟩, ⟨_, rfl, rfl⟩, ⟨_, rfl, rfl⟩, ⟨_, rfl, rfl⟩, trivial⟩⟩
end Go.Proofs

set_option linter.unusedVariables false
namespace Go.Proofs
open Go Go.Sx Go.RowKit
def exL (c : Csr) (res : List Int) : List Int := (List.range c.N.toNat).map fun (v : Nat) => exOf c res v
theorem exL_len (c : Csr) (res : List Int) : (exL c res).length = c.N.toNat := by simp [exL]
theorem exL_get {c : Csr} {res : List Int} {v : Nat} (h : v < c.N.toNat) : (exL c res).getD v 0 = exOf c res v := by
  simp [exL, List.getD, h]
theorem list_ext0 {l m : List Int} {n : Nat} (hl : l.length = n) (hm : m.length = n) (h : ∀ v, v < n → l.getD v 0 = m.getD v 0) : l = m := by
  apply List.ext_getElem (by omega)
  intro i h1 h2
  have := h i (by omega)
  simpa [List.getD, h1, h2] using this
theorem exl_step {c : Csr} {res : List Int} {l : List Int} {i : Nat} (hb : c.Back.getD i false = true) (ht : 0 ≤ tailOf c i) (ht2 : (tailOf c i).toNat < l.length) (hh : 0 ≤ c.Head.getD i 0) (hh2 : (c.Head.getD i 0).toNat < l.length)
    (hg : ∀ v : Nat, v < c.N.toNat → l.getD v 0 = exK c res i v) :
    ∀ v : Nat, v < c.N.toNat → ((l.set (tailOf c i).toNat (l.getD (tailOf c i).toNat 0 + res.getD i 0)).set (c.Head.getD i 0).toNat ((l.set (tailOf c i).toNat (l.getD (tailOf c i).toNat 0 + res.getD i 0)).getD (c.Head.getD i 0).toNat 0 - res.getD i 0)).getD v 0 = exK c res (i + 1) v := by
  intro v hv
  have h1 := hg v hv
  rw [exK, if_pos hb, getD_set _ _ _ _ (by rw [List.length_set]; exact hh2), getD_set _ _ _ _ ht2, getD_set _ _ _ _ ht2]
  by_cases e1 : (c.Head.getD i 0).toNat = v
  · rw [if_pos e1, if_pos (show c.Head.getD i 0 = (v : Int) by omega)]
    by_cases e2 : tailOf c i = (v : Int)
    · rw [if_pos e2, if_pos (by omega), e2, Int.toNat_natCast, h1]; omega
    · rw [if_neg e2, if_neg (by omega), e1, h1]; omega
  · rw [if_neg e1, if_neg (show ¬ c.Head.getD i 0 = (v : Int) by omega)]
    by_cases e2 : tailOf c i = (v : Int)
    · rw [if_pos e2, if_pos (by omega), e2, Int.toNat_natCast, h1]; omega
    · rw [if_neg e2, if_neg (by omega), h1]; omega
theorem least_low {c : Csr} {p : Pre} (hh : ∀ v, 0 ≤ p.H.getD v 0 ∧ p.H.getD v 0 ≤ 8192) (a0 : Int) (k : Nat) : ((if (leastK c p a0 k).2 = true then (leastK c p a0 k).1 else -1) < 0 ∨ p.H.getD (c.Head.getD (a0 + k).toNat 0).toNat 0 < (if (leastK c p a0 k).2 = true then (leastK c p a0 k).1 else -1)) ↔ (¬ (leastK c p a0 k).2 = true ∨ p.H.getD (c.Head.getD (a0 + k).toNat 0).toNat 0 < (leastK c p a0 k).1) := by
  have h1 := leastK_in (M := 8192) (by omega) hh (c := c) a0 k
  have h2 := hh (c.Head.getD (a0 + k).toNat 0).toNat
  by_cases hs : (leastK c p a0 k).2 = true
  · rw [if_pos hs]; simp only [hs, not_true, false_or]; omega
  · rw [if_neg hs]; simp [hs]
-- f35 "acequia/acequiaref09.excess"
set_option maxHeartbeats 8000000 in
set_option synthInstance.maxHeartbeats 400000 in
set_option synthInstance.maxSize 2000 in
theorem t_rexcess (c : Csr) (r : List Int) (h : CsrT c) (hl : r.length = c.Head.length) (hpr : pairsP c r) : Tri Try.prog 35 [.agg [.val (.int .i64 c.N), .val (.int .i64 c.S), .val (.int .i64 c.T), .slc 0 0 c.First.length none, .slc 1 0 c.Head.length none, .slc 2 0 c.Rev.length none, .slc 3 0 c.Cap.length none, .slc 4 0 c.Arc.length none, .slc 5 0 c.Back.length none], .slc 6 0 r.length none] [SO.ints false .i64 c.First, SO.ints false .i64 c.Head, SO.ints false .i64 c.Rev, SO.ints false .i64 c.Cap, SO.ints false .i64 c.Arc, SO.bools false c.Back, SO.ints false .i64 r] (fun s H => s = .slc 7 0 c.N.toNat (some c.N.toNat) ∧ H = [SO.ints false .i64 c.First, SO.ints false .i64 c.Head, SO.ints false .i64 c.Rev, SO.ints false .i64 c.Cap, SO.ints false .i64 c.Arc, SO.bools false c.Back, SO.ints false .i64 r, SO.ints true .i64 (exL c r)]) := by
  refine tri_of_w (fn := Try.f35) Try.func35 rfl (by simp [Try.f35]) ?_
  intro ρ w hρ
  refine w_seq ?_
  have hn := h.n
  have hf := h.first
  have hhd := h.head
  have hrl := h.rev
  have hcl := h.cap
  have hal := h.arc
  have hbl := h.back
  -- region 0
  refine w_region ?_
  refine rw_t 2 rfl rfl rfl (n_box_agg (n := 7) rfl rfl ?_)
  refine rw_t 4 rfl rfl rfl (do_assign rfl ?_)
  refine rw_nil ?_
  refine w_seq ?_
  -- region 1
  refine w_region ?_
  refine rw_t 7 rfl rfl rfl (do_fieldaddr rfl ?_)
  refine rw_t 8 rfl rfl rfl (do_load_box rfl rfl rfl ?_)
  refine rw_t 9 rfl rfl rfl (n_make (nm := 8) Int (encI .i64) 0 rfl rfl rfl (fun _ => rfl) (fun _ _ h => by simp [encI] at h; subst h; rfl) (by omega) (by omega) (by omega) rfl ?_)
  refine rw_t 5 rfl rfl rfl (do_assign rfl ?_)
  refine rw_nil ?_
  refine w_seq ?_
  refine w_seq ?_
  -- region 2
  refine w_region ?_
  refine rw_t 6 rfl rfl rfl (do_assign rfl ?_)
  refine rw_nil ?_
  refine w_block ?_
  refine w_loopS (ι := Nat × List Int) (fun q => [(1, .slc 6 0 r.length none), (2, .ptr 7 0 0), (4, .val (.slice none 0 0)), (5, .slc 8 0 c.N.toNat (some c.N.toNat)), (6, .val (.int .i64 ((q.1 : Nat) : Int)))]) (fun q => [SO.ints false .i64 c.First, SO.ints false .i64 c.Head, SO.ints false .i64 c.Rev, SO.ints false .i64 c.Cap, SO.ints false .i64 c.Arc, SO.bools false c.Back, SO.ints false .i64 r, .box [.val (.int .i64 c.N), .val (.int .i64 c.S), .val (.int .i64 c.T), .slc 0 0 c.First.length none, .slc 1 0 c.Head.length none, .slc 2 0 c.Rev.length none, .slc 3 0 c.Cap.length none, .slc 4 0 c.Arc.length none, .slc 5 0 c.Back.length none], SO.ints true .i64 q.2]) (fun q => c.Head.length - q.1) (fun q => q.1 ≤ c.Head.length ∧ q.2.length = c.N.toNat ∧ ∀ v : Nat, v < c.N.toNat → q.2.getD v 0 = exK c r q.1 v) ((0, List.replicate c.N.toNat 0)) [0, 1, 2, 3, 4, 5, 6, 7, 8] (⟨by simp, by simp, fun v hv => by simp [exK, List.getD, hv]⟩) ⟨.inr ⟨_, rfl, .inl rfl⟩, .inr ⟨_, rfl, .inl rfl⟩, .inr ⟨_, rfl, .inl rfl⟩, .inr ⟨_, rfl, .inl rfl⟩, .inr ⟨_, rfl, .inl rfl⟩, .inr ⟨_, rfl, .inl rfl⟩, .inr ⟨_, rfl, .inl rfl⟩, .inr ⟨_, rfl, .inl rfl⟩, .inr ⟨_, rfl, .inl rfl⟩, trivial⟩ rfl (pre_ok rfl) hρ ⟨⟨_, rfl, rfl⟩, ⟨_, rfl, rfl⟩, ⟨_, rfl, rfl⟩, ⟨_, rfl, rfl⟩, ⟨_, rfl, rfl⟩, trivial⟩ ?_
  rintro ⟨i, l⟩ ⟨g1, g2, g3⟩
  dsimp only at g1 g2 g3 ⊢
  refine w_seq ?_
  refine w_seq ?_
  -- region 3
  refine w_region ?_
  refine rw_t 10 rfl rfl rfl (do_move rfl ?_)
  refine rw_t 11 rfl rfl rfl (do_fieldaddr rfl ?_)
  refine rw_t 12 rfl rfl rfl (do_load_box rfl rfl rfl ?_)
  refine rw_t 13 rfl rfl rfl (do_len rfl ?_)
  refine rw_t 14 rfl rfl rfl (do_bin rfl rfl rfl ?_)
  refine rw_nil ?_
  refine w_cond rfl (fun hc1 => ?_) (fun hc1 => ?_)
  all_goals try simp only [bs] at hc1
  rotate_left
  · refine w_exit ?_ -- exit 0
    refine w_seq ?_
    -- region 8
    refine w_region ?_
    refine rw_t 58 rfl rfl rfl (do_move rfl ?_)
    refine rw_t 4 rfl rfl rfl (do_assign rfl ?_)
    refine rw_nil ?_
    have hi' : i = c.Head.length := by omega
    subst hi'
    refine w_ret ?_
    exact ret_eq (.inl rfl) (.cons (res_tmp rfl) .nil) [0, 1, 2, 3, 4, 5, 6, 8] (rfl) ⟨.inr ⟨_, rfl, .inl rfl⟩, .inr ⟨_, rfl, .inl rfl⟩, .inr ⟨_, rfl, .inl rfl⟩, .inr ⟨_, rfl, .inl rfl⟩, .inr ⟨_, rfl, .inl rfl⟩, .inr ⟨_, rfl, .inl rfl⟩, .inr ⟨_, rfl, .inl rfl⟩, .inr ⟨_, rfl, .inl (congrArg (SO.ints true .i64) (list_ext0 (exL_len c r) g2 (fun v hv => by rw [exL_get hv, g3 v hv]; rfl)))⟩, trivial⟩ rfl (pre_ok rfl)
  refine w_skip ?_
  refine w_seq ?_
  refine w_block ?_
  refine w_seq ?_
  -- region 5
  refine w_region ?_
  refine rw_t 17 rfl rfl rfl (do_fieldaddr rfl ?_)
  refine rw_t 18 rfl rfl rfl (do_load_box rfl rfl rfl ?_)
  refine rw_t 19 rfl rfl rfl (do_move rfl ?_)
  refine rw_t 20 rfl rfl rfl (do_ixn rfl rfl rfl (by first | omega | (simp only [ls] <;> omega)) ?_)
  refine rw_t 21 rfl rfl rfl (do_load_arr rfl rfl (by first | omega | (simp only [ls] <;> omega)) rfl ?_)
  refine rw_nil ?_
  refine w_cond rfl (fun hc2 => ?_) (fun hc2 => ?_)
  all_goals try simp only [bs] at hc2
  · refine w_seq ?_
    have hhd2 := h.hd i (by omega)
    obtain ⟨tv, ht1, ht2, ht3, ht4⟩ := h.tail_at (a := (i : Int)) (by omega) (by omega)
    have hb1 := exK_in h (fun a ha => ⟨(hpr a ha).1, (hpr a ha).2.1⟩) (show i ≤ c.Head.length by omega) (tailOf c i)
    have hb2 := exK_in h (fun a ha => ⟨(hpr a ha).1, (hpr a ha).2.1⟩) (show i ≤ c.Head.length by omega) (c.Head.getD i 0)
    have hq := hpr i (by omega)
    have hcv := h.capv i (by omega)
    have e1 := g3 (tailOf c i).toNat (by omega)
    have e2 := g3 (c.Head.getD i 0).toNat (by omega)
    rw [Int.toNat_of_nonneg (by omega)] at e1 e2
    have e3 := getD_set l (tailOf c i).toNat (c.Head.getD i 0).toNat (l.getD (tailOf c i).toNat 0 + r.getD i 0) (by omega)
    have e4 : -4611686018427387904 ≤ (l.set (tailOf c ((i : Nat) : Int)).toNat (l.getD (tailOf c ((i : Nat) : Int)).toNat 0 + r.getD i 0)).getD (c.Head.getD i 0).toNat 0 ∧ (l.set (tailOf c ((i : Nat) : Int)).toNat (l.getD (tailOf c ((i : Nat) : Int)).toNat 0 + r.getD i 0)).getD (c.Head.getD i 0).toNat 0 ≤ 4611686018427387904 := by rw [e3]; split <;> omega
    -- region 6
    refine w_draw mixed [0, 0, 0, 6, 0, 0, 0, 110, 254, 510, 0, 0, 3072, 7168, 16382] [32767, 65535] (by kernel_rfl) (by kernel_rfl) rfl rfl rfl (hle hρ rfl) ?_
    refine ra_q (j := 0) rfl rfl rfl rfl (do_move rfl ⟨rfl, rfl⟩) (by rfl) ?_
    refine ra_q (j := 1) rfl rfl rfl rfl (n_load_boxagg [_, _, _, _, _, _, _, _, _] rfl rfl (Nat.le_of_ble_eq_true rfl) rfl ⟨rfl, rfl⟩) (by rfl) ?_
    refine ra_q (j := 2) rfl rfl rfl rfl (do_move rfl ⟨rfl, rfl⟩) (by rfl) ?_
    refine ra_q (j := 3) rfl rfl rfl rfl (do_callR (X' := .val (.int .i64 (tailOf c ((i : Nat) : Int)))) rfl rfl (t_rTail (c := c) (a := ((i : Nat) : Int)) (h.toCsrLen)) [0, 1, 2, 3, 4, 5] ⟨.inr ⟨_, rfl, srv⟩, .inr ⟨_, rfl, srv⟩, .inr ⟨_, rfl, srv⟩, .inr ⟨_, rfl, srv⟩, .inr ⟨_, rfl, srv⟩, .inr ⟨_, rfl, srv⟩, trivial⟩ rfl rfl rfl ⟨rfl, rfl⟩) (by rfl) ?_
    refine ra_q (j := 4) rfl rfl rfl rfl (do_move rfl ⟨rfl, rfl⟩) (by rfl) ?_
    refine ra_q (j := 5) rfl rfl rfl rfl (n_load_boxagg [_, _, _, _, _, _, _, _, _] rfl rfl (Nat.le_of_ble_eq_true rfl) rfl ⟨rfl, rfl⟩) (by rfl) ?_
    refine ra_q (j := 6) rfl rfl rfl rfl (do_move rfl ⟨rfl, rfl⟩) (by rfl) ?_
    refine ra_q (j := 7) rfl rfl rfl rfl (do_callR (X' := .val (.int .i64 (tailOf c ((i : Nat) : Int)))) rfl rfl (t_rTail (c := c) (a := ((i : Nat) : Int)) (h.toCsrLen)) [0, 1, 2, 3, 4, 5] ⟨.inr ⟨_, rfl, srv⟩, .inr ⟨_, rfl, srv⟩, .inr ⟨_, rfl, srv⟩, .inr ⟨_, rfl, srv⟩, .inr ⟨_, rfl, srv⟩, .inr ⟨_, rfl, srv⟩, trivial⟩ rfl rfl rfl ⟨rfl, rfl⟩) (by rfl) ?_
    refine ra_q (j := 8) rfl rfl rfl rfl (do_ix0 rfl rfl rfl (by first | omega | (simp only [ls] <;> omega)) ⟨rfl, rfl⟩) (by rfl) ?_
    refine ra_q (j := 9) rfl rfl rfl rfl (do_load_arr rfl rfl (by first | omega | (simp only [ls] <;> omega)) rfl ⟨rfl, rfl⟩) (by rfl) ?_
    refine ra_q (j := 10) rfl rfl rfl rfl (do_move rfl ⟨rfl, rfl⟩) (by rfl) ?_
    refine ra_q (j := 11) rfl rfl rfl rfl (do_move rfl ⟨rfl, rfl⟩) (by rfl) ?_
    refine ra_q (j := 12) rfl rfl rfl rfl (do_ixn rfl rfl rfl (by first | omega | (simp only [ls] <;> omega)) ⟨rfl, rfl⟩) (by rfl) ?_
    refine ra_q (j := 13) rfl rfl rfl rfl (do_load_arr rfl rfl (by first | omega | (simp only [ls] <;> omega)) rfl ⟨rfl, rfl⟩) (by rfl) ?_
    refine ra_q (j := 14) rfl rfl rfl rfl (do_add rfl rfl (by omega) ⟨rfl, rfl⟩) (by rfl) ?_
    refine n_done ?_
    refine rw_t 37 rfl rfl rfl (do_ix0 rfl rfl rfl (by first | omega | (simp only [ls] <;> omega)) ?_)
    refine rw_u rfl rfl (n_store_arr (z := ((l.getD ((tailOf c ((i : Nat) : Int)).toNat) 0) + (r.getD i 0))) rfl rfl rfl (by first | omega | (simp only [ls] <;> omega)) rfl (by decide) rfl ?_)
    refine rw_nil ?_
    -- region 7
    refine w_draw mixed [0, 0, 2, 0, 14, 30, 0, 0, 128, 0, 896, 1920, 4032, 8128, 0, 0, 49152, 114688, 262080] [524287, 1048575] (by kernel_rfl) (by kernel_rfl) rfl rfl rfl (hle hρ rfl) ?_
    refine ra_q (j := 0) rfl rfl rfl rfl (do_move rfl ⟨rfl, rfl⟩) (by rfl) ?_
    refine ra_q (j := 1) rfl rfl rfl rfl (do_fieldaddr rfl ⟨rfl, rfl⟩) (by rfl) ?_
    refine ra_q (j := 2) rfl rfl rfl rfl (do_load_box rfl rfl rfl ⟨rfl, rfl⟩) (by rfl) ?_
    refine ra_q (j := 3) rfl rfl rfl rfl (do_move rfl ⟨rfl, rfl⟩) (by rfl) ?_
    refine ra_q (j := 4) rfl rfl rfl rfl (do_ixn rfl rfl rfl (by first | omega | (simp only [ls] <;> omega)) ⟨rfl, rfl⟩) (by rfl) ?_
    refine ra_q (j := 5) rfl rfl rfl rfl (do_load_arr rfl rfl (by first | omega | (simp only [ls] <;> omega)) rfl ⟨rfl, rfl⟩) (by rfl) ?_
    refine ra_q (j := 6) rfl rfl rfl rfl (do_move rfl ⟨rfl, rfl⟩) (by rfl) ?_
    refine ra_q (j := 7) rfl rfl rfl rfl (do_fieldaddr rfl ⟨rfl, rfl⟩) (by rfl) ?_
    refine ra_q (j := 8) rfl rfl rfl rfl (do_load_box rfl rfl rfl ⟨rfl, rfl⟩) (by rfl) ?_
    refine ra_q (j := 9) rfl rfl rfl rfl (do_move rfl ⟨rfl, rfl⟩) (by rfl) ?_
    refine ra_q (j := 10) rfl rfl rfl rfl (do_ixn rfl rfl rfl (by first | omega | (simp only [ls] <;> omega)) ⟨rfl, rfl⟩) (by rfl) ?_
    refine ra_q (j := 11) rfl rfl rfl rfl (do_load_arr rfl rfl (by first | omega | (simp only [ls] <;> omega)) rfl ⟨rfl, rfl⟩) (by rfl) ?_
    refine ra_q (j := 12) rfl rfl rfl rfl (do_ix0 rfl rfl rfl (by first | omega | (simp only [ls] <;> omega)) ⟨rfl, rfl⟩) (by rfl) ?_
    refine ra_q (j := 13) rfl rfl rfl rfl (do_load_arr rfl rfl (by first | omega | (simp only [ls] <;> omega)) rfl ⟨rfl, rfl⟩) (by rfl) ?_
    refine ra_q (j := 14) rfl rfl rfl rfl (do_move rfl ⟨rfl, rfl⟩) (by rfl) ?_
    refine ra_q (j := 15) rfl rfl rfl rfl (do_move rfl ⟨rfl, rfl⟩) (by rfl) ?_
    refine ra_q (j := 16) rfl rfl rfl rfl (do_ixn rfl rfl rfl (by first | omega | (simp only [ls] <;> omega)) ⟨rfl, rfl⟩) (by rfl) ?_
    refine ra_q (j := 17) rfl rfl rfl rfl (do_load_arr rfl rfl (by first | omega | (simp only [ls] <;> omega)) rfl ⟨rfl, rfl⟩) (by rfl) ?_
    refine ra_q (j := 18) rfl rfl rfl rfl (do_sub rfl rfl (by omega) ⟨rfl, rfl⟩) (by rfl) ?_
    refine n_done ?_
    refine rw_t 57 rfl rfl rfl (do_ix0 rfl rfl rfl (by first | omega | (simp only [ls] <;> omega)) ?_)
    refine rw_u rfl rfl (n_store_arr (z := (((l.set ((tailOf c ((i : Nat) : Int)).toNat) ((l.getD ((tailOf c ((i : Nat) : Int)).toNat) 0) + (r.getD i 0))).getD ((c.Head.getD i 0).toNat) 0) - (r.getD i 0))) rfl rfl rfl (by first | omega | (simp only [ls] <;> omega)) rfl (by decide) rfl ?_)
    refine rw_nil ?_
    -- region 4
    refine w_region ?_
    refine rw_t 15 rfl rfl rfl (do_move rfl ?_)
    refine rw_t 16 rfl rfl rfl (do_add rfl rfl (by omega) ?_)
    refine rw_t 6 rfl rfl rfl (do_assign rfl ?_)
    refine rw_nil ?_
    refine ⟨(i + 1, _), [0, 1, 2, 3, 4, 5, 6, 7, 8], by dsimp only; omega, ⟨by dsimp only; omega, by dsimp only; rw [List.length_set, List.length_set]; exact g2, exl_step hc2 (by omega) (by omega) (by omega) (by omega) g3⟩, ⟨.inr ⟨_, rfl, .inl rfl⟩, .inr ⟨_, rfl, .inl rfl⟩, .inr ⟨_, rfl, .inl rfl⟩, .inr ⟨_, rfl, .inl rfl⟩, .inr ⟨_, rfl, .inl rfl⟩, .inr ⟨_, rfl, .inl rfl⟩, .inr ⟨_, rfl, .inl rfl⟩, .inr ⟨_, rfl, .inl rfl⟩, .inr ⟨_, rfl, .inl rfl⟩, trivial⟩, rfl, pre_ok rfl, ⟨⟨_, rfl, rfl⟩, ⟨_, rfl, rfl⟩, ⟨_, rfl, rfl⟩, ⟨_, rfl, rfl⟩, ⟨_, rfl, rfl⟩, trivial⟩⟩
  · refine w_skip ?_
    -- region 4
    refine w_region ?_
    refine rw_t 15 rfl rfl rfl (do_move rfl ?_)
    refine rw_t 16 rfl rfl rfl (do_add rfl rfl (by omega) ?_)
    refine rw_t 6 rfl rfl rfl (do_assign rfl ?_)
    refine rw_nil ?_
    refine ⟨(i + 1, l), [0, 1, 2, 3, 4, 5, 6, 7, 8], by dsimp only; omega, ⟨by dsimp only; omega, g2, fun v hv => by dsimp only; rw [exK, if_neg (by rw [hc2]; decide), Int.add_zero]; exact g3 v hv⟩, ⟨.inr ⟨_, rfl, .inl rfl⟩, .inr ⟨_, rfl, .inl rfl⟩, .inr ⟨_, rfl, .inl rfl⟩, .inr ⟨_, rfl, .inl rfl⟩, .inr ⟨_, rfl, .inl rfl⟩, .inr ⟨_, rfl, .inl rfl⟩, .inr ⟨_, rfl, .inl rfl⟩, .inr ⟨_, rfl, .inl rfl⟩, .inr ⟨_, rfl, .inl rfl⟩, trivial⟩, rfl, pre_ok rfl, ⟨⟨_, rfl, rfl⟩, ⟨_, rfl, rfl⟩, ⟨_, rfl, rfl⟩, ⟨_, rfl, rfl⟩, ⟨_, rfl, rfl⟩, trivial⟩⟩
end Go.Proofs

set_option linter.unusedVariables false
namespace Go.Proofs
open Go Go.Sx Go.RowKit
theorem right_iff {c : Csr} {p : Pre} (hn : 2 ≤ c.N) : rightP c p ↔ ((((((c.N > 0 ∧ ((p.Res.length : Nat) : Int) = ((c.Head.length : Nat) : Int)) ∧ ((p.Ex.length : Nat) : Int) = c.N) ∧ ((p.H.length : Nat) : Int) = c.N) ∧ heightsP c p) ∧ pairsP c p.Res) ∧ excessP c p) := by
  unfold rightP lenP
  constructor
  · rintro ⟨⟨h1, h2, h3⟩, h4, h5, h6⟩
    exact ⟨⟨⟨⟨⟨⟨by omega, by omega⟩, by omega⟩, by omega⟩, h4⟩, h5⟩, h6⟩
  · rintro ⟨⟨⟨⟨⟨⟨h0, h1⟩, h2⟩, h3⟩, h4⟩, h5⟩, h6⟩
    exact ⟨⟨by omega, by omega, by omega⟩, h4, h5, h6⟩
def posB : Nat → Bool
  | 0 => false
  | _ + 1 => true
theorem posB_true {i : Nat} (h : i ≠ 0) : posB i = true := by cases i with
  | zero => exact (h rfl).elim
  | succ i => rfl
theorem does_len (c : Csr) (p : Pre) (e : Event) : (doesP c p e).Res.length = p.Res.length ∧ (doesP c p e).Ex.length = p.Ex.length ∧ (doesP c p e).H.length = p.H.length := by
  unfold doesP; split <;> simp [addAt, subAt]
theorem runE_idx (c : Csr) : ∀ (l : List Event) (p : Pre) (i : Nat), (i : Int) ≤ (runE c p l i).2.1
  | [], p, i => Int.le_refl _
  | e :: l, p, i => by
    simp only [runE]
    split
    · have := runE_idx c l (doesP c p e) (i + 1); omega
    · exact Int.le_refl _
theorem runE_zero {c : Csr} {p : Pre} {l : List Event} (h : (runE c p l 0).2.1 = 0) : runE c p l 0 = (p, 0, (runE c p l 0).2.2) ∧ (l = [] ∨ legalE c p (l.getD 0 Event.none) ≠ 0) := by
  cases l with
  | nil => exact ⟨rfl, .inl rfl⟩
  | cons e l =>
    by_cases hl : legalE c p e = 0
    · simp only [runE] at h
      rw [if_pos hl] at h
      have := runE_idx c l (doesP c p e) (0 + 1)
      omega
    · simp only [runE]
      rw [if_neg hl]
      exact ⟨rfl, .inr hl⟩
-- f10 "acequia/relaxed.Right"
set_option maxHeartbeats 8000000 in
set_option synthInstance.maxHeartbeats 400000 in
set_option synthInstance.maxSize 2000 in
theorem t_Right (c : Csr) (p : Pre) (h : CsrT c) (hi : ∀ x ∈ p.Ex, In64 x) : Tri Try.prog 10 [.agg [.val (.int .i64 c.N), .val (.int .i64 c.S), .val (.int .i64 c.T), .slc 0 0 c.First.length none, .slc 1 0 c.Head.length none, .slc 2 0 c.Rev.length none, .slc 3 0 c.Cap.length none, .slc 4 0 c.Arc.length none, .slc 5 0 c.Back.length none], .agg [.slc 6 0 p.Res.length none, .slc 7 0 p.Ex.length none, .slc 8 0 p.H.length none]] [SO.ints false .i64 c.First, SO.ints false .i64 c.Head, SO.ints false .i64 c.Rev, SO.ints false .i64 c.Cap, SO.ints false .i64 c.Arc, SO.bools false c.Back, SO.ints false .i64 p.Res, SO.ints false .i64 p.Ex, SO.ints false .i64 p.H] (fun s H => s = .val (.bool (decide (rightP c p))) ∧ H = [SO.ints false .i64 c.First, SO.ints false .i64 c.Head, SO.ints false .i64 c.Rev, SO.ints false .i64 c.Cap, SO.ints false .i64 c.Arc, SO.bools false c.Back, SO.ints false .i64 p.Res, SO.ints false .i64 p.Ex, SO.ints false .i64 p.H]) := by
  refine tri_of_w (fn := Try.f10) Try.func10 rfl (by simp [Try.f10]) ?_
  intro ρ w hρ
  refine w_seq ?_
  have hn := h.n
  -- region 0
  refine w_region ?_
  refine rw_t 2 rfl rfl rfl (n_box_agg (n := 9) rfl rfl ?_)
  refine rw_t 3 rfl rfl rfl (n_box_agg (n := 10) rfl rfl ?_)
  refine rw_t 4 rfl rfl rfl (do_assign rfl ?_)
  refine rw_nil ?_
  refine w_seq ?_
  -- region 1
  refine w_region ?_
  refine rw_t 6 rfl rfl rfl (n_load_boxagg [_, _, _, _, _, _, _, _, _] rfl rfl (Nat.le_of_ble_eq_true rfl) rfl ?_)
  refine rw_t 7 rfl rfl rfl (n_load_boxagg [_, _, _] rfl rfl (Nat.le_of_ble_eq_true rfl) rfl ?_)
  refine rw_t 8 rfl rfl rfl (do_build (out := [_, _, _, _, _, _, _, _, _, _, _, _]) rfl rfl ?_)
  refine rw_t 5 rfl rfl rfl (n_alloc (n := 11) rfl ?_)
  refine rw_u rfl rfl (n_store_whole rfl rfl rfl rfl rfl rfl ?_)
  refine rw_nil ?_
  refine w_env [(2, .ptr 9 0 0), (3, .ptr 10 0 0), (5, .ptr 11 0 0)] ⟨⟨_, rfl, rfl⟩, ⟨_, rfl, rfl⟩, ⟨_, rfl, rfl⟩, trivial⟩ ?_
  refine w_seqB 4 (((((((c.N > 0 ∧ ((p.Res.length : Nat) : Int) = ((c.Head.length : Nat) : Int)) ∧ ((p.Ex.length : Nat) : Int) = c.N) ∧ ((p.H.length : Nat) : Int) = c.N) ∧ heightsP c p) ∧ pairsP c p.Res) ∧ excessP c p)) ?_ ?_
  · -- region 2
    refine w_draw mixed [0, 1, 3, 7, 15, 31, 63, 15, 143, 511, 1023, 2047, 4095, 8191, 16383, 4095, 36863, 131071, 262143, 524287, 1048575, 2097151, 4194303, 1048575, 9437183] [33554431, 67108863, 134217727, 268435455, 536870911, 1073741823, 2147483647, 4294967295, 8589934591, 17179869183, 34359738367, 68719476735, 137438953471, 274877906943, 549755813887] (by kernel_rfl) (by kernel_rfl) rfl rfl rfl (hle hρ rfl) ?_
    refine ra_q (j := 0) rfl rfl rfl rfl (do_fieldaddr rfl ⟨rfl, rfl⟩) (by rfl) ?_
    refine ra_q (j := 1) rfl rfl rfl rfl (do_load_box rfl rfl rfl ⟨rfl, rfl⟩) (by rfl) ?_
    refine ra_q (j := 2) rfl rfl rfl rfl (do_bin rfl rfl rfl ⟨rfl, rfl⟩) (by rfl) ?_
    refine ra_q (j := 3) rfl rfl rfl rfl (do_move rfl ⟨rfl, rfl⟩) (by rfl) ?_
    refine ra_case 12 rfl (fun g1 => ?_) (fun g1 => ?_)
    · have kg1 := g1
      try simp only [bs] at kg1
      refine ra_gt (j := 4) rfl rfl rfl rfl g1 rfl rfl rfl (do_fieldaddr rfl ⟨rfl, rfl⟩) (by rfl) ?_
      refine ra_gt (j := 5) rfl rfl rfl rfl g1 rfl rfl rfl (do_load_box rfl rfl rfl ⟨rfl, rfl⟩) (by rfl) ?_
      refine ra_gt (j := 6) rfl rfl rfl rfl g1 rfl rfl rfl (do_len rfl ⟨rfl, rfl⟩) (by rfl) ?_
      refine ra_gt (j := 7) rfl rfl rfl rfl g1 rfl rfl rfl (n_load_boxagg [_, _, _, _, _, _, _, _, _] rfl rfl (Nat.le_of_ble_eq_true rfl) rfl ⟨rfl, rfl⟩) (by rfl) ?_
      refine ra_gt (j := 8) rfl rfl rfl rfl g1 rfl rfl rfl (do_callR (X' := .val (.int .i64 ((c.Head.length : Nat) : Int))) rfl rfl (t_Len (c := c)) [0, 1, 2, 3, 4, 5] ⟨.inr ⟨_, rfl, srv⟩, .inr ⟨_, rfl, srv⟩, .inr ⟨_, rfl, srv⟩, .inr ⟨_, rfl, srv⟩, .inr ⟨_, rfl, srv⟩, .inr ⟨_, rfl, srv⟩, trivial⟩ rfl rfl rfl ⟨rfl, rfl⟩) (by rfl) ?_
      refine ra_gt (j := 9) rfl rfl rfl rfl g1 rfl rfl rfl (do_bin rfl rfl rfl ⟨rfl, rfl⟩) (by rfl) ?_
      refine ra_q (j := 10) rfl rfl rfl rfl (do_pick_t rfl g1 rfl ⟨rfl, rfl⟩) (by rfl) ?_
      refine ra_q (j := 11) rfl rfl rfl rfl (do_move rfl ⟨rfl, rfl⟩) (by rfl) ?_
      refine ra_case 20 rfl (fun g2 => ?_) (fun g2 => ?_)
      · have kg2 := g2
        try simp only [bs] at kg2
        refine ra_gt (j := 12) rfl rfl rfl rfl g2 rfl rfl rfl (do_fieldaddr rfl ⟨rfl, rfl⟩) (by rfl) ?_
        refine ra_gt (j := 13) rfl rfl rfl rfl g2 rfl rfl rfl (do_load_box rfl rfl rfl ⟨rfl, rfl⟩) (by rfl) ?_
        refine ra_gt (j := 14) rfl rfl rfl rfl g2 rfl rfl rfl (do_len rfl ⟨rfl, rfl⟩) (by rfl) ?_
        refine ra_gt (j := 15) rfl rfl rfl rfl g2 rfl rfl rfl (do_fieldaddr rfl ⟨rfl, rfl⟩) (by rfl) ?_
        refine ra_gt (j := 16) rfl rfl rfl rfl g2 rfl rfl rfl (do_load_box rfl rfl rfl ⟨rfl, rfl⟩) (by rfl) ?_
        refine ra_gt (j := 17) rfl rfl rfl rfl g2 rfl rfl rfl (do_bin rfl rfl rfl ⟨rfl, rfl⟩) (by rfl) ?_
        refine ra_q (j := 18) rfl rfl rfl rfl (do_pick_t rfl g2 rfl ⟨rfl, rfl⟩) (by rfl) ?_
        refine ra_q (j := 19) rfl rfl rfl rfl (do_move rfl ⟨rfl, rfl⟩) (by rfl) ?_
        refine ra_case 28 rfl (fun g3 => ?_) (fun g3 => ?_)
        · have kg3 := g3
          try simp only [bs] at kg3
          refine ra_gt (j := 20) rfl rfl rfl rfl g3 rfl rfl rfl (do_fieldaddr rfl ⟨rfl, rfl⟩) (by rfl) ?_
          refine ra_gt (j := 21) rfl rfl rfl rfl g3 rfl rfl rfl (do_load_box rfl rfl rfl ⟨rfl, rfl⟩) (by rfl) ?_
          refine ra_gt (j := 22) rfl rfl rfl rfl g3 rfl rfl rfl (do_len rfl ⟨rfl, rfl⟩) (by rfl) ?_
          refine ra_gt (j := 23) rfl rfl rfl rfl g3 rfl rfl rfl (do_fieldaddr rfl ⟨rfl, rfl⟩) (by rfl) ?_
          refine ra_gt (j := 24) rfl rfl rfl rfl g3 rfl rfl rfl (do_load_box rfl rfl rfl ⟨rfl, rfl⟩) (by rfl) ?_
          refine n_done ?_
          refine rw_gt 34 19 28 true rfl rfl rfl rfl rfl rfl g3 (do_bin rfl rfl rfl ?_)
          refine rw_t 35 rfl rfl rfl (do_pick_t rfl g3 rfl ?_)
          refine rw_t 36 rfl rfl rfl (do_move rfl ?_)
          refine rw_case 36 rfl (fun g4 => ?_) (fun g4 => ?_)
          · have kg4 := g4
            try simp only [bs] at kg4
            refine rw_gt 37 27 36 true rfl rfl rfl rfl rfl rfl g4 (n_load_boxagg [_, _, _, _, _, _, _, _, _, _, _, _] rfl rfl (Nat.le_of_ble_eq_true rfl) rfl ?_)
            refine rw_gt 38 27 36 true rfl rfl rfl rfl rfl rfl g4 (do_callR (X' := .val (.bool (decide (heightsP c p)))) rfl rfl (t_heights (c := c) (p := p) (h.toCsrOK) (⟨by omega, by omega, by omega⟩)) [0, 1, 2, 3, 4, 5, 6, 7, 8] ⟨.inr ⟨_, rfl, srv⟩, .inr ⟨_, rfl, srv⟩, .inr ⟨_, rfl, srv⟩, .inr ⟨_, rfl, srv⟩, .inr ⟨_, rfl, srv⟩, .inr ⟨_, rfl, srv⟩, .inr ⟨_, rfl, srv⟩, .inr ⟨_, rfl, srv⟩, .inr ⟨_, rfl, srv⟩, trivial⟩ rfl rfl rfl ?_)
            refine rw_t 39 rfl rfl rfl (do_pick_t rfl g4 rfl ?_)
            refine rw_t 40 rfl rfl rfl (do_move rfl ?_)
            refine rw_case 40 rfl (fun g5 => ?_) (fun g5 => ?_)
            · have kg5 := g5
              try simp only [bs] at kg5
              refine rw_gt 41 31 40 true rfl rfl rfl rfl rfl rfl g5 (n_load_boxagg [_, _, _, _, _, _, _, _, _, _, _, _] rfl rfl (Nat.le_of_ble_eq_true rfl) rfl ?_)
              refine rw_gt 42 31 40 true rfl rfl rfl rfl rfl rfl g5 (do_callR (X' := .val (.bool (decide (pairsP c p.Res)))) rfl rfl (t_pairs (c := c) (p := p) (h.toCsrOK) (⟨by omega, by omega, by omega⟩)) [0, 1, 2, 3, 4, 5, 6, 7, 8] ⟨.inr ⟨_, rfl, srv⟩, .inr ⟨_, rfl, srv⟩, .inr ⟨_, rfl, srv⟩, .inr ⟨_, rfl, srv⟩, .inr ⟨_, rfl, srv⟩, .inr ⟨_, rfl, srv⟩, .inr ⟨_, rfl, srv⟩, .inr ⟨_, rfl, srv⟩, .inr ⟨_, rfl, srv⟩, trivial⟩ rfl rfl rfl ?_)
              refine rw_t 43 rfl rfl rfl (do_pick_t rfl g5 rfl ?_)
              refine rw_t 44 rfl rfl rfl (do_move rfl ?_)
              refine rw_case 44 rfl (fun g6 => ?_) (fun g6 => ?_)
              · have kg6 := g6
                try simp only [bs] at kg6
                refine rw_gt 45 35 44 true rfl rfl rfl rfl rfl rfl g6 (n_load_boxagg [_, _, _, _, _, _, _, _, _, _, _, _] rfl rfl (Nat.le_of_ble_eq_true rfl) rfl ?_)
                refine rw_gt 46 35 44 true rfl rfl rfl rfl rfl rfl g6 (do_callR (X' := .val (.bool (decide (excessP c p)))) rfl rfl (t_excess (c := c) (p := p) (h) (⟨by omega, by omega, by omega⟩) (by assumption) (hi)) [0, 1, 2, 3, 4, 5, 6, 7, 8] ⟨.inr ⟨_, rfl, srv⟩, .inr ⟨_, rfl, srv⟩, .inr ⟨_, rfl, srv⟩, .inr ⟨_, rfl, srv⟩, .inr ⟨_, rfl, srv⟩, .inr ⟨_, rfl, srv⟩, .inr ⟨_, rfl, srv⟩, .inr ⟨_, rfl, srv⟩, .inr ⟨_, rfl, srv⟩, trivial⟩ rfl rfl rfl ?_)
                refine rw_t 47 rfl rfl rfl (do_pick_t rfl g6 rfl ?_)
                refine rw_t 4 rfl rfl rfl (do_assign rfl ?_)
                refine rw_nil ?_
                refine ⟨rfl, ⟨_, rfl, by first | (simp; done) | (simp only [bs]; omega) | (simp [*]; done) | (simp; omega) | (constructor <;> intro h <;> simp_all <;> omega)⟩, ?_⟩
                repeat (refine ⟨⟨_, rfl, rfl⟩, ?_⟩)
                exact trivial
              · have kg6 := g6
                try simp only [bs] at kg6
                refine rw_gf 45 35 44 true rfl rfl rfl rfl rfl rfl (by rw [g6]; decide) ?_
                refine rw_gf 46 35 44 true rfl rfl rfl rfl rfl rfl (by rw [g6]; decide) ?_
                refine rw_t 47 rfl rfl rfl (do_pick_f rfl g6 rfl ?_)
                refine rw_t 4 rfl rfl rfl (do_assign rfl ?_)
                refine rw_nil ?_
                refine ⟨rfl, ⟨_, rfl, by first | (simp; done) | (simp only [bs]; omega) | (simp [*]; done) | (simp; omega) | (constructor <;> intro h <;> simp_all <;> omega)⟩, ?_⟩
                repeat (refine ⟨⟨_, rfl, rfl⟩, ?_⟩)
                exact trivial
            · have kg5 := g5
              try simp only [bs] at kg5
              refine rw_gf 41 31 40 true rfl rfl rfl rfl rfl rfl (by rw [g5]; decide) ?_
              refine rw_gf 42 31 40 true rfl rfl rfl rfl rfl rfl (by rw [g5]; decide) ?_
              refine rw_t 43 rfl rfl rfl (do_pick_f rfl g5 rfl ?_)
              refine rw_t 44 rfl rfl rfl (do_move rfl ?_)
              refine rw_gf 45 35 44 true rfl rfl rfl rfl rfl rfl (by decide) ?_
              refine rw_gf 46 35 44 true rfl rfl rfl rfl rfl rfl (by decide) ?_
              refine rw_t 47 rfl rfl rfl (do_pick_f rfl rfl rfl ?_)
              refine rw_t 4 rfl rfl rfl (do_assign rfl ?_)
              refine rw_nil ?_
              refine ⟨rfl, ⟨_, rfl, by first | (simp; done) | (simp only [bs]; omega) | (simp [*]; done) | (simp; omega) | (constructor <;> intro h <;> simp_all <;> omega)⟩, ?_⟩
              repeat (refine ⟨⟨_, rfl, rfl⟩, ?_⟩)
              exact trivial
          · have kg4 := g4
            try simp only [bs] at kg4
            refine rw_gf 37 27 36 true rfl rfl rfl rfl rfl rfl (by rw [g4]; decide) ?_
            refine rw_gf 38 27 36 true rfl rfl rfl rfl rfl rfl (by rw [g4]; decide) ?_
            refine rw_t 39 rfl rfl rfl (do_pick_f rfl g4 rfl ?_)
            refine rw_t 40 rfl rfl rfl (do_move rfl ?_)
            refine rw_gf 41 31 40 true rfl rfl rfl rfl rfl rfl (by decide) ?_
            refine rw_gf 42 31 40 true rfl rfl rfl rfl rfl rfl (by decide) ?_
            refine rw_t 43 rfl rfl rfl (do_pick_f rfl rfl rfl ?_)
            refine rw_t 44 rfl rfl rfl (do_move rfl ?_)
            refine rw_gf 45 35 44 true rfl rfl rfl rfl rfl rfl (by decide) ?_
            refine rw_gf 46 35 44 true rfl rfl rfl rfl rfl rfl (by decide) ?_
            refine rw_t 47 rfl rfl rfl (do_pick_f rfl rfl rfl ?_)
            refine rw_t 4 rfl rfl rfl (do_assign rfl ?_)
            refine rw_nil ?_
            refine ⟨rfl, ⟨_, rfl, by first | (simp; done) | (simp only [bs]; omega) | (simp [*]; done) | (simp; omega) | (constructor <;> intro h <;> simp_all <;> omega)⟩, ?_⟩
            repeat (refine ⟨⟨_, rfl, rfl⟩, ?_⟩)
            exact trivial
        · have kg3 := g3
          try simp only [bs] at kg3
          refine ra_gf (j := 20) rfl rfl rfl rfl (by rw [g3]; decide) rfl rfl rfl ?_
          refine ra_gf (j := 21) rfl rfl rfl rfl (by rw [g3]; decide) rfl rfl rfl ?_
          refine ra_gf (j := 22) rfl rfl rfl rfl (by rw [g3]; decide) rfl rfl rfl ?_
          refine ra_gf (j := 23) rfl rfl rfl rfl (by rw [g3]; decide) rfl rfl rfl ?_
          refine ra_gf (j := 24) rfl rfl rfl rfl (by rw [g3]; decide) rfl rfl rfl ?_
          refine n_done ?_
          refine rw_gf 34 19 28 true rfl rfl rfl rfl rfl rfl (by rw [g3]; decide) ?_
          refine rw_t 35 rfl rfl rfl (do_pick_f rfl g3 rfl ?_)
          refine rw_t 36 rfl rfl rfl (do_move rfl ?_)
          refine rw_gf 37 27 36 true rfl rfl rfl rfl rfl rfl (by decide) ?_
          refine rw_gf 38 27 36 true rfl rfl rfl rfl rfl rfl (by decide) ?_
          refine rw_t 39 rfl rfl rfl (do_pick_f rfl rfl rfl ?_)
          refine rw_t 40 rfl rfl rfl (do_move rfl ?_)
          refine rw_gf 41 31 40 true rfl rfl rfl rfl rfl rfl (by decide) ?_
          refine rw_gf 42 31 40 true rfl rfl rfl rfl rfl rfl (by decide) ?_
          refine rw_t 43 rfl rfl rfl (do_pick_f rfl rfl rfl ?_)
          refine rw_t 44 rfl rfl rfl (do_move rfl ?_)
          refine rw_gf 45 35 44 true rfl rfl rfl rfl rfl rfl (by decide) ?_
          refine rw_gf 46 35 44 true rfl rfl rfl rfl rfl rfl (by decide) ?_
          refine rw_t 47 rfl rfl rfl (do_pick_f rfl rfl rfl ?_)
          refine rw_t 4 rfl rfl rfl (do_assign rfl ?_)
          refine rw_nil ?_
          refine ⟨rfl, ⟨_, rfl, by first | (simp; done) | (simp only [bs]; omega) | (simp [*]; done) | (simp; omega) | (constructor <;> intro h <;> simp_all <;> omega)⟩, ?_⟩
          repeat (refine ⟨⟨_, rfl, rfl⟩, ?_⟩)
          exact trivial
      · have kg2 := g2
        try simp only [bs] at kg2
        refine ra_gf (j := 12) rfl rfl rfl rfl (by rw [g2]; decide) rfl rfl rfl ?_
        refine ra_gf (j := 13) rfl rfl rfl rfl (by rw [g2]; decide) rfl rfl rfl ?_
        refine ra_gf (j := 14) rfl rfl rfl rfl (by rw [g2]; decide) rfl rfl rfl ?_
        refine ra_gf (j := 15) rfl rfl rfl rfl (by rw [g2]; decide) rfl rfl rfl ?_
        refine ra_gf (j := 16) rfl rfl rfl rfl (by rw [g2]; decide) rfl rfl rfl ?_
        refine ra_gf (j := 17) rfl rfl rfl rfl (by rw [g2]; decide) rfl rfl rfl ?_
        refine ra_q (j := 18) rfl rfl rfl rfl (do_pick_f rfl g2 rfl ⟨rfl, rfl⟩) (by rfl) ?_
        refine ra_q (j := 19) rfl rfl rfl rfl (do_move rfl ⟨rfl, rfl⟩) (by rfl) ?_
        refine ra_gf (j := 20) rfl rfl rfl rfl (by decide) rfl rfl rfl ?_
        refine ra_gf (j := 21) rfl rfl rfl rfl (by decide) rfl rfl rfl ?_
        refine ra_gf (j := 22) rfl rfl rfl rfl (by decide) rfl rfl rfl ?_
        refine ra_gf (j := 23) rfl rfl rfl rfl (by decide) rfl rfl rfl ?_
        refine ra_gf (j := 24) rfl rfl rfl rfl (by decide) rfl rfl rfl ?_
        refine n_done ?_
        refine rw_gf 34 19 28 true rfl rfl rfl rfl rfl rfl (by decide) ?_
        refine rw_t 35 rfl rfl rfl (do_pick_f rfl rfl rfl ?_)
        refine rw_t 36 rfl rfl rfl (do_move rfl ?_)
        refine rw_gf 37 27 36 true rfl rfl rfl rfl rfl rfl (by decide) ?_
        refine rw_gf 38 27 36 true rfl rfl rfl rfl rfl rfl (by decide) ?_
        refine rw_t 39 rfl rfl rfl (do_pick_f rfl rfl rfl ?_)
        refine rw_t 40 rfl rfl rfl (do_move rfl ?_)
        refine rw_gf 41 31 40 true rfl rfl rfl rfl rfl rfl (by decide) ?_
        refine rw_gf 42 31 40 true rfl rfl rfl rfl rfl rfl (by decide) ?_
        refine rw_t 43 rfl rfl rfl (do_pick_f rfl rfl rfl ?_)
        refine rw_t 44 rfl rfl rfl (do_move rfl ?_)
        refine rw_gf 45 35 44 true rfl rfl rfl rfl rfl rfl (by decide) ?_
        refine rw_gf 46 35 44 true rfl rfl rfl rfl rfl rfl (by decide) ?_
        refine rw_t 47 rfl rfl rfl (do_pick_f rfl rfl rfl ?_)
        refine rw_t 4 rfl rfl rfl (do_assign rfl ?_)
        refine rw_nil ?_
        refine ⟨rfl, ⟨_, rfl, by first | (simp; done) | (simp only [bs]; omega) | (simp [*]; done) | (simp; omega) | (constructor <;> intro h <;> simp_all <;> omega)⟩, ?_⟩
        repeat (refine ⟨⟨_, rfl, rfl⟩, ?_⟩)
        exact trivial
    · have kg1 := g1
      try simp only [bs] at kg1
      refine ra_gf (j := 4) rfl rfl rfl rfl (by rw [g1]; decide) rfl rfl rfl ?_
      refine ra_gf (j := 5) rfl rfl rfl rfl (by rw [g1]; decide) rfl rfl rfl ?_
      refine ra_gf (j := 6) rfl rfl rfl rfl (by rw [g1]; decide) rfl rfl rfl ?_
      refine ra_gf (j := 7) rfl rfl rfl rfl (by rw [g1]; decide) rfl rfl rfl ?_
      refine ra_gf (j := 8) rfl rfl rfl rfl (by rw [g1]; decide) rfl rfl rfl ?_
      refine ra_gf (j := 9) rfl rfl rfl rfl (by rw [g1]; decide) rfl rfl rfl ?_
      refine ra_q (j := 10) rfl rfl rfl rfl (do_pick_f rfl g1 rfl ⟨rfl, rfl⟩) (by rfl) ?_
      refine ra_q (j := 11) rfl rfl rfl rfl (do_move rfl ⟨rfl, rfl⟩) (by rfl) ?_
      refine ra_gf (j := 12) rfl rfl rfl rfl (by decide) rfl rfl rfl ?_
      refine ra_gf (j := 13) rfl rfl rfl rfl (by decide) rfl rfl rfl ?_
      refine ra_gf (j := 14) rfl rfl rfl rfl (by decide) rfl rfl rfl ?_
      refine ra_gf (j := 15) rfl rfl rfl rfl (by decide) rfl rfl rfl ?_
      refine ra_gf (j := 16) rfl rfl rfl rfl (by decide) rfl rfl rfl ?_
      refine ra_gf (j := 17) rfl rfl rfl rfl (by decide) rfl rfl rfl ?_
      refine ra_q (j := 18) rfl rfl rfl rfl (do_pick_f rfl rfl rfl ⟨rfl, rfl⟩) (by rfl) ?_
      refine ra_q (j := 19) rfl rfl rfl rfl (do_move rfl ⟨rfl, rfl⟩) (by rfl) ?_
      refine ra_gf (j := 20) rfl rfl rfl rfl (by decide) rfl rfl rfl ?_
      refine ra_gf (j := 21) rfl rfl rfl rfl (by decide) rfl rfl rfl ?_
      refine ra_gf (j := 22) rfl rfl rfl rfl (by decide) rfl rfl rfl ?_
      refine ra_gf (j := 23) rfl rfl rfl rfl (by decide) rfl rfl rfl ?_
      refine ra_gf (j := 24) rfl rfl rfl rfl (by decide) rfl rfl rfl ?_
      refine n_done ?_
      refine rw_gf 34 19 28 true rfl rfl rfl rfl rfl rfl (by decide) ?_
      refine rw_t 35 rfl rfl rfl (do_pick_f rfl rfl rfl ?_)
      refine rw_t 36 rfl rfl rfl (do_move rfl ?_)
      refine rw_gf 37 27 36 true rfl rfl rfl rfl rfl rfl (by decide) ?_
      refine rw_gf 38 27 36 true rfl rfl rfl rfl rfl rfl (by decide) ?_
      refine rw_t 39 rfl rfl rfl (do_pick_f rfl rfl rfl ?_)
      refine rw_t 40 rfl rfl rfl (do_move rfl ?_)
      refine rw_gf 41 31 40 true rfl rfl rfl rfl rfl rfl (by decide) ?_
      refine rw_gf 42 31 40 true rfl rfl rfl rfl rfl rfl (by decide) ?_
      refine rw_t 43 rfl rfl rfl (do_pick_f rfl rfl rfl ?_)
      refine rw_t 44 rfl rfl rfl (do_move rfl ?_)
      refine rw_gf 45 35 44 true rfl rfl rfl rfl rfl rfl (by decide) ?_
      refine rw_gf 46 35 44 true rfl rfl rfl rfl rfl rfl (by decide) ?_
      refine rw_t 47 rfl rfl rfl (do_pick_f rfl rfl rfl ?_)
      refine rw_t 4 rfl rfl rfl (do_assign rfl ?_)
      refine rw_nil ?_
      refine ⟨rfl, ⟨_, rfl, by first | (simp; done) | (simp only [bs]; omega) | (simp [*]; done) | (simp; omega) | (constructor <;> intro h <;> simp_all <;> omega)⟩, ?_⟩
      repeat (refine ⟨⟨_, rfl, rfl⟩, ?_⟩)
      exact trivial
  intro b1 hb1
  refine w_ret ?_
  exact ret_eq (.inl rfl) (.cons (res_tmp rfl) .nil) [0, 1, 2, 3, 4, 5, 6, 7, 8] (Eq.symm (bool_congr (dec_of hb1 (right_iff hn.1)))) ⟨.inr ⟨_, rfl, .inl rfl⟩, .inr ⟨_, rfl, .inl rfl⟩, .inr ⟨_, rfl, .inl rfl⟩, .inr ⟨_, rfl, .inl rfl⟩, .inr ⟨_, rfl, .inl rfl⟩, .inr ⟨_, rfl, .inl rfl⟩, .inr ⟨_, rfl, .inl rfl⟩, .inr ⟨_, rfl, .inl rfl⟩, .inr ⟨_, rfl, .inl rfl⟩, trivial⟩ rfl (pre_ok rfl)
-- f11 "acequia/acequiaref09.Right"
set_option maxHeartbeats 8000000 in
set_option synthInstance.maxHeartbeats 400000 in
set_option synthInstance.maxSize 2000 in
theorem t_rRight (c : Csr) (p : Pre) (h : CsrT c) : Tri Try.prog 11 [.agg [.val (.int .i64 c.N), .val (.int .i64 c.S), .val (.int .i64 c.T), .slc 0 0 c.First.length none, .slc 1 0 c.Head.length none, .slc 2 0 c.Rev.length none, .slc 3 0 c.Cap.length none, .slc 4 0 c.Arc.length none, .slc 5 0 c.Back.length none], .agg [.slc 6 0 p.Res.length none, .slc 7 0 p.Ex.length none, .slc 8 0 p.H.length none]] [SO.ints false .i64 c.First, SO.ints false .i64 c.Head, SO.ints false .i64 c.Rev, SO.ints false .i64 c.Cap, SO.ints false .i64 c.Arc, SO.bools false c.Back, SO.ints false .i64 p.Res, SO.ints false .i64 p.Ex, SO.ints false .i64 p.H] (fun s H => s = .val (.bool (decide (rightP c p))) ∧ H = [SO.ints false .i64 c.First, SO.ints false .i64 c.Head, SO.ints false .i64 c.Rev, SO.ints false .i64 c.Cap, SO.ints false .i64 c.Arc, SO.bools false c.Back, SO.ints false .i64 p.Res, SO.ints false .i64 p.Ex, SO.ints false .i64 p.H]) := by
  refine tri_of_w (fn := Try.f11) Try.func11 rfl (by simp [Try.f11]) ?_
  intro ρ w hρ
  refine w_seq ?_
  have hn := h.n
  have hf := h.first
  have hhd := h.head
  have hrl := h.rev
  have hcl := h.cap
  have hal := h.arc
  have hbl := h.back
  have hS := h.s
  have hT := h.t
  -- region 0
  refine w_region ?_
  refine rw_t 2 rfl rfl rfl (n_box_agg (n := 9) rfl rfl ?_)
  refine rw_t 3 rfl rfl rfl (n_box_agg (n := 10) rfl rfl ?_)
  refine rw_t 4 rfl rfl rfl (do_assign rfl ?_)
  refine rw_nil ?_
  refine w_seq ?_
  refine w_seqB 36 ((((((p.Res.length : Nat) : Int) ≠ ((c.Head.length : Nat) : Int) ∨ ((p.Ex.length : Nat) : Int) ≠ c.N) ∨ ((p.H.length : Nat) : Int) ≠ c.N) ∨ c.N = 0)) ?_ ?_
  · -- region 1
    refine w_region ?_
    refine rw_t 9 rfl rfl rfl (do_fieldaddr rfl ?_)
    refine rw_t 10 rfl rfl rfl (do_load_box rfl rfl rfl ?_)
    refine rw_t 11 rfl rfl rfl (do_len rfl ?_)
    refine rw_t 12 rfl rfl rfl (do_fieldaddr rfl ?_)
    refine rw_t 13 rfl rfl rfl (do_load_box rfl rfl rfl ?_)
    refine rw_t 14 rfl rfl rfl (do_len rfl ?_)
    refine rw_t 15 rfl rfl rfl (do_bin rfl rfl rfl ?_)
    refine rw_t 16 rfl rfl rfl (do_move rfl ?_)
    refine rw_case 16 rfl (fun g1 => ?_) (fun g1 => ?_)
    · have kg1 := g1
      try simp only [bs] at kg1
      refine rw_gf 17 7 16 false rfl rfl rfl rfl rfl rfl (by rw [g1]; decide) ?_
      refine rw_gf 18 7 16 false rfl rfl rfl rfl rfl rfl (by rw [g1]; decide) ?_
      refine rw_gf 19 7 16 false rfl rfl rfl rfl rfl rfl (by rw [g1]; decide) ?_
      refine rw_gf 20 7 16 false rfl rfl rfl rfl rfl rfl (by rw [g1]; decide) ?_
      refine rw_gf 21 7 16 false rfl rfl rfl rfl rfl rfl (by rw [g1]; decide) ?_
      refine rw_gf 22 7 16 false rfl rfl rfl rfl rfl rfl (by rw [g1]; decide) ?_
      refine rw_t 23 rfl rfl rfl (do_pick_t rfl g1 rfl ?_)
      refine rw_t 24 rfl rfl rfl (do_move rfl ?_)
      refine rw_gf 25 15 24 false rfl rfl rfl rfl rfl rfl (by decide) ?_
      refine rw_gf 26 15 24 false rfl rfl rfl rfl rfl rfl (by decide) ?_
      refine rw_gf 27 15 24 false rfl rfl rfl rfl rfl rfl (by decide) ?_
      refine rw_gf 28 15 24 false rfl rfl rfl rfl rfl rfl (by decide) ?_
      refine rw_gf 29 15 24 false rfl rfl rfl rfl rfl rfl (by decide) ?_
      refine rw_gf 30 15 24 false rfl rfl rfl rfl rfl rfl (by decide) ?_
      refine rw_t 31 rfl rfl rfl (do_pick_t rfl rfl rfl ?_)
      refine rw_t 32 rfl rfl rfl (do_move rfl ?_)
      refine rw_gf 33 23 32 false rfl rfl rfl rfl rfl rfl (by decide) ?_
      refine rw_gf 34 23 32 false rfl rfl rfl rfl rfl rfl (by decide) ?_
      refine rw_gf 35 23 32 false rfl rfl rfl rfl rfl rfl (by decide) ?_
      refine rw_t 36 rfl rfl rfl (do_pick_t rfl rfl rfl ?_)
      refine rw_nil ?_
      refine ⟨rfl, ⟨_, rfl, by first | (simp; done) | (simp only [bs]; omega) | (simp [*]; done) | (simp; omega) | (constructor <;> intro h <;> simp_all <;> omega)⟩, ?_⟩
      repeat (refine ⟨⟨_, rfl, rfl⟩, ?_⟩)
      exact trivial
    · have kg1 := g1
      try simp only [bs] at kg1
      refine rw_gt 17 7 16 false rfl rfl rfl rfl rfl rfl g1 (do_fieldaddr rfl ?_)
      refine rw_gt 18 7 16 false rfl rfl rfl rfl rfl rfl g1 (do_load_box rfl rfl rfl ?_)
      refine rw_gt 19 7 16 false rfl rfl rfl rfl rfl rfl g1 (do_len rfl ?_)
      refine rw_gt 20 7 16 false rfl rfl rfl rfl rfl rfl g1 (do_fieldaddr rfl ?_)
      refine rw_gt 21 7 16 false rfl rfl rfl rfl rfl rfl g1 (do_load_box rfl rfl rfl ?_)
      refine rw_gt 22 7 16 false rfl rfl rfl rfl rfl rfl g1 (do_bin rfl rfl rfl ?_)
      refine rw_t 23 rfl rfl rfl (do_pick_f rfl g1 rfl ?_)
      refine rw_t 24 rfl rfl rfl (do_move rfl ?_)
      refine rw_case 24 rfl (fun g2 => ?_) (fun g2 => ?_)
      · have kg2 := g2
        try simp only [bs] at kg2
        refine rw_gf 25 15 24 false rfl rfl rfl rfl rfl rfl (by rw [g2]; decide) ?_
        refine rw_gf 26 15 24 false rfl rfl rfl rfl rfl rfl (by rw [g2]; decide) ?_
        refine rw_gf 27 15 24 false rfl rfl rfl rfl rfl rfl (by rw [g2]; decide) ?_
        refine rw_gf 28 15 24 false rfl rfl rfl rfl rfl rfl (by rw [g2]; decide) ?_
        refine rw_gf 29 15 24 false rfl rfl rfl rfl rfl rfl (by rw [g2]; decide) ?_
        refine rw_gf 30 15 24 false rfl rfl rfl rfl rfl rfl (by rw [g2]; decide) ?_
        refine rw_t 31 rfl rfl rfl (do_pick_t rfl g2 rfl ?_)
        refine rw_t 32 rfl rfl rfl (do_move rfl ?_)
        refine rw_gf 33 23 32 false rfl rfl rfl rfl rfl rfl (by decide) ?_
        refine rw_gf 34 23 32 false rfl rfl rfl rfl rfl rfl (by decide) ?_
        refine rw_gf 35 23 32 false rfl rfl rfl rfl rfl rfl (by decide) ?_
        refine rw_t 36 rfl rfl rfl (do_pick_t rfl rfl rfl ?_)
        refine rw_nil ?_
        refine ⟨rfl, ⟨_, rfl, by first | (simp; done) | (simp only [bs]; omega) | (simp [*]; done) | (simp; omega) | (constructor <;> intro h <;> simp_all <;> omega)⟩, ?_⟩
        repeat (refine ⟨⟨_, rfl, rfl⟩, ?_⟩)
        exact trivial
      · have kg2 := g2
        try simp only [bs] at kg2
        refine rw_gt 25 15 24 false rfl rfl rfl rfl rfl rfl g2 (do_fieldaddr rfl ?_)
        refine rw_gt 26 15 24 false rfl rfl rfl rfl rfl rfl g2 (do_load_box rfl rfl rfl ?_)
        refine rw_gt 27 15 24 false rfl rfl rfl rfl rfl rfl g2 (do_len rfl ?_)
        refine rw_gt 28 15 24 false rfl rfl rfl rfl rfl rfl g2 (do_fieldaddr rfl ?_)
        refine rw_gt 29 15 24 false rfl rfl rfl rfl rfl rfl g2 (do_load_box rfl rfl rfl ?_)
        refine rw_gt 30 15 24 false rfl rfl rfl rfl rfl rfl g2 (do_bin rfl rfl rfl ?_)
        refine rw_t 31 rfl rfl rfl (do_pick_f rfl g2 rfl ?_)
        refine rw_t 32 rfl rfl rfl (do_move rfl ?_)
        refine rw_case 32 rfl (fun g3 => ?_) (fun g3 => ?_)
        · have kg3 := g3
          try simp only [bs] at kg3
          refine rw_gf 33 23 32 false rfl rfl rfl rfl rfl rfl (by rw [g3]; decide) ?_
          refine rw_gf 34 23 32 false rfl rfl rfl rfl rfl rfl (by rw [g3]; decide) ?_
          refine rw_gf 35 23 32 false rfl rfl rfl rfl rfl rfl (by rw [g3]; decide) ?_
          refine rw_t 36 rfl rfl rfl (do_pick_t rfl g3 rfl ?_)
          refine rw_nil ?_
          refine ⟨rfl, ⟨_, rfl, by first | (simp; done) | (simp only [bs]; omega) | (simp [*]; done) | (simp; omega) | (constructor <;> intro h <;> simp_all <;> omega)⟩, ?_⟩
          repeat (refine ⟨⟨_, rfl, rfl⟩, ?_⟩)
          exact trivial
        · have kg3 := g3
          try simp only [bs] at kg3
          refine rw_gt 33 23 32 false rfl rfl rfl rfl rfl rfl g3 (do_fieldaddr rfl ?_)
          refine rw_gt 34 23 32 false rfl rfl rfl rfl rfl rfl g3 (do_load_box rfl rfl rfl ?_)
          refine rw_gt 35 23 32 false rfl rfl rfl rfl rfl rfl g3 (do_bin rfl rfl rfl ?_)
          refine rw_t 36 rfl rfl rfl (do_pick_f rfl g3 rfl ?_)
          refine rw_nil ?_
          refine ⟨rfl, ⟨_, rfl, by first | (simp; done) | (simp only [bs]; omega) | (simp [*]; done) | (simp; omega) | (constructor <;> intro h <;> simp_all <;> omega)⟩, ?_⟩
          repeat (refine ⟨⟨_, rfl, rfl⟩, ?_⟩)
          exact trivial
  intro b1 hb1
  refine w_condP hb1 rfl (fun hc1 => ?_) (fun hc1 => ?_)
  · refine w_seq ?_
    -- region 2
    refine w_region ?_
    refine rw_t 4 rfl rfl rfl (do_assign rfl ?_)
    refine rw_nil ?_
    refine w_ret ?_
    exact ret_eq (.inl rfl) (.cons (res_tmp rfl) .nil) [0, 1, 2, 3, 4, 5, 6, 7, 8] (Eq.symm (bool_congr (decide_eq_false (fun q => by have := q.1; unfold lenP at this; omega)))) ⟨.inr ⟨_, rfl, .inl rfl⟩, .inr ⟨_, rfl, .inl rfl⟩, .inr ⟨_, rfl, .inl rfl⟩, .inr ⟨_, rfl, .inl rfl⟩, .inr ⟨_, rfl, .inl rfl⟩, .inr ⟨_, rfl, .inl rfl⟩, .inr ⟨_, rfl, .inl rfl⟩, .inr ⟨_, rfl, .inl rfl⟩, .inr ⟨_, rfl, .inl rfl⟩, trivial⟩ rfl (pre_ok rfl)
  refine w_skip ?_
  refine w_seq ?_
  refine w_seq ?_
  -- region 3
  refine w_region ?_
  refine rw_t 5 rfl rfl rfl (do_assign rfl ?_)
  refine rw_nil ?_
  refine w_block ?_
  refine w_loopS (ι := Nat) (fun i => [(2, .ptr 9 0 0), (3, .ptr 10 0 0), (5, .val (.int .i64 ((i : Nat) : Int)))]) (fun i => [SO.ints false .i64 c.First, SO.ints false .i64 c.Head, SO.ints false .i64 c.Rev, SO.ints false .i64 c.Cap, SO.ints false .i64 c.Arc, SO.bools false c.Back, SO.ints false .i64 p.Res, SO.ints false .i64 p.Ex, SO.ints false .i64 p.H, .box [.val (.int .i64 c.N), .val (.int .i64 c.S), .val (.int .i64 c.T), .slc 0 0 c.First.length none, .slc 1 0 c.Head.length none, .slc 2 0 c.Rev.length none, .slc 3 0 c.Cap.length none, .slc 4 0 c.Arc.length none, .slc 5 0 c.Back.length none], .box [.slc 6 0 p.Res.length none, .slc 7 0 p.Ex.length none, .slc 8 0 p.H.length none]]) (fun i => p.Res.length - i) (fun i => i ≤ p.Res.length ∧ ∀ a : Nat, a < i → 0 ≤ p.Res.getD a 0 ∧ p.Res.getD a 0 ≤ mostOf c a ∧ p.Res.getD (c.Rev.getD a 0).toNat 0 = mostOf c a - p.Res.getD a 0) (0) [0, 1, 2, 3, 4, 5, 6, 7, 8, 9, 10] (⟨by simp, fun a ha => by omega⟩) ⟨.inr ⟨_, rfl, .inl rfl⟩, .inr ⟨_, rfl, .inl rfl⟩, .inr ⟨_, rfl, .inl rfl⟩, .inr ⟨_, rfl, .inl rfl⟩, .inr ⟨_, rfl, .inl rfl⟩, .inr ⟨_, rfl, .inl rfl⟩, .inr ⟨_, rfl, .inl rfl⟩, .inr ⟨_, rfl, .inl rfl⟩, .inr ⟨_, rfl, .inl rfl⟩, .inr ⟨_, rfl, .inl rfl⟩, .inr ⟨_, rfl, .inl rfl⟩, trivial⟩ rfl (pre_ok rfl) hρ ⟨⟨_, rfl, rfl⟩, ⟨_, rfl, rfl⟩, ⟨_, rfl, rfl⟩, trivial⟩ ?_
  rintro i ⟨g1, g2⟩
  refine w_seq ?_
  refine w_seq ?_
  -- region 4
  refine w_region ?_
  refine rw_t 37 rfl rfl rfl (do_move rfl ?_)
  refine rw_t 38 rfl rfl rfl (do_fieldaddr rfl ?_)
  refine rw_t 39 rfl rfl rfl (do_load_box rfl rfl rfl ?_)
  refine rw_t 40 rfl rfl rfl (do_len rfl ?_)
  refine rw_t 41 rfl rfl rfl (do_bin rfl rfl rfl ?_)
  refine rw_nil ?_
  refine w_cond rfl (fun hc2 => ?_) (fun hc2 => ?_)
  all_goals try simp only [bs] at hc2
  rotate_left
  · refine w_exit ?_ -- exit 0
    refine w_seq ?_
    have hpr : pairsP c p.Res := fun a ha => g2 a (by omega)
    -- region 9
    refine w_region ?_
    refine rw_t 93 rfl rfl rfl (n_load_boxagg [_, _, _, _, _, _, _, _, _] rfl rfl (Nat.le_of_ble_eq_true rfl) rfl ?_)
    refine rw_t 94 rfl rfl rfl (do_fieldaddr rfl ?_)
    refine rw_t 95 rfl rfl rfl (do_load_box rfl rfl rfl ?_)
    refine rw_t 96 rfl rfl rfl (n_callN (X' := .slc 11 0 c.N.toNat (some c.N.toNat)) (N' := [SO.ints true .i64 (exL c p.Res)]) rfl rfl (t_rexcess (c := c) (r := p.Res) (h) (by omega) (hpr)) [0, 1, 2, 3, 4, 5, 6] ⟨.inr ⟨_, rfl, srv⟩, .inr ⟨_, rfl, srv⟩, .inr ⟨_, rfl, srv⟩, .inr ⟨_, rfl, srv⟩, .inr ⟨_, rfl, srv⟩, .inr ⟨_, rfl, srv⟩, .inr ⟨_, rfl, srv⟩, trivial⟩ rfl rfl rfl rfl rfl ?_)
    refine rw_t 7 rfl rfl rfl (do_assign rfl ?_)
    refine rw_nil ?_
    refine w_seq ?_
    refine w_seq ?_
    -- region 10
    refine w_region ?_
    refine rw_t 8 rfl rfl rfl (do_assign rfl ?_)
    refine rw_nil ?_
    refine w_block ?_
    refine w_loopS (ι := Nat) (fun j => [(2, .ptr 9 0 0), (3, .ptr 10 0 0), (7, .slc 11 0 c.N.toNat (some c.N.toNat)), (8, .val (.int .i64 ((j : Nat) : Int)))]) (fun j => [SO.ints false .i64 c.First, SO.ints false .i64 c.Head, SO.ints false .i64 c.Rev, SO.ints false .i64 c.Cap, SO.ints false .i64 c.Arc, SO.bools false c.Back, SO.ints false .i64 p.Res, SO.ints false .i64 p.Ex, SO.ints false .i64 p.H, .box [.val (.int .i64 c.N), .val (.int .i64 c.S), .val (.int .i64 c.T), .slc 0 0 c.First.length none, .slc 1 0 c.Head.length none, .slc 2 0 c.Rev.length none, .slc 3 0 c.Cap.length none, .slc 4 0 c.Arc.length none, .slc 5 0 c.Back.length none], .box [.slc 6 0 p.Res.length none, .slc 7 0 p.Ex.length none, .slc 8 0 p.H.length none], SO.ints true .i64 (exL c p.Res)]) (fun j => c.N.toNat - j) (fun j => j ≤ c.N.toNat ∧ ∀ v : Nat, v < j → (p.Ex.getD v 0 = exOf c p.Res v ∧ ((v : Int) ≠ c.S → 0 ≤ p.Ex.getD v 0)) ∧ 0 ≤ p.H.getD v 0 ∧ p.H.getD v 0 ≤ 2 * c.N) (0) [0, 1, 2, 3, 4, 5, 6, 7, 8, 9, 10, 11] (⟨by simp, fun a ha => by omega⟩) ⟨.inr ⟨_, rfl, .inl rfl⟩, .inr ⟨_, rfl, .inl rfl⟩, .inr ⟨_, rfl, .inl rfl⟩, .inr ⟨_, rfl, .inl rfl⟩, .inr ⟨_, rfl, .inl rfl⟩, .inr ⟨_, rfl, .inl rfl⟩, .inr ⟨_, rfl, .inl rfl⟩, .inr ⟨_, rfl, .inl rfl⟩, .inr ⟨_, rfl, .inl rfl⟩, .inr ⟨_, rfl, .inl rfl⟩, .inr ⟨_, rfl, .inl rfl⟩, .inr ⟨_, rfl, .inl rfl⟩, trivial⟩ rfl (pre_ok rfl) hρ ⟨⟨_, rfl, rfl⟩, ⟨_, rfl, rfl⟩, ⟨_, rfl, rfl⟩, ⟨_, rfl, rfl⟩, trivial⟩ ?_
    rintro j ⟨k1, k2⟩
    refine w_seq ?_
    refine w_seq ?_
    -- region 11
    refine w_region ?_
    refine rw_t 97 rfl rfl rfl (do_move rfl ?_)
    refine rw_t 98 rfl rfl rfl (do_fieldaddr rfl ?_)
    refine rw_t 99 rfl rfl rfl (do_load_box rfl rfl rfl ?_)
    refine rw_t 100 rfl rfl rfl (do_bin rfl rfl rfl ?_)
    refine rw_nil ?_
    refine w_cond rfl (fun hc3 => ?_) (fun hc3 => ?_)
    all_goals try simp only [bs] at hc3
    rotate_left
    · refine w_exit ?_ -- exit 2
      refine w_seqB 4 (((p.H.getD c.S.toNat 0) = c.N ∧ (p.H.getD c.T.toNat 0) = 0)) ?_ ?_
      · -- region 15
        refine w_draw mixed [0, 1, 0, 4, 15, 31, 0, 64, 255, 511, 1023, 2047, 1023, 5119] [16383, 32767, 65535, 131071, 262143] (by kernel_rfl) (by kernel_rfl) rfl rfl rfl (hle hρ rfl) ?_
        refine ra_q (j := 0) rfl rfl rfl rfl (do_fieldaddr rfl ⟨rfl, rfl⟩) (by rfl) ?_
        refine ra_q (j := 1) rfl rfl rfl rfl (do_load_box rfl rfl rfl ⟨rfl, rfl⟩) (by rfl) ?_
        refine ra_q (j := 2) rfl rfl rfl rfl (do_fieldaddr rfl ⟨rfl, rfl⟩) (by rfl) ?_
        refine ra_q (j := 3) rfl rfl rfl rfl (do_load_box rfl rfl rfl ⟨rfl, rfl⟩) (by rfl) ?_
        refine ra_q (j := 4) rfl rfl rfl rfl (do_ix0 rfl rfl rfl (by first | omega | (simp only [ls] <;> omega)) ⟨rfl, rfl⟩) (by rfl) ?_
        refine ra_q (j := 5) rfl rfl rfl rfl (do_load_arr rfl rfl (by first | omega | (simp only [ls] <;> omega)) rfl ⟨rfl, rfl⟩) (by rfl) ?_
        refine ra_q (j := 6) rfl rfl rfl rfl (do_fieldaddr rfl ⟨rfl, rfl⟩) (by rfl) ?_
        refine ra_q (j := 7) rfl rfl rfl rfl (do_load_box rfl rfl rfl ⟨rfl, rfl⟩) (by rfl) ?_
        refine ra_q (j := 8) rfl rfl rfl rfl (do_bin rfl rfl rfl ⟨rfl, rfl⟩) (by rfl) ?_
        refine ra_q (j := 9) rfl rfl rfl rfl (do_move rfl ⟨rfl, rfl⟩) (by rfl) ?_
        refine ra_case 154 rfl (fun g4 => ?_) (fun g4 => ?_)
        · have kg4 := g4
          try simp only [bs] at kg4
          refine ra_gt (j := 10) rfl rfl rfl rfl g4 rfl rfl rfl (do_fieldaddr rfl ⟨rfl, rfl⟩) (by rfl) ?_
          refine ra_gt (j := 11) rfl rfl rfl rfl g4 rfl rfl rfl (do_load_box rfl rfl rfl ⟨rfl, rfl⟩) (by rfl) ?_
          refine ra_gt (j := 12) rfl rfl rfl rfl g4 rfl rfl rfl (do_fieldaddr rfl ⟨rfl, rfl⟩) (by rfl) ?_
          refine ra_gt (j := 13) rfl rfl rfl rfl g4 rfl rfl rfl (do_load_box rfl rfl rfl ⟨rfl, rfl⟩) (by rfl) ?_
          refine n_done ?_
          refine rw_gt 159 9 154 true rfl rfl rfl rfl rfl rfl g4 (do_ix0 rfl rfl rfl (by first | omega | (simp only [ls] <;> omega)) ?_)
          refine rw_gt 160 9 154 true rfl rfl rfl rfl rfl rfl g4 (do_load_arr rfl rfl (by first | omega | (simp only [ls] <;> omega)) rfl ?_)
          refine rw_gt 161 9 154 true rfl rfl rfl rfl rfl rfl g4 (do_bin rfl rfl rfl ?_)
          refine rw_t 162 rfl rfl rfl (do_pick_t rfl g4 rfl ?_)
          refine rw_t 4 rfl rfl rfl (do_assign rfl ?_)
          refine rw_nil ?_
          refine ⟨rfl, ⟨_, rfl, by first | (simp; done) | (simp only [bs]; omega) | (simp [*]; done) | (simp; omega) | (constructor <;> intro h <;> simp_all <;> omega)⟩, ?_⟩
          repeat (refine ⟨⟨_, rfl, rfl⟩, ?_⟩)
          exact trivial
        · have kg4 := g4
          try simp only [bs] at kg4
          refine ra_gf (j := 10) rfl rfl rfl rfl (by rw [g4]; decide) rfl rfl rfl ?_
          refine ra_gf (j := 11) rfl rfl rfl rfl (by rw [g4]; decide) rfl rfl rfl ?_
          refine ra_gf (j := 12) rfl rfl rfl rfl (by rw [g4]; decide) rfl rfl rfl ?_
          refine ra_gf (j := 13) rfl rfl rfl rfl (by rw [g4]; decide) rfl rfl rfl ?_
          refine n_done ?_
          refine rw_gf 159 9 154 true rfl rfl rfl rfl rfl rfl (by rw [g4]; decide) ?_
          refine rw_gf 160 9 154 true rfl rfl rfl rfl rfl rfl (by rw [g4]; decide) ?_
          refine rw_gf 161 9 154 true rfl rfl rfl rfl rfl rfl (by rw [g4]; decide) ?_
          refine rw_t 162 rfl rfl rfl (do_pick_f rfl g4 rfl ?_)
          refine rw_t 4 rfl rfl rfl (do_assign rfl ?_)
          refine rw_nil ?_
          refine ⟨rfl, ⟨_, rfl, by first | (simp; done) | (simp only [bs]; omega) | (simp [*]; done) | (simp; omega) | (constructor <;> intro h <;> simp_all <;> omega)⟩, ?_⟩
          repeat (refine ⟨⟨_, rfl, rfl⟩, ?_⟩)
          exact trivial
      intro b2 hb2
      refine w_ret ?_
      exact ret_eq (.inl rfl) (.cons (res_tmp rfl) .nil) [0, 1, 2, 3, 4, 5, 6, 7, 8] (Eq.symm (bool_congr (dec_of hb2 ⟨fun q => q.2.1.2, fun q => ⟨⟨by omega, by omega, by omega⟩, ⟨fun v hv => (k2 v (by omega)).2, q⟩, hpr, fun v hv => (k2 v (by omega)).1⟩⟩))) ⟨.inr ⟨_, rfl, .inl rfl⟩, .inr ⟨_, rfl, .inl rfl⟩, .inr ⟨_, rfl, .inl rfl⟩, .inr ⟨_, rfl, .inl rfl⟩, .inr ⟨_, rfl, .inl rfl⟩, .inr ⟨_, rfl, .inl rfl⟩, .inr ⟨_, rfl, .inl rfl⟩, .inr ⟨_, rfl, .inl rfl⟩, .inr ⟨_, rfl, .inl rfl⟩, trivial⟩ rfl (pre_ok rfl)
    refine w_skip ?_
    refine w_seq ?_
    refine w_block ?_
    have e1 := exL_get (c := c) (res := p.Res) (v := j) (by omega)
    have hel := exL_len c p.Res
    refine w_seqB 144 (((((p.Ex.getD j 0) ≠ ((exL c p.Res).getD j 0) ∨ (((j : Nat) : Int) ≠ c.S ∧ ((exL c p.Res).getD j 0) < 0)) ∨ (p.H.getD j 0) < 0) ∨ (p.H.getD j 0) > (2 * c.N))) ?_ ?_
    · -- region 13
      refine w_draw mixed [0, 1, 0, 7, 15, 0, 0, 96, 224, 511, 1023, 2047, 2047, 6143, 16383, 32767, 65535, 65535, 262143, 524287, 1048575, 2097151, 4194303, 8388607, 16777215, 33554431, 16777215, 134217727, 268435455, 536870911, 1073741823, 2147483647, 4294967295, 8589934591, 4294967295, 34359738367, 68719476735, 4294967295, 141733920767, 416611827711] [1099511627775, 2199023255551] (by kernel_rfl) (by kernel_rfl) rfl rfl rfl (hle hρ rfl) ?_
      refine ra_q (j := 0) rfl rfl rfl rfl (do_fieldaddr rfl ⟨rfl, rfl⟩) (by rfl) ?_
      refine ra_q (j := 1) rfl rfl rfl rfl (do_load_box rfl rfl rfl ⟨rfl, rfl⟩) (by rfl) ?_
      refine ra_q (j := 2) rfl rfl rfl rfl (do_move rfl ⟨rfl, rfl⟩) (by rfl) ?_
      refine ra_q (j := 3) rfl rfl rfl rfl (do_ixn rfl rfl rfl (by first | omega | (simp only [ls] <;> omega)) ⟨rfl, rfl⟩) (by rfl) ?_
      refine ra_q (j := 4) rfl rfl rfl rfl (do_load_arr rfl rfl (by first | omega | (simp only [ls] <;> omega)) rfl ⟨rfl, rfl⟩) (by rfl) ?_
      refine ra_q (j := 5) rfl rfl rfl rfl (do_move rfl ⟨rfl, rfl⟩) (by rfl) ?_
      refine ra_q (j := 6) rfl rfl rfl rfl (do_move rfl ⟨rfl, rfl⟩) (by rfl) ?_
      refine ra_q (j := 7) rfl rfl rfl rfl (do_ixn rfl rfl rfl (by first | omega | (simp only [ls] <;> omega)) ⟨rfl, rfl⟩) (by rfl) ?_
      refine ra_q (j := 8) rfl rfl rfl rfl (do_load_arr rfl rfl (by first | omega | (simp only [ls] <;> omega)) rfl ⟨rfl, rfl⟩) (by rfl) ?_
      refine ra_q (j := 9) rfl rfl rfl rfl (do_bin rfl rfl rfl ⟨rfl, rfl⟩) (by rfl) ?_
      refine ra_q (j := 10) rfl rfl rfl rfl (do_move rfl ⟨rfl, rfl⟩) (by rfl) ?_
      refine ra_case 113 rfl (fun g5 => ?_) (fun g5 => ?_)
      · have kg5 := g5
        try simp only [bs] at kg5
        refine ra_gf (j := 11) rfl rfl rfl rfl (by rw [g5]; decide) rfl rfl rfl ?_
        refine ra_gf (j := 12) rfl rfl rfl rfl (by rw [g5]; decide) rfl rfl rfl ?_
        refine ra_gf (j := 13) rfl rfl rfl rfl (by rw [g5]; decide) rfl rfl rfl ?_
        refine ra_gf (j := 14) rfl rfl rfl rfl (by rw [g5]; decide) rfl rfl rfl ?_
        refine ra_gf (j := 15) rfl rfl rfl rfl (by rw [g5]; decide) rfl rfl rfl ?_
        refine ra_gu (j := 16) rfl rfl rfl rfl rfl rfl rfl ?_
        refine ra_gu (j := 17) rfl rfl rfl rfl rfl rfl rfl ?_
        refine ra_gu (j := 18) rfl rfl rfl rfl rfl rfl rfl ?_
        refine ra_gu (j := 19) rfl rfl rfl rfl rfl rfl rfl ?_
        refine ra_gu (j := 20) rfl rfl rfl rfl rfl rfl rfl ?_
        refine ra_gf (j := 21) rfl rfl rfl rfl (by rw [g5]; decide) rfl rfl rfl ?_
        refine ra_q (j := 22) rfl rfl rfl rfl (do_pick_t rfl g5 rfl ⟨rfl, rfl⟩) (by rfl) ?_
        refine ra_q (j := 23) rfl rfl rfl rfl (do_move rfl ⟨rfl, rfl⟩) (by rfl) ?_
        refine ra_gf (j := 24) rfl rfl rfl rfl (by decide) rfl rfl rfl ?_
        refine ra_gf (j := 25) rfl rfl rfl rfl (by decide) rfl rfl rfl ?_
        refine ra_gf (j := 26) rfl rfl rfl rfl (by decide) rfl rfl rfl ?_
        refine ra_gf (j := 27) rfl rfl rfl rfl (by decide) rfl rfl rfl ?_
        refine ra_gf (j := 28) rfl rfl rfl rfl (by decide) rfl rfl rfl ?_
        refine ra_gf (j := 29) rfl rfl rfl rfl (by decide) rfl rfl rfl ?_
        refine ra_q (j := 30) rfl rfl rfl rfl (do_pick_t rfl rfl rfl ⟨rfl, rfl⟩) (by rfl) ?_
        refine ra_q (j := 31) rfl rfl rfl rfl (do_move rfl ⟨rfl, rfl⟩) (by rfl) ?_
        refine ra_gf (j := 32) rfl rfl rfl rfl (by decide) rfl rfl rfl ?_
        refine ra_gf (j := 33) rfl rfl rfl rfl (by decide) rfl rfl rfl ?_
        refine ra_gf (j := 34) rfl rfl rfl rfl (by decide) rfl rfl rfl ?_
        refine ra_gf (j := 35) rfl rfl rfl rfl (by decide) rfl rfl rfl ?_
        refine ra_gf (j := 36) rfl rfl rfl rfl (by decide) rfl rfl rfl ?_
        refine ra_gf (j := 37) rfl rfl rfl rfl (by decide) rfl rfl rfl ?_
        refine ra_gf (j := 38) rfl rfl rfl rfl (by decide) rfl rfl rfl ?_
        refine ra_gf (j := 39) rfl rfl rfl rfl (by decide) rfl rfl rfl ?_
        refine n_done ?_
        refine rw_gf 143 31 134 false rfl rfl rfl rfl rfl rfl (by decide) ?_
        refine rw_t 144 rfl rfl rfl (do_pick_t rfl rfl rfl ?_)
        refine rw_nil ?_
        refine ⟨rfl, ⟨_, rfl, by first | (simp; done) | (simp only [bs]; omega) | (simp [*]; done) | (simp; omega) | (constructor <;> intro h <;> simp_all <;> omega)⟩, ?_⟩
        repeat (refine ⟨⟨_, rfl, rfl⟩, ?_⟩)
        exact trivial
      · have kg5 := g5
        try simp only [bs] at kg5
        refine ra_gt (j := 11) rfl rfl rfl rfl g5 rfl rfl rfl (do_move rfl ⟨rfl, rfl⟩) (by rfl) ?_
        refine ra_gt (j := 12) rfl rfl rfl rfl g5 rfl rfl rfl (do_fieldaddr rfl ⟨rfl, rfl⟩) (by rfl) ?_
        refine ra_gt (j := 13) rfl rfl rfl rfl g5 rfl rfl rfl (do_load_box rfl rfl rfl ⟨rfl, rfl⟩) (by rfl) ?_
        refine ra_gt (j := 14) rfl rfl rfl rfl g5 rfl rfl rfl (do_bin rfl rfl rfl ⟨rfl, rfl⟩) (by rfl) ?_
        refine ra_gt (j := 15) rfl rfl rfl rfl g5 rfl rfl rfl (do_move rfl ⟨rfl, rfl⟩) (by rfl) ?_
        refine ra_case 118 rfl (fun g6 => ?_) (fun g6 => ?_)
        · have kg6 := g6
          try simp only [bs] at kg6
          refine ra_gt (j := 16) rfl rfl rfl rfl g6 rfl rfl rfl (do_move rfl ⟨rfl, rfl⟩) (by rfl) ?_
          refine ra_gt (j := 17) rfl rfl rfl rfl g6 rfl rfl rfl (do_move rfl ⟨rfl, rfl⟩) (by rfl) ?_
          refine ra_gt (j := 18) rfl rfl rfl rfl g6 rfl rfl rfl (do_ixn rfl rfl rfl (by first | omega | (simp only [ls] <;> omega)) ⟨rfl, rfl⟩) (by rfl) ?_
          refine ra_gt (j := 19) rfl rfl rfl rfl g6 rfl rfl rfl (do_load_arr rfl rfl (by first | omega | (simp only [ls] <;> omega)) rfl ⟨rfl, rfl⟩) (by rfl) ?_
          refine ra_gt (j := 20) rfl rfl rfl rfl g6 rfl rfl rfl (do_bin rfl rfl rfl ⟨rfl, rfl⟩) (by rfl) ?_
          refine ra_gt (j := 21) rfl rfl rfl rfl g5 rfl rfl rfl (do_pick_t rfl g6 rfl ⟨rfl, rfl⟩) (by rfl) ?_
          refine ra_q (j := 22) rfl rfl rfl rfl (do_pick_f rfl g5 rfl ⟨rfl, rfl⟩) (by rfl) ?_
          refine ra_q (j := 23) rfl rfl rfl rfl (do_move rfl ⟨rfl, rfl⟩) (by rfl) ?_
          refine ra_case 126 rfl (fun g7 => ?_) (fun g7 => ?_)
          · have kg7 := g7
            try simp only [bs] at kg7
            refine ra_gf (j := 24) rfl rfl rfl rfl (by rw [g7]; decide) rfl rfl rfl ?_
            refine ra_gf (j := 25) rfl rfl rfl rfl (by rw [g7]; decide) rfl rfl rfl ?_
            refine ra_gf (j := 26) rfl rfl rfl rfl (by rw [g7]; decide) rfl rfl rfl ?_
            refine ra_gf (j := 27) rfl rfl rfl rfl (by rw [g7]; decide) rfl rfl rfl ?_
            refine ra_gf (j := 28) rfl rfl rfl rfl (by rw [g7]; decide) rfl rfl rfl ?_
            refine ra_gf (j := 29) rfl rfl rfl rfl (by rw [g7]; decide) rfl rfl rfl ?_
            refine ra_q (j := 30) rfl rfl rfl rfl (do_pick_t rfl g7 rfl ⟨rfl, rfl⟩) (by rfl) ?_
            refine ra_q (j := 31) rfl rfl rfl rfl (do_move rfl ⟨rfl, rfl⟩) (by rfl) ?_
            refine ra_gf (j := 32) rfl rfl rfl rfl (by decide) rfl rfl rfl ?_
            refine ra_gf (j := 33) rfl rfl rfl rfl (by decide) rfl rfl rfl ?_
            refine ra_gf (j := 34) rfl rfl rfl rfl (by decide) rfl rfl rfl ?_
            refine ra_gf (j := 35) rfl rfl rfl rfl (by decide) rfl rfl rfl ?_
            refine ra_gf (j := 36) rfl rfl rfl rfl (by decide) rfl rfl rfl ?_
            refine ra_gf (j := 37) rfl rfl rfl rfl (by decide) rfl rfl rfl ?_
            refine ra_gf (j := 38) rfl rfl rfl rfl (by decide) rfl rfl rfl ?_
            refine ra_gf (j := 39) rfl rfl rfl rfl (by decide) rfl rfl rfl ?_
            refine n_done ?_
            refine rw_gf 143 31 134 false rfl rfl rfl rfl rfl rfl (by decide) ?_
            refine rw_t 144 rfl rfl rfl (do_pick_t rfl rfl rfl ?_)
            refine rw_nil ?_
            refine ⟨rfl, ⟨_, rfl, by first | (simp; done) | (simp only [bs]; omega) | (simp [*]; done) | (simp; omega) | (constructor <;> intro h <;> simp_all <;> omega)⟩, ?_⟩
            repeat (refine ⟨⟨_, rfl, rfl⟩, ?_⟩)
            exact trivial
          · have kg7 := g7
            try simp only [bs] at kg7
            refine ra_gt (j := 24) rfl rfl rfl rfl g7 rfl rfl rfl (do_fieldaddr rfl ⟨rfl, rfl⟩) (by rfl) ?_
            refine ra_gt (j := 25) rfl rfl rfl rfl g7 rfl rfl rfl (do_load_box rfl rfl rfl ⟨rfl, rfl⟩) (by rfl) ?_
            refine ra_gt (j := 26) rfl rfl rfl rfl g7 rfl rfl rfl (do_move rfl ⟨rfl, rfl⟩) (by rfl) ?_
            refine ra_gt (j := 27) rfl rfl rfl rfl g7 rfl rfl rfl (do_ixn rfl rfl rfl (by first | omega | (simp only [ls] <;> omega)) ⟨rfl, rfl⟩) (by rfl) ?_
            refine ra_gt (j := 28) rfl rfl rfl rfl g7 rfl rfl rfl (do_load_arr rfl rfl (by first | omega | (simp only [ls] <;> omega)) rfl ⟨rfl, rfl⟩) (by rfl) ?_
            refine ra_gt (j := 29) rfl rfl rfl rfl g7 rfl rfl rfl (do_bin rfl rfl rfl ⟨rfl, rfl⟩) (by rfl) ?_
            refine ra_q (j := 30) rfl rfl rfl rfl (do_pick_f rfl g7 rfl ⟨rfl, rfl⟩) (by rfl) ?_
            refine ra_q (j := 31) rfl rfl rfl rfl (do_move rfl ⟨rfl, rfl⟩) (by rfl) ?_
            refine ra_case 134 rfl (fun g8 => ?_) (fun g8 => ?_)
            · have kg8 := g8
              try simp only [bs] at kg8
              refine ra_gf (j := 32) rfl rfl rfl rfl (by rw [g8]; decide) rfl rfl rfl ?_
              refine ra_gf (j := 33) rfl rfl rfl rfl (by rw [g8]; decide) rfl rfl rfl ?_
              refine ra_gf (j := 34) rfl rfl rfl rfl (by rw [g8]; decide) rfl rfl rfl ?_
              refine ra_gf (j := 35) rfl rfl rfl rfl (by rw [g8]; decide) rfl rfl rfl ?_
              refine ra_gf (j := 36) rfl rfl rfl rfl (by rw [g8]; decide) rfl rfl rfl ?_
              refine ra_gf (j := 37) rfl rfl rfl rfl (by rw [g8]; decide) rfl rfl rfl ?_
              refine ra_gf (j := 38) rfl rfl rfl rfl (by rw [g8]; decide) rfl rfl rfl ?_
              refine ra_gf (j := 39) rfl rfl rfl rfl (by rw [g8]; decide) rfl rfl rfl ?_
              refine n_done ?_
              refine rw_gf 143 31 134 false rfl rfl rfl rfl rfl rfl (by rw [g8]; decide) ?_
              refine rw_t 144 rfl rfl rfl (do_pick_t rfl g8 rfl ?_)
              refine rw_nil ?_
              refine ⟨rfl, ⟨_, rfl, by first | (simp; done) | (simp only [bs]; omega) | (simp [*]; done) | (simp; omega) | (constructor <;> intro h <;> simp_all <;> omega)⟩, ?_⟩
              repeat (refine ⟨⟨_, rfl, rfl⟩, ?_⟩)
              exact trivial
            · have kg8 := g8
              try simp only [bs] at kg8
              refine ra_gt (j := 32) rfl rfl rfl rfl g8 rfl rfl rfl (do_fieldaddr rfl ⟨rfl, rfl⟩) (by rfl) ?_
              refine ra_gt (j := 33) rfl rfl rfl rfl g8 rfl rfl rfl (do_load_box rfl rfl rfl ⟨rfl, rfl⟩) (by rfl) ?_
              refine ra_gt (j := 34) rfl rfl rfl rfl g8 rfl rfl rfl (do_move rfl ⟨rfl, rfl⟩) (by rfl) ?_
              refine ra_gt (j := 35) rfl rfl rfl rfl g8 rfl rfl rfl (do_ixn rfl rfl rfl (by first | omega | (simp only [ls] <;> omega)) ⟨rfl, rfl⟩) (by rfl) ?_
              refine ra_gt (j := 36) rfl rfl rfl rfl g8 rfl rfl rfl (do_load_arr rfl rfl (by first | omega | (simp only [ls] <;> omega)) rfl ⟨rfl, rfl⟩) (by rfl) ?_
              refine ra_gt (j := 37) rfl rfl rfl rfl g8 rfl rfl rfl (do_fieldaddr rfl ⟨rfl, rfl⟩) (by rfl) ?_
              refine ra_gt (j := 38) rfl rfl rfl rfl g8 rfl rfl rfl (do_load_box rfl rfl rfl ⟨rfl, rfl⟩) (by rfl) ?_
              refine ra_gt (j := 39) rfl rfl rfl rfl g8 rfl rfl rfl (do_mul rfl rfl (by omega) ⟨rfl, rfl⟩) (by rfl) ?_
              refine n_done ?_
              refine rw_gt 143 31 134 false rfl rfl rfl rfl rfl rfl g8 (do_bin rfl rfl rfl ?_)
              refine rw_t 144 rfl rfl rfl (do_pick_f rfl g8 rfl ?_)
              refine rw_nil ?_
              refine ⟨rfl, ⟨_, rfl, by first | (simp; done) | (simp only [bs]; omega) | (simp [*]; done) | (simp; omega) | (constructor <;> intro h <;> simp_all <;> omega)⟩, ?_⟩
              repeat (refine ⟨⟨_, rfl, rfl⟩, ?_⟩)
              exact trivial
        · have kg6 := g6
          try simp only [bs] at kg6
          refine ra_gf (j := 16) rfl rfl rfl rfl (by rw [g6]; decide) rfl rfl rfl ?_
          refine ra_gf (j := 17) rfl rfl rfl rfl (by rw [g6]; decide) rfl rfl rfl ?_
          refine ra_gf (j := 18) rfl rfl rfl rfl (by rw [g6]; decide) rfl rfl rfl ?_
          refine ra_gf (j := 19) rfl rfl rfl rfl (by rw [g6]; decide) rfl rfl rfl ?_
          refine ra_gf (j := 20) rfl rfl rfl rfl (by rw [g6]; decide) rfl rfl rfl ?_
          refine ra_gt (j := 21) rfl rfl rfl rfl g5 rfl rfl rfl (do_pick_f rfl g6 rfl ⟨rfl, rfl⟩) (by rfl) ?_
          refine ra_q (j := 22) rfl rfl rfl rfl (do_pick_f rfl g5 rfl ⟨rfl, rfl⟩) (by rfl) ?_
          refine ra_q (j := 23) rfl rfl rfl rfl (do_move rfl ⟨rfl, rfl⟩) (by rfl) ?_
          refine ra_gt (j := 24) rfl rfl rfl rfl rfl rfl rfl rfl (do_fieldaddr rfl ⟨rfl, rfl⟩) (by rfl) ?_
          refine ra_gt (j := 25) rfl rfl rfl rfl rfl rfl rfl rfl (do_load_box rfl rfl rfl ⟨rfl, rfl⟩) (by rfl) ?_
          refine ra_gt (j := 26) rfl rfl rfl rfl rfl rfl rfl rfl (do_move rfl ⟨rfl, rfl⟩) (by rfl) ?_
          refine ra_gt (j := 27) rfl rfl rfl rfl rfl rfl rfl rfl (do_ixn rfl rfl rfl (by first | omega | (simp only [ls] <;> omega)) ⟨rfl, rfl⟩) (by rfl) ?_
          refine ra_gt (j := 28) rfl rfl rfl rfl rfl rfl rfl rfl (do_load_arr rfl rfl (by first | omega | (simp only [ls] <;> omega)) rfl ⟨rfl, rfl⟩) (by rfl) ?_
          refine ra_gt (j := 29) rfl rfl rfl rfl rfl rfl rfl rfl (do_bin rfl rfl rfl ⟨rfl, rfl⟩) (by rfl) ?_
          refine ra_q (j := 30) rfl rfl rfl rfl (do_pick_f rfl rfl rfl ⟨rfl, rfl⟩) (by rfl) ?_
          refine ra_q (j := 31) rfl rfl rfl rfl (do_move rfl ⟨rfl, rfl⟩) (by rfl) ?_
          refine ra_case 134 rfl (fun g9 => ?_) (fun g9 => ?_)
          · have kg9 := g9
            try simp only [bs] at kg9
            refine ra_gf (j := 32) rfl rfl rfl rfl (by rw [g9]; decide) rfl rfl rfl ?_
            refine ra_gf (j := 33) rfl rfl rfl rfl (by rw [g9]; decide) rfl rfl rfl ?_
            refine ra_gf (j := 34) rfl rfl rfl rfl (by rw [g9]; decide) rfl rfl rfl ?_
            refine ra_gf (j := 35) rfl rfl rfl rfl (by rw [g9]; decide) rfl rfl rfl ?_
            refine ra_gf (j := 36) rfl rfl rfl rfl (by rw [g9]; decide) rfl rfl rfl ?_
            refine ra_gf (j := 37) rfl rfl rfl rfl (by rw [g9]; decide) rfl rfl rfl ?_
            refine ra_gf (j := 38) rfl rfl rfl rfl (by rw [g9]; decide) rfl rfl rfl ?_
            refine ra_gf (j := 39) rfl rfl rfl rfl (by rw [g9]; decide) rfl rfl rfl ?_
            refine n_done ?_
            refine rw_gf 143 31 134 false rfl rfl rfl rfl rfl rfl (by rw [g9]; decide) ?_
            refine rw_t 144 rfl rfl rfl (do_pick_t rfl g9 rfl ?_)
            refine rw_nil ?_
            refine ⟨rfl, ⟨_, rfl, by first | (simp; done) | (simp only [bs]; omega) | (simp [*]; done) | (simp; omega) | (constructor <;> intro h <;> simp_all <;> omega)⟩, ?_⟩
            repeat (refine ⟨⟨_, rfl, rfl⟩, ?_⟩)
            exact trivial
          · have kg9 := g9
            try simp only [bs] at kg9
            refine ra_gt (j := 32) rfl rfl rfl rfl g9 rfl rfl rfl (do_fieldaddr rfl ⟨rfl, rfl⟩) (by rfl) ?_
            refine ra_gt (j := 33) rfl rfl rfl rfl g9 rfl rfl rfl (do_load_box rfl rfl rfl ⟨rfl, rfl⟩) (by rfl) ?_
            refine ra_gt (j := 34) rfl rfl rfl rfl g9 rfl rfl rfl (do_move rfl ⟨rfl, rfl⟩) (by rfl) ?_
            refine ra_gt (j := 35) rfl rfl rfl rfl g9 rfl rfl rfl (do_ixn rfl rfl rfl (by first | omega | (simp only [ls] <;> omega)) ⟨rfl, rfl⟩) (by rfl) ?_
            refine ra_gt (j := 36) rfl rfl rfl rfl g9 rfl rfl rfl (do_load_arr rfl rfl (by first | omega | (simp only [ls] <;> omega)) rfl ⟨rfl, rfl⟩) (by rfl) ?_
            refine ra_gt (j := 37) rfl rfl rfl rfl g9 rfl rfl rfl (do_fieldaddr rfl ⟨rfl, rfl⟩) (by rfl) ?_
            refine ra_gt (j := 38) rfl rfl rfl rfl g9 rfl rfl rfl (do_load_box rfl rfl rfl ⟨rfl, rfl⟩) (by rfl) ?_
            refine ra_gt (j := 39) rfl rfl rfl rfl g9 rfl rfl rfl (do_mul rfl rfl (by omega) ⟨rfl, rfl⟩) (by rfl) ?_
            refine n_done ?_
            refine rw_gt 143 31 134 false rfl rfl rfl rfl rfl rfl g9 (do_bin rfl rfl rfl ?_)
            refine rw_t 144 rfl rfl rfl (do_pick_f rfl g9 rfl ?_)
            refine rw_nil ?_
            refine ⟨rfl, ⟨_, rfl, by first | (simp; done) | (simp only [bs]; omega) | (simp [*]; done) | (simp; omega) | (constructor <;> intro h <;> simp_all <;> omega)⟩, ?_⟩
            repeat (refine ⟨⟨_, rfl, rfl⟩, ?_⟩)
            exact trivial
    intro b3 hb3
    refine w_condP hb3 rfl (fun hc4 => ?_) (fun hc4 => ?_)
    · refine w_seq ?_
      -- region 14
      refine w_region ?_
      refine rw_t 4 rfl rfl rfl (do_assign rfl ?_)
      refine rw_nil ?_
      refine w_ret ?_
      exact ret_eq (.inl rfl) (.cons (res_tmp rfl) .nil) [0, 1, 2, 3, 4, 5, 6, 7, 8] (Eq.symm (bool_congr (decide_eq_false (fun q => by have q1 := q.2.2.2 j (by omega); have q2 := q.2.1.1 j (by omega); omega)))) ⟨.inr ⟨_, rfl, .inl rfl⟩, .inr ⟨_, rfl, .inl rfl⟩, .inr ⟨_, rfl, .inl rfl⟩, .inr ⟨_, rfl, .inl rfl⟩, .inr ⟨_, rfl, .inl rfl⟩, .inr ⟨_, rfl, .inl rfl⟩, .inr ⟨_, rfl, .inl rfl⟩, .inr ⟨_, rfl, .inl rfl⟩, .inr ⟨_, rfl, .inl rfl⟩, trivial⟩ rfl (pre_ok rfl)
    refine w_skip ?_
    -- region 12
    refine w_region ?_
    refine rw_t 101 rfl rfl rfl (do_move rfl ?_)
    refine rw_t 102 rfl rfl rfl (do_add rfl rfl (by omega) ?_)
    refine rw_t 8 rfl rfl rfl (do_assign rfl ?_)
    refine rw_nil ?_
    refine ⟨j + 1, [0, 1, 2, 3, 4, 5, 6, 7, 8, 9, 10, 11], by dsimp only; omega, ⟨by omega, fun v hv => by rcases Nat.lt_or_ge v j with hki | hki; exact k2 v hki; have : v = j := (by omega); subst this; omega⟩, ⟨.inr ⟨_, rfl, .inl rfl⟩, .inr ⟨_, rfl, .inl rfl⟩, .inr ⟨_, rfl, .inl rfl⟩, .inr ⟨_, rfl, .inl rfl⟩, .inr ⟨_, rfl, .inl rfl⟩, .inr ⟨_, rfl, .inl rfl⟩, .inr ⟨_, rfl, .inl rfl⟩, .inr ⟨_, rfl, .inl rfl⟩, .inr ⟨_, rfl, .inl rfl⟩, .inr ⟨_, rfl, .inl rfl⟩, .inr ⟨_, rfl, .inl rfl⟩, .inr ⟨_, rfl, .inl rfl⟩, trivial⟩, rfl, pre_ok rfl, ⟨⟨_, rfl, rfl⟩, ⟨_, rfl, rfl⟩, ⟨_, rfl, rfl⟩, ⟨_, rfl, rfl⟩, trivial⟩⟩
  refine w_skip ?_
  refine w_seq ?_
  refine w_block ?_
  refine w_seq ?_
  have hv := h.rv i (by omega)
  have hcp := h.cp i (by omega)
  unfold mostOf at hcp
  -- region 6
  refine w_draw mixed [0, 1, 0, 7, 15, 0, 32, 0, 128, 0, 896, 1920, 4064, 8160] [16383, 32767] (by kernel_rfl) (by kernel_rfl) rfl rfl rfl (hle hρ rfl) ?_
  refine ra_q (j := 0) rfl rfl rfl rfl (do_fieldaddr rfl ⟨rfl, rfl⟩) (by rfl) ?_
  refine ra_q (j := 1) rfl rfl rfl rfl (do_load_box rfl rfl rfl ⟨rfl, rfl⟩) (by rfl) ?_
  refine ra_q (j := 2) rfl rfl rfl rfl (do_move rfl ⟨rfl, rfl⟩) (by rfl) ?_
  refine ra_q (j := 3) rfl rfl rfl rfl (do_ixn rfl rfl rfl (by first | omega | (simp only [ls] <;> omega)) ⟨rfl, rfl⟩) (by rfl) ?_
  refine ra_q (j := 4) rfl rfl rfl rfl (do_load_arr rfl rfl (by first | omega | (simp only [ls] <;> omega)) rfl ⟨rfl, rfl⟩) (by rfl) ?_
  refine ra_q (j := 5) rfl rfl rfl rfl (do_fieldaddr rfl ⟨rfl, rfl⟩) (by rfl) ?_
  refine ra_q (j := 6) rfl rfl rfl rfl (do_load_box rfl rfl rfl ⟨rfl, rfl⟩) (by rfl) ?_
  refine ra_q (j := 7) rfl rfl rfl rfl (do_fieldaddr rfl ⟨rfl, rfl⟩) (by rfl) ?_
  refine ra_q (j := 8) rfl rfl rfl rfl (do_load_box rfl rfl rfl ⟨rfl, rfl⟩) (by rfl) ?_
  refine ra_q (j := 9) rfl rfl rfl rfl (do_move rfl ⟨rfl, rfl⟩) (by rfl) ?_
  refine ra_q (j := 10) rfl rfl rfl rfl (do_ixn rfl rfl rfl (by first | omega | (simp only [ls] <;> omega)) ⟨rfl, rfl⟩) (by rfl) ?_
  refine ra_q (j := 11) rfl rfl rfl rfl (do_load_arr rfl rfl (by first | omega | (simp only [ls] <;> omega)) rfl ⟨rfl, rfl⟩) (by rfl) ?_
  refine ra_q (j := 12) rfl rfl rfl rfl (do_ix0 rfl rfl rfl (by first | omega | (simp only [ls] <;> omega)) ⟨rfl, rfl⟩) (by rfl) ?_
  refine ra_q (j := 13) rfl rfl rfl rfl (do_load_arr rfl rfl (by first | omega | (simp only [ls] <;> omega)) rfl ⟨rfl, rfl⟩) (by rfl) ?_
  refine n_done ?_
  refine rw_t 58 rfl rfl rfl (do_add rfl rfl (by omega) ?_)
  refine rw_t 6 rfl rfl rfl (do_assign rfl ?_)
  refine rw_nil ?_
  refine w_seqB 92 ((((p.Res.getD i 0) < 0 ∨ (p.Res.getD i 0) > ((c.Cap.getD i 0) + (c.Cap.getD ((c.Rev.getD i 0).toNat) 0))) ∨ (p.Res.getD ((c.Rev.getD i 0).toNat) 0) ≠ (((c.Cap.getD i 0) + (c.Cap.getD ((c.Rev.getD i 0).toNat) 0)) - (p.Res.getD i 0)))) ?_ ?_
  · -- region 7
    refine w_draw mixed [0, 1, 0, 7, 15, 31, 63, 127, 255, 127, 1023, 2047, 127, 8191, 16383, 32767, 65535, 131071, 65535, 327679, 65535, 1900543, 3997695, 8388607, 16777215, 65535, 65535, 67174399, 65535, 469827583, 1006698495, 2113994751] [4294967295, 8589934591] (by kernel_rfl) (by kernel_rfl) rfl rfl rfl (hle hρ rfl) ?_
    refine ra_q (j := 0) rfl rfl rfl rfl (do_fieldaddr rfl ⟨rfl, rfl⟩) (by rfl) ?_
    refine ra_q (j := 1) rfl rfl rfl rfl (do_load_box rfl rfl rfl ⟨rfl, rfl⟩) (by rfl) ?_
    refine ra_q (j := 2) rfl rfl rfl rfl (do_move rfl ⟨rfl, rfl⟩) (by rfl) ?_
    refine ra_q (j := 3) rfl rfl rfl rfl (do_ixn rfl rfl rfl (by first | omega | (simp only [ls] <;> omega)) ⟨rfl, rfl⟩) (by rfl) ?_
    refine ra_q (j := 4) rfl rfl rfl rfl (do_load_arr rfl rfl (by first | omega | (simp only [ls] <;> omega)) rfl ⟨rfl, rfl⟩) (by rfl) ?_
    refine ra_q (j := 5) rfl rfl rfl rfl (do_bin rfl rfl rfl ⟨rfl, rfl⟩) (by rfl) ?_
    refine ra_q (j := 6) rfl rfl rfl rfl (do_move rfl ⟨rfl, rfl⟩) (by rfl) ?_
    refine ra_case 65 rfl (fun g10 => ?_) (fun g10 => ?_)
    · have kg10 := g10
      try simp only [bs] at kg10
      refine ra_gf (j := 7) rfl rfl rfl rfl (by rw [g10]; decide) rfl rfl rfl ?_
      refine ra_gf (j := 8) rfl rfl rfl rfl (by rw [g10]; decide) rfl rfl rfl ?_
      refine ra_gf (j := 9) rfl rfl rfl rfl (by rw [g10]; decide) rfl rfl rfl ?_
      refine ra_gf (j := 10) rfl rfl rfl rfl (by rw [g10]; decide) rfl rfl rfl ?_
      refine ra_gf (j := 11) rfl rfl rfl rfl (by rw [g10]; decide) rfl rfl rfl ?_
      refine ra_gf (j := 12) rfl rfl rfl rfl (by rw [g10]; decide) rfl rfl rfl ?_
      refine ra_gf (j := 13) rfl rfl rfl rfl (by rw [g10]; decide) rfl rfl rfl ?_
      refine ra_q (j := 14) rfl rfl rfl rfl (do_pick_t rfl g10 rfl ⟨rfl, rfl⟩) (by rfl) ?_
      refine ra_q (j := 15) rfl rfl rfl rfl (do_move rfl ⟨rfl, rfl⟩) (by rfl) ?_
      refine ra_gf (j := 16) rfl rfl rfl rfl (by decide) rfl rfl rfl ?_
      refine ra_gf (j := 17) rfl rfl rfl rfl (by decide) rfl rfl rfl ?_
      refine ra_gf (j := 18) rfl rfl rfl rfl (by decide) rfl rfl rfl ?_
      refine ra_gf (j := 19) rfl rfl rfl rfl (by decide) rfl rfl rfl ?_
      refine ra_gf (j := 20) rfl rfl rfl rfl (by decide) rfl rfl rfl ?_
      refine ra_gf (j := 21) rfl rfl rfl rfl (by decide) rfl rfl rfl ?_
      refine ra_gf (j := 22) rfl rfl rfl rfl (by decide) rfl rfl rfl ?_
      refine ra_gf (j := 23) rfl rfl rfl rfl (by decide) rfl rfl rfl ?_
      refine ra_gf (j := 24) rfl rfl rfl rfl (by decide) rfl rfl rfl ?_
      refine ra_gf (j := 25) rfl rfl rfl rfl (by decide) rfl rfl rfl ?_
      refine ra_gf (j := 26) rfl rfl rfl rfl (by decide) rfl rfl rfl ?_
      refine ra_gf (j := 27) rfl rfl rfl rfl (by decide) rfl rfl rfl ?_
      refine ra_gf (j := 28) rfl rfl rfl rfl (by decide) rfl rfl rfl ?_
      refine ra_gf (j := 29) rfl rfl rfl rfl (by decide) rfl rfl rfl ?_
      refine ra_gf (j := 30) rfl rfl rfl rfl (by decide) rfl rfl rfl ?_
      refine ra_gf (j := 31) rfl rfl rfl rfl (by decide) rfl rfl rfl ?_
      refine n_done ?_
      refine rw_gf 91 15 74 false rfl rfl rfl rfl rfl rfl (by decide) ?_
      refine rw_t 92 rfl rfl rfl (do_pick_t rfl rfl rfl ?_)
      refine rw_nil ?_
      refine ⟨rfl, ⟨_, rfl, by first | (simp; done) | (simp only [bs]; omega) | (simp [*]; done) | (simp; omega) | (constructor <;> intro h <;> simp_all <;> omega)⟩, ?_⟩
      repeat (refine ⟨⟨_, rfl, rfl⟩, ?_⟩)
      exact trivial
    · have kg10 := g10
      try simp only [bs] at kg10
      refine ra_gt (j := 7) rfl rfl rfl rfl g10 rfl rfl rfl (do_fieldaddr rfl ⟨rfl, rfl⟩) (by rfl) ?_
      refine ra_gt (j := 8) rfl rfl rfl rfl g10 rfl rfl rfl (do_load_box rfl rfl rfl ⟨rfl, rfl⟩) (by rfl) ?_
      refine ra_gt (j := 9) rfl rfl rfl rfl g10 rfl rfl rfl (do_move rfl ⟨rfl, rfl⟩) (by rfl) ?_
      refine ra_gt (j := 10) rfl rfl rfl rfl g10 rfl rfl rfl (do_ixn rfl rfl rfl (by first | omega | (simp only [ls] <;> omega)) ⟨rfl, rfl⟩) (by rfl) ?_
      refine ra_gt (j := 11) rfl rfl rfl rfl g10 rfl rfl rfl (do_load_arr rfl rfl (by first | omega | (simp only [ls] <;> omega)) rfl ⟨rfl, rfl⟩) (by rfl) ?_
      refine ra_gt (j := 12) rfl rfl rfl rfl g10 rfl rfl rfl (do_move rfl ⟨rfl, rfl⟩) (by rfl) ?_
      refine ra_gt (j := 13) rfl rfl rfl rfl g10 rfl rfl rfl (do_bin rfl rfl rfl ⟨rfl, rfl⟩) (by rfl) ?_
      refine ra_q (j := 14) rfl rfl rfl rfl (do_pick_f rfl g10 rfl ⟨rfl, rfl⟩) (by rfl) ?_
      refine ra_q (j := 15) rfl rfl rfl rfl (do_move rfl ⟨rfl, rfl⟩) (by rfl) ?_
      refine ra_case 74 rfl (fun g11 => ?_) (fun g11 => ?_)
      · have kg11 := g11
        try simp only [bs] at kg11
        refine ra_gf (j := 16) rfl rfl rfl rfl (by rw [g11]; decide) rfl rfl rfl ?_
        refine ra_gf (j := 17) rfl rfl rfl rfl (by rw [g11]; decide) rfl rfl rfl ?_
        refine ra_gf (j := 18) rfl rfl rfl rfl (by rw [g11]; decide) rfl rfl rfl ?_
        refine ra_gf (j := 19) rfl rfl rfl rfl (by rw [g11]; decide) rfl rfl rfl ?_
        refine ra_gf (j := 20) rfl rfl rfl rfl (by rw [g11]; decide) rfl rfl rfl ?_
        refine ra_gf (j := 21) rfl rfl rfl rfl (by rw [g11]; decide) rfl rfl rfl ?_
        refine ra_gf (j := 22) rfl rfl rfl rfl (by rw [g11]; decide) rfl rfl rfl ?_
        refine ra_gf (j := 23) rfl rfl rfl rfl (by rw [g11]; decide) rfl rfl rfl ?_
        refine ra_gf (j := 24) rfl rfl rfl rfl (by rw [g11]; decide) rfl rfl rfl ?_
        refine ra_gf (j := 25) rfl rfl rfl rfl (by rw [g11]; decide) rfl rfl rfl ?_
        refine ra_gf (j := 26) rfl rfl rfl rfl (by rw [g11]; decide) rfl rfl rfl ?_
        refine ra_gf (j := 27) rfl rfl rfl rfl (by rw [g11]; decide) rfl rfl rfl ?_
        refine ra_gf (j := 28) rfl rfl rfl rfl (by rw [g11]; decide) rfl rfl rfl ?_
        refine ra_gf (j := 29) rfl rfl rfl rfl (by rw [g11]; decide) rfl rfl rfl ?_
        refine ra_gf (j := 30) rfl rfl rfl rfl (by rw [g11]; decide) rfl rfl rfl ?_
        refine ra_gf (j := 31) rfl rfl rfl rfl (by rw [g11]; decide) rfl rfl rfl ?_
        refine n_done ?_
        refine rw_gf 91 15 74 false rfl rfl rfl rfl rfl rfl (by rw [g11]; decide) ?_
        refine rw_t 92 rfl rfl rfl (do_pick_t rfl g11 rfl ?_)
        refine rw_nil ?_
        refine ⟨rfl, ⟨_, rfl, by first | (simp; done) | (simp only [bs]; omega) | (simp [*]; done) | (simp; omega) | (constructor <;> intro h <;> simp_all <;> omega)⟩, ?_⟩
        repeat (refine ⟨⟨_, rfl, rfl⟩, ?_⟩)
        exact trivial
      · have kg11 := g11
        try simp only [bs] at kg11
        refine ra_gt (j := 16) rfl rfl rfl rfl g11 rfl rfl rfl (do_fieldaddr rfl ⟨rfl, rfl⟩) (by rfl) ?_
        refine ra_gt (j := 17) rfl rfl rfl rfl g11 rfl rfl rfl (do_load_box rfl rfl rfl ⟨rfl, rfl⟩) (by rfl) ?_
        refine ra_gt (j := 18) rfl rfl rfl rfl g11 rfl rfl rfl (do_fieldaddr rfl ⟨rfl, rfl⟩) (by rfl) ?_
        refine ra_gt (j := 19) rfl rfl rfl rfl g11 rfl rfl rfl (do_load_box rfl rfl rfl ⟨rfl, rfl⟩) (by rfl) ?_
        refine ra_gt (j := 20) rfl rfl rfl rfl g11 rfl rfl rfl (do_move rfl ⟨rfl, rfl⟩) (by rfl) ?_
        refine ra_gt (j := 21) rfl rfl rfl rfl g11 rfl rfl rfl (do_ixn rfl rfl rfl (by first | omega | (simp only [ls] <;> omega)) ⟨rfl, rfl⟩) (by rfl) ?_
        refine ra_gt (j := 22) rfl rfl rfl rfl g11 rfl rfl rfl (do_load_arr rfl rfl (by first | omega | (simp only [ls] <;> omega)) rfl ⟨rfl, rfl⟩) (by rfl) ?_
        refine ra_gt (j := 23) rfl rfl rfl rfl g11 rfl rfl rfl (do_ix0 rfl rfl rfl (by first | omega | (simp only [ls] <;> omega)) ⟨rfl, rfl⟩) (by rfl) ?_
        refine ra_gt (j := 24) rfl rfl rfl rfl g11 rfl rfl rfl (do_load_arr rfl rfl (by first | omega | (simp only [ls] <;> omega)) rfl ⟨rfl, rfl⟩) (by rfl) ?_
        refine ra_gt (j := 25) rfl rfl rfl rfl g11 rfl rfl rfl (do_move rfl ⟨rfl, rfl⟩) (by rfl) ?_
        refine ra_gt (j := 26) rfl rfl rfl rfl g11 rfl rfl rfl (do_fieldaddr rfl ⟨rfl, rfl⟩) (by rfl) ?_
        refine ra_gt (j := 27) rfl rfl rfl rfl g11 rfl rfl rfl (do_load_box rfl rfl rfl ⟨rfl, rfl⟩) (by rfl) ?_
        refine ra_gt (j := 28) rfl rfl rfl rfl g11 rfl rfl rfl (do_move rfl ⟨rfl, rfl⟩) (by rfl) ?_
        refine ra_gt (j := 29) rfl rfl rfl rfl g11 rfl rfl rfl (do_ixn rfl rfl rfl (by first | omega | (simp only [ls] <;> omega)) ⟨rfl, rfl⟩) (by rfl) ?_
        refine ra_gt (j := 30) rfl rfl rfl rfl g11 rfl rfl rfl (do_load_arr rfl rfl (by first | omega | (simp only [ls] <;> omega)) rfl ⟨rfl, rfl⟩) (by rfl) ?_
        refine ra_gt (j := 31) rfl rfl rfl rfl g11 rfl rfl rfl (do_sub rfl rfl (by omega) ⟨rfl, rfl⟩) (by rfl) ?_
        refine n_done ?_
        refine rw_gt 91 15 74 false rfl rfl rfl rfl rfl rfl g11 (do_bin rfl rfl rfl ?_)
        refine rw_t 92 rfl rfl rfl (do_pick_f rfl g11 rfl ?_)
        refine rw_nil ?_
        refine ⟨rfl, ⟨_, rfl, by first | (simp; done) | (simp only [bs]; omega) | (simp [*]; done) | (simp; omega) | (constructor <;> intro h <;> simp_all <;> omega)⟩, ?_⟩
        repeat (refine ⟨⟨_, rfl, rfl⟩, ?_⟩)
        exact trivial
  intro b4 hb4
  refine w_condP hb4 rfl (fun hc5 => ?_) (fun hc5 => ?_)
  · refine w_seq ?_
    -- region 8
    refine w_region ?_
    refine rw_t 4 rfl rfl rfl (do_assign rfl ?_)
    refine rw_nil ?_
    refine w_ret ?_
    exact ret_eq (.inl rfl) (.cons (res_tmp rfl) .nil) [0, 1, 2, 3, 4, 5, 6, 7, 8] (Eq.symm (bool_congr (decide_eq_false (fun q => by have q1 := q.2.2.1 i (by omega); unfold mostOf at q1; omega)))) ⟨.inr ⟨_, rfl, .inl rfl⟩, .inr ⟨_, rfl, .inl rfl⟩, .inr ⟨_, rfl, .inl rfl⟩, .inr ⟨_, rfl, .inl rfl⟩, .inr ⟨_, rfl, .inl rfl⟩, .inr ⟨_, rfl, .inl rfl⟩, .inr ⟨_, rfl, .inl rfl⟩, .inr ⟨_, rfl, .inl rfl⟩, .inr ⟨_, rfl, .inl rfl⟩, trivial⟩ rfl (pre_ok rfl)
  refine w_skip ?_
  -- region 5
  refine w_region ?_
  refine rw_t 42 rfl rfl rfl (do_move rfl ?_)
  refine rw_t 43 rfl rfl rfl (do_add rfl rfl (by omega) ?_)
  refine rw_t 5 rfl rfl rfl (do_assign rfl ?_)
  refine rw_nil ?_
  refine ⟨i + 1, [0, 1, 2, 3, 4, 5, 6, 7, 8, 9, 10], by dsimp only; omega, ⟨by omega, fun a ha => by rcases Nat.lt_or_ge a i with hki | hki; exact g2 a hki; have : a = i := (by omega); subst this; unfold mostOf; omega⟩, ⟨.inr ⟨_, rfl, .inl rfl⟩, .inr ⟨_, rfl, .inl rfl⟩, .inr ⟨_, rfl, .inl rfl⟩, .inr ⟨_, rfl, .inl rfl⟩, .inr ⟨_, rfl, .inl rfl⟩, .inr ⟨_, rfl, .inl rfl⟩, .inr ⟨_, rfl, .inl rfl⟩, .inr ⟨_, rfl, .inl rfl⟩, .inr ⟨_, rfl, .inl rfl⟩, .inr ⟨_, rfl, .inl rfl⟩, .inr ⟨_, rfl, .inl rfl⟩, trivial⟩, rfl, pre_ok rfl, ⟨⟨_, rfl, rfl⟩, ⟨_, rfl, rfl⟩, ⟨_, rfl, rfl⟩, trivial⟩⟩
-- f36 "acequia/acequiaref09.Legal"
set_option maxHeartbeats 8000000 in
set_option synthInstance.maxHeartbeats 400000 in
set_option synthInstance.maxSize 2000 in
theorem t_rLegal (c : Csr) (p : Pre) (h : CsrOK c) (hp : PreLen c p) (e : Event) (he : EvIn e) : Tri Try.prog 36 [.agg [.val (.int .i64 c.N), .val (.int .i64 c.S), .val (.int .i64 c.T), .slc 0 0 c.First.length none, .slc 1 0 c.Head.length none, .slc 2 0 c.Rev.length none, .slc 3 0 c.Cap.length none, .slc 4 0 c.Arc.length none, .slc 5 0 c.Back.length none], .agg [.slc 6 0 p.Res.length none, .slc 7 0 p.Ex.length none, .slc 8 0 p.H.length none], .agg [.val (.int .i64 e.who), .val (.int .u8 e.what), .val (.int .i64 e.u), .val (.int .i64 e.arc), .val (.int .i64 e.d), .val (.int .i64 e.h), .val (.int .i64 e.low)]] [SO.ints false .i64 c.First, SO.ints false .i64 c.Head, SO.ints false .i64 c.Rev, SO.ints false .i64 c.Cap, SO.ints false .i64 c.Arc, SO.bools false c.Back, SO.ints false .i64 p.Res, SO.ints false .i64 p.Ex, SO.ints false .i64 p.H] (fun s H => s = .val (.int .i64 (legalE c p e)) ∧ H = [SO.ints false .i64 c.First, SO.ints false .i64 c.Head, SO.ints false .i64 c.Rev, SO.ints false .i64 c.Cap, SO.ints false .i64 c.Arc, SO.bools false c.Back, SO.ints false .i64 p.Res, SO.ints false .i64 p.Ex, SO.ints false .i64 p.H]) := by
  refine tri_of_w (fn := Try.f36) Try.func36 rfl (by simp [Try.f36]) ?_
  intro ρ w hρ
  refine w_seq ?_
  have hn := h.n
  have hf := h.first
  have hhd := h.head
  have hrl := h.rev
  have hcl := h.cap
  have hal := h.arc
  have hbl := h.back
  have hr := hp.res
  have hx := hp.ex
  have hh := hp.h
  -- region 0
  refine w_region ?_
  refine rw_t 3 rfl rfl rfl (n_box_agg (n := 9) rfl rfl ?_)
  refine rw_t 4 rfl rfl rfl (n_box_agg (n := 10) rfl rfl ?_)
  refine rw_t 5 rfl rfl rfl (n_box_agg (n := 11) rfl rfl ?_)
  refine rw_t 6 rfl rfl rfl (do_assign rfl ?_)
  refine rw_nil ?_
  refine w_seq ?_
  refine w_seqB 40 ((((((e.what ≠ 1 ∧ e.what ≠ 2) ∨ e.u < 0) ∨ e.u ≥ c.N) ∨ e.u = c.S) ∨ e.u = c.T)) ?_ ?_
  · -- region 1
    refine w_region ?_
    refine rw_t 7 rfl rfl rfl (do_fieldaddr rfl ?_)
    refine rw_t 8 rfl rfl rfl (do_load_box rfl rfl rfl ?_)
    refine rw_t 9 rfl rfl rfl (do_bin rfl rfl rfl ?_)
    refine rw_t 10 rfl rfl rfl (do_move rfl ?_)
    refine rw_case 10 rfl (fun g1 => ?_) (fun g1 => ?_)
    · have kg1 := g1
      try simp only [bs] at kg1
      refine rw_gt 11 3 10 true rfl rfl rfl rfl rfl rfl g1 (do_fieldaddr rfl ?_)
      refine rw_gt 12 3 10 true rfl rfl rfl rfl rfl rfl g1 (do_load_box rfl rfl rfl ?_)
      refine rw_gt 13 3 10 true rfl rfl rfl rfl rfl rfl g1 (do_bin rfl rfl rfl ?_)
      refine rw_t 14 rfl rfl rfl (do_pick_t rfl g1 rfl ?_)
      refine rw_t 15 rfl rfl rfl (do_move rfl ?_)
      refine rw_case 15 rfl (fun g2 => ?_) (fun g2 => ?_)
      · have kg2 := g2
        try simp only [bs] at kg2
        refine rw_gf 16 8 15 false rfl rfl rfl rfl rfl rfl (by rw [g2]; decide) ?_
        refine rw_gf 17 8 15 false rfl rfl rfl rfl rfl rfl (by rw [g2]; decide) ?_
        refine rw_gf 18 8 15 false rfl rfl rfl rfl rfl rfl (by rw [g2]; decide) ?_
        refine rw_t 19 rfl rfl rfl (do_pick_t rfl g2 rfl ?_)
        refine rw_t 20 rfl rfl rfl (do_move rfl ?_)
        refine rw_gf 21 13 20 false rfl rfl rfl rfl rfl rfl (by decide) ?_
        refine rw_gf 22 13 20 false rfl rfl rfl rfl rfl rfl (by decide) ?_
        refine rw_gf 23 13 20 false rfl rfl rfl rfl rfl rfl (by decide) ?_
        refine rw_gf 24 13 20 false rfl rfl rfl rfl rfl rfl (by decide) ?_
        refine rw_gf 25 13 20 false rfl rfl rfl rfl rfl rfl (by decide) ?_
        refine rw_t 26 rfl rfl rfl (do_pick_t rfl rfl rfl ?_)
        refine rw_t 27 rfl rfl rfl (do_move rfl ?_)
        refine rw_gf 28 20 27 false rfl rfl rfl rfl rfl rfl (by decide) ?_
        refine rw_gf 29 20 27 false rfl rfl rfl rfl rfl rfl (by decide) ?_
        refine rw_gf 30 20 27 false rfl rfl rfl rfl rfl rfl (by decide) ?_
        refine rw_gf 31 20 27 false rfl rfl rfl rfl rfl rfl (by decide) ?_
        refine rw_gf 32 20 27 false rfl rfl rfl rfl rfl rfl (by decide) ?_
        refine rw_t 33 rfl rfl rfl (do_pick_t rfl rfl rfl ?_)
        refine rw_t 34 rfl rfl rfl (do_move rfl ?_)
        refine rw_gf 35 27 34 false rfl rfl rfl rfl rfl rfl (by decide) ?_
        refine rw_gf 36 27 34 false rfl rfl rfl rfl rfl rfl (by decide) ?_
        refine rw_gf 37 27 34 false rfl rfl rfl rfl rfl rfl (by decide) ?_
        refine rw_gf 38 27 34 false rfl rfl rfl rfl rfl rfl (by decide) ?_
        refine rw_gf 39 27 34 false rfl rfl rfl rfl rfl rfl (by decide) ?_
        refine rw_t 40 rfl rfl rfl (do_pick_t rfl rfl rfl ?_)
        refine rw_nil ?_
        refine ⟨rfl, ⟨_, rfl, by first | (simp; done) | (simp only [bs]; omega) | (simp [*]; done) | (simp; omega) | (constructor <;> intro h <;> simp_all <;> omega)⟩, ?_⟩
        repeat (refine ⟨⟨_, rfl, rfl⟩, ?_⟩)
        exact trivial
      · have kg2 := g2
        try simp only [bs] at kg2
        refine rw_gt 16 8 15 false rfl rfl rfl rfl rfl rfl g2 (do_fieldaddr rfl ?_)
        refine rw_gt 17 8 15 false rfl rfl rfl rfl rfl rfl g2 (do_load_box rfl rfl rfl ?_)
        refine rw_gt 18 8 15 false rfl rfl rfl rfl rfl rfl g2 (do_bin rfl rfl rfl ?_)
        refine rw_t 19 rfl rfl rfl (do_pick_f rfl g2 rfl ?_)
        refine rw_t 20 rfl rfl rfl (do_move rfl ?_)
        refine rw_case 20 rfl (fun g3 => ?_) (fun g3 => ?_)
        · have kg3 := g3
          try simp only [bs] at kg3
          refine rw_gf 21 13 20 false rfl rfl rfl rfl rfl rfl (by rw [g3]; decide) ?_
          refine rw_gf 22 13 20 false rfl rfl rfl rfl rfl rfl (by rw [g3]; decide) ?_
          refine rw_gf 23 13 20 false rfl rfl rfl rfl rfl rfl (by rw [g3]; decide) ?_
          refine rw_gf 24 13 20 false rfl rfl rfl rfl rfl rfl (by rw [g3]; decide) ?_
          refine rw_gf 25 13 20 false rfl rfl rfl rfl rfl rfl (by rw [g3]; decide) ?_
          refine rw_t 26 rfl rfl rfl (do_pick_t rfl g3 rfl ?_)
          refine rw_t 27 rfl rfl rfl (do_move rfl ?_)
          refine rw_gf 28 20 27 false rfl rfl rfl rfl rfl rfl (by decide) ?_
          refine rw_gf 29 20 27 false rfl rfl rfl rfl rfl rfl (by decide) ?_
          refine rw_gf 30 20 27 false rfl rfl rfl rfl rfl rfl (by decide) ?_
          refine rw_gf 31 20 27 false rfl rfl rfl rfl rfl rfl (by decide) ?_
          refine rw_gf 32 20 27 false rfl rfl rfl rfl rfl rfl (by decide) ?_
          refine rw_t 33 rfl rfl rfl (do_pick_t rfl rfl rfl ?_)
          refine rw_t 34 rfl rfl rfl (do_move rfl ?_)
          refine rw_gf 35 27 34 false rfl rfl rfl rfl rfl rfl (by decide) ?_
          refine rw_gf 36 27 34 false rfl rfl rfl rfl rfl rfl (by decide) ?_
          refine rw_gf 37 27 34 false rfl rfl rfl rfl rfl rfl (by decide) ?_
          refine rw_gf 38 27 34 false rfl rfl rfl rfl rfl rfl (by decide) ?_
          refine rw_gf 39 27 34 false rfl rfl rfl rfl rfl rfl (by decide) ?_
          refine rw_t 40 rfl rfl rfl (do_pick_t rfl rfl rfl ?_)
          refine rw_nil ?_
          refine ⟨rfl, ⟨_, rfl, by first | (simp; done) | (simp only [bs]; omega) | (simp [*]; done) | (simp; omega) | (constructor <;> intro h <;> simp_all <;> omega)⟩, ?_⟩
          repeat (refine ⟨⟨_, rfl, rfl⟩, ?_⟩)
          exact trivial
        · have kg3 := g3
          try simp only [bs] at kg3
          refine rw_gt 21 13 20 false rfl rfl rfl rfl rfl rfl g3 (do_fieldaddr rfl ?_)
          refine rw_gt 22 13 20 false rfl rfl rfl rfl rfl rfl g3 (do_load_box rfl rfl rfl ?_)
          refine rw_gt 23 13 20 false rfl rfl rfl rfl rfl rfl g3 (do_fieldaddr rfl ?_)
          refine rw_gt 24 13 20 false rfl rfl rfl rfl rfl rfl g3 (do_load_box rfl rfl rfl ?_)
          refine rw_gt 25 13 20 false rfl rfl rfl rfl rfl rfl g3 (do_bin rfl rfl rfl ?_)
          refine rw_t 26 rfl rfl rfl (do_pick_f rfl g3 rfl ?_)
          refine rw_t 27 rfl rfl rfl (do_move rfl ?_)
          refine rw_case 27 rfl (fun g4 => ?_) (fun g4 => ?_)
          · have kg4 := g4
            try simp only [bs] at kg4
            refine rw_gf 28 20 27 false rfl rfl rfl rfl rfl rfl (by rw [g4]; decide) ?_
            refine rw_gf 29 20 27 false rfl rfl rfl rfl rfl rfl (by rw [g4]; decide) ?_
            refine rw_gf 30 20 27 false rfl rfl rfl rfl rfl rfl (by rw [g4]; decide) ?_
            refine rw_gf 31 20 27 false rfl rfl rfl rfl rfl rfl (by rw [g4]; decide) ?_
            refine rw_gf 32 20 27 false rfl rfl rfl rfl rfl rfl (by rw [g4]; decide) ?_
            refine rw_t 33 rfl rfl rfl (do_pick_t rfl g4 rfl ?_)
            refine rw_t 34 rfl rfl rfl (do_move rfl ?_)
            refine rw_gf 35 27 34 false rfl rfl rfl rfl rfl rfl (by decide) ?_
            refine rw_gf 36 27 34 false rfl rfl rfl rfl rfl rfl (by decide) ?_
            refine rw_gf 37 27 34 false rfl rfl rfl rfl rfl rfl (by decide) ?_
            refine rw_gf 38 27 34 false rfl rfl rfl rfl rfl rfl (by decide) ?_
            refine rw_gf 39 27 34 false rfl rfl rfl rfl rfl rfl (by decide) ?_
            refine rw_t 40 rfl rfl rfl (do_pick_t rfl rfl rfl ?_)
            refine rw_nil ?_
            refine ⟨rfl, ⟨_, rfl, by first | (simp; done) | (simp only [bs]; omega) | (simp [*]; done) | (simp; omega) | (constructor <;> intro h <;> simp_all <;> omega)⟩, ?_⟩
            repeat (refine ⟨⟨_, rfl, rfl⟩, ?_⟩)
            exact trivial
          · have kg4 := g4
            try simp only [bs] at kg4
            refine rw_gt 28 20 27 false rfl rfl rfl rfl rfl rfl g4 (do_fieldaddr rfl ?_)
            refine rw_gt 29 20 27 false rfl rfl rfl rfl rfl rfl g4 (do_load_box rfl rfl rfl ?_)
            refine rw_gt 30 20 27 false rfl rfl rfl rfl rfl rfl g4 (do_fieldaddr rfl ?_)
            refine rw_gt 31 20 27 false rfl rfl rfl rfl rfl rfl g4 (do_load_box rfl rfl rfl ?_)
            refine rw_gt 32 20 27 false rfl rfl rfl rfl rfl rfl g4 (do_bin rfl rfl rfl ?_)
            refine rw_t 33 rfl rfl rfl (do_pick_f rfl g4 rfl ?_)
            refine rw_t 34 rfl rfl rfl (do_move rfl ?_)
            refine rw_case 34 rfl (fun g5 => ?_) (fun g5 => ?_)
            · have kg5 := g5
              try simp only [bs] at kg5
              refine rw_gf 35 27 34 false rfl rfl rfl rfl rfl rfl (by rw [g5]; decide) ?_
              refine rw_gf 36 27 34 false rfl rfl rfl rfl rfl rfl (by rw [g5]; decide) ?_
              refine rw_gf 37 27 34 false rfl rfl rfl rfl rfl rfl (by rw [g5]; decide) ?_
              refine rw_gf 38 27 34 false rfl rfl rfl rfl rfl rfl (by rw [g5]; decide) ?_
              refine rw_gf 39 27 34 false rfl rfl rfl rfl rfl rfl (by rw [g5]; decide) ?_
              refine rw_t 40 rfl rfl rfl (do_pick_t rfl g5 rfl ?_)
              refine rw_nil ?_
              refine ⟨rfl, ⟨_, rfl, by first | (simp; done) | (simp only [bs]; omega) | (simp [*]; done) | (simp; omega) | (constructor <;> intro h <;> simp_all <;> omega)⟩, ?_⟩
              repeat (refine ⟨⟨_, rfl, rfl⟩, ?_⟩)
              exact trivial
            · have kg5 := g5
              try simp only [bs] at kg5
              refine rw_gt 35 27 34 false rfl rfl rfl rfl rfl rfl g5 (do_fieldaddr rfl ?_)
              refine rw_gt 36 27 34 false rfl rfl rfl rfl rfl rfl g5 (do_load_box rfl rfl rfl ?_)
              refine rw_gt 37 27 34 false rfl rfl rfl rfl rfl rfl g5 (do_fieldaddr rfl ?_)
              refine rw_gt 38 27 34 false rfl rfl rfl rfl rfl rfl g5 (do_load_box rfl rfl rfl ?_)
              refine rw_gt 39 27 34 false rfl rfl rfl rfl rfl rfl g5 (do_bin rfl rfl rfl ?_)
              refine rw_t 40 rfl rfl rfl (do_pick_f rfl g5 rfl ?_)
              refine rw_nil ?_
              refine ⟨rfl, ⟨_, rfl, by first | (simp; done) | (simp only [bs]; omega) | (simp [*]; done) | (simp; omega) | (constructor <;> intro h <;> simp_all <;> omega)⟩, ?_⟩
              repeat (refine ⟨⟨_, rfl, rfl⟩, ?_⟩)
              exact trivial
    · have kg1 := g1
      try simp only [bs] at kg1
      refine rw_gf 11 3 10 true rfl rfl rfl rfl rfl rfl (by rw [g1]; decide) ?_
      refine rw_gf 12 3 10 true rfl rfl rfl rfl rfl rfl (by rw [g1]; decide) ?_
      refine rw_gf 13 3 10 true rfl rfl rfl rfl rfl rfl (by rw [g1]; decide) ?_
      refine rw_t 14 rfl rfl rfl (do_pick_f rfl g1 rfl ?_)
      refine rw_t 15 rfl rfl rfl (do_move rfl ?_)
      refine rw_gt 16 8 15 false rfl rfl rfl rfl rfl rfl rfl (do_fieldaddr rfl ?_)
      refine rw_gt 17 8 15 false rfl rfl rfl rfl rfl rfl rfl (do_load_box rfl rfl rfl ?_)
      refine rw_gt 18 8 15 false rfl rfl rfl rfl rfl rfl rfl (do_bin rfl rfl rfl ?_)
      refine rw_t 19 rfl rfl rfl (do_pick_f rfl rfl rfl ?_)
      refine rw_t 20 rfl rfl rfl (do_move rfl ?_)
      refine rw_case 20 rfl (fun g6 => ?_) (fun g6 => ?_)
      · have kg6 := g6
        try simp only [bs] at kg6
        refine rw_gf 21 13 20 false rfl rfl rfl rfl rfl rfl (by rw [g6]; decide) ?_
        refine rw_gf 22 13 20 false rfl rfl rfl rfl rfl rfl (by rw [g6]; decide) ?_
        refine rw_gf 23 13 20 false rfl rfl rfl rfl rfl rfl (by rw [g6]; decide) ?_
        refine rw_gf 24 13 20 false rfl rfl rfl rfl rfl rfl (by rw [g6]; decide) ?_
        refine rw_gf 25 13 20 false rfl rfl rfl rfl rfl rfl (by rw [g6]; decide) ?_
        refine rw_t 26 rfl rfl rfl (do_pick_t rfl g6 rfl ?_)
        refine rw_t 27 rfl rfl rfl (do_move rfl ?_)
        refine rw_gf 28 20 27 false rfl rfl rfl rfl rfl rfl (by decide) ?_
        refine rw_gf 29 20 27 false rfl rfl rfl rfl rfl rfl (by decide) ?_
        refine rw_gf 30 20 27 false rfl rfl rfl rfl rfl rfl (by decide) ?_
        refine rw_gf 31 20 27 false rfl rfl rfl rfl rfl rfl (by decide) ?_
        refine rw_gf 32 20 27 false rfl rfl rfl rfl rfl rfl (by decide) ?_
        refine rw_t 33 rfl rfl rfl (do_pick_t rfl rfl rfl ?_)
        refine rw_t 34 rfl rfl rfl (do_move rfl ?_)
        refine rw_gf 35 27 34 false rfl rfl rfl rfl rfl rfl (by decide) ?_
        refine rw_gf 36 27 34 false rfl rfl rfl rfl rfl rfl (by decide) ?_
        refine rw_gf 37 27 34 false rfl rfl rfl rfl rfl rfl (by decide) ?_
        refine rw_gf 38 27 34 false rfl rfl rfl rfl rfl rfl (by decide) ?_
        refine rw_gf 39 27 34 false rfl rfl rfl rfl rfl rfl (by decide) ?_
        refine rw_t 40 rfl rfl rfl (do_pick_t rfl rfl rfl ?_)
        refine rw_nil ?_
        refine ⟨rfl, ⟨_, rfl, by first | (simp; done) | (simp only [bs]; omega) | (simp [*]; done) | (simp; omega) | (constructor <;> intro h <;> simp_all <;> omega)⟩, ?_⟩
        repeat (refine ⟨⟨_, rfl, rfl⟩, ?_⟩)
        exact trivial
      · have kg6 := g6
        try simp only [bs] at kg6
        refine rw_gt 21 13 20 false rfl rfl rfl rfl rfl rfl g6 (do_fieldaddr rfl ?_)
        refine rw_gt 22 13 20 false rfl rfl rfl rfl rfl rfl g6 (do_load_box rfl rfl rfl ?_)
        refine rw_gt 23 13 20 false rfl rfl rfl rfl rfl rfl g6 (do_fieldaddr rfl ?_)
        refine rw_gt 24 13 20 false rfl rfl rfl rfl rfl rfl g6 (do_load_box rfl rfl rfl ?_)
        refine rw_gt 25 13 20 false rfl rfl rfl rfl rfl rfl g6 (do_bin rfl rfl rfl ?_)
        refine rw_t 26 rfl rfl rfl (do_pick_f rfl g6 rfl ?_)
        refine rw_t 27 rfl rfl rfl (do_move rfl ?_)
        refine rw_case 27 rfl (fun g7 => ?_) (fun g7 => ?_)
        · have kg7 := g7
          try simp only [bs] at kg7
          refine rw_gf 28 20 27 false rfl rfl rfl rfl rfl rfl (by rw [g7]; decide) ?_
          refine rw_gf 29 20 27 false rfl rfl rfl rfl rfl rfl (by rw [g7]; decide) ?_
          refine rw_gf 30 20 27 false rfl rfl rfl rfl rfl rfl (by rw [g7]; decide) ?_
          refine rw_gf 31 20 27 false rfl rfl rfl rfl rfl rfl (by rw [g7]; decide) ?_
          refine rw_gf 32 20 27 false rfl rfl rfl rfl rfl rfl (by rw [g7]; decide) ?_
          refine rw_t 33 rfl rfl rfl (do_pick_t rfl g7 rfl ?_)
          refine rw_t 34 rfl rfl rfl (do_move rfl ?_)
          refine rw_gf 35 27 34 false rfl rfl rfl rfl rfl rfl (by decide) ?_
          refine rw_gf 36 27 34 false rfl rfl rfl rfl rfl rfl (by decide) ?_
          refine rw_gf 37 27 34 false rfl rfl rfl rfl rfl rfl (by decide) ?_
          refine rw_gf 38 27 34 false rfl rfl rfl rfl rfl rfl (by decide) ?_
          refine rw_gf 39 27 34 false rfl rfl rfl rfl rfl rfl (by decide) ?_
          refine rw_t 40 rfl rfl rfl (do_pick_t rfl rfl rfl ?_)
          refine rw_nil ?_
          refine ⟨rfl, ⟨_, rfl, by first | (simp; done) | (simp only [bs]; omega) | (simp [*]; done) | (simp; omega) | (constructor <;> intro h <;> simp_all <;> omega)⟩, ?_⟩
          repeat (refine ⟨⟨_, rfl, rfl⟩, ?_⟩)
          exact trivial
        · have kg7 := g7
          try simp only [bs] at kg7
          refine rw_gt 28 20 27 false rfl rfl rfl rfl rfl rfl g7 (do_fieldaddr rfl ?_)
          refine rw_gt 29 20 27 false rfl rfl rfl rfl rfl rfl g7 (do_load_box rfl rfl rfl ?_)
          refine rw_gt 30 20 27 false rfl rfl rfl rfl rfl rfl g7 (do_fieldaddr rfl ?_)
          refine rw_gt 31 20 27 false rfl rfl rfl rfl rfl rfl g7 (do_load_box rfl rfl rfl ?_)
          refine rw_gt 32 20 27 false rfl rfl rfl rfl rfl rfl g7 (do_bin rfl rfl rfl ?_)
          refine rw_t 33 rfl rfl rfl (do_pick_f rfl g7 rfl ?_)
          refine rw_t 34 rfl rfl rfl (do_move rfl ?_)
          refine rw_case 34 rfl (fun g8 => ?_) (fun g8 => ?_)
          · have kg8 := g8
            try simp only [bs] at kg8
            refine rw_gf 35 27 34 false rfl rfl rfl rfl rfl rfl (by rw [g8]; decide) ?_
            refine rw_gf 36 27 34 false rfl rfl rfl rfl rfl rfl (by rw [g8]; decide) ?_
            refine rw_gf 37 27 34 false rfl rfl rfl rfl rfl rfl (by rw [g8]; decide) ?_
            refine rw_gf 38 27 34 false rfl rfl rfl rfl rfl rfl (by rw [g8]; decide) ?_
            refine rw_gf 39 27 34 false rfl rfl rfl rfl rfl rfl (by rw [g8]; decide) ?_
            refine rw_t 40 rfl rfl rfl (do_pick_t rfl g8 rfl ?_)
            refine rw_nil ?_
            refine ⟨rfl, ⟨_, rfl, by first | (simp; done) | (simp only [bs]; omega) | (simp [*]; done) | (simp; omega) | (constructor <;> intro h <;> simp_all <;> omega)⟩, ?_⟩
            repeat (refine ⟨⟨_, rfl, rfl⟩, ?_⟩)
            exact trivial
          · have kg8 := g8
            try simp only [bs] at kg8
            refine rw_gt 35 27 34 false rfl rfl rfl rfl rfl rfl g8 (do_fieldaddr rfl ?_)
            refine rw_gt 36 27 34 false rfl rfl rfl rfl rfl rfl g8 (do_load_box rfl rfl rfl ?_)
            refine rw_gt 37 27 34 false rfl rfl rfl rfl rfl rfl g8 (do_fieldaddr rfl ?_)
            refine rw_gt 38 27 34 false rfl rfl rfl rfl rfl rfl g8 (do_load_box rfl rfl rfl ?_)
            refine rw_gt 39 27 34 false rfl rfl rfl rfl rfl rfl g8 (do_bin rfl rfl rfl ?_)
            refine rw_t 40 rfl rfl rfl (do_pick_f rfl g8 rfl ?_)
            refine rw_nil ?_
            refine ⟨rfl, ⟨_, rfl, by first | (simp; done) | (simp only [bs]; omega) | (simp [*]; done) | (simp; omega) | (constructor <;> intro h <;> simp_all <;> omega)⟩, ?_⟩
            repeat (refine ⟨⟨_, rfl, rfl⟩, ?_⟩)
            exact trivial
  intro b1 hb1
  refine w_condP hb1 rfl (fun hc1 => ?_) (fun hc1 => ?_)
  · refine w_seq ?_
    -- region 2
    refine w_region ?_
    refine rw_t 6 rfl rfl rfl (do_assign rfl ?_)
    refine rw_nil ?_
    refine w_ret ?_
    exact ret_eq (.inl rfl) (.cons (res_tmp rfl) .nil) [0, 1, 2, 3, 4, 5, 6, 7, 8] (Eq.symm (val_congr (by unfold legalE; rw [if_pos (by omega)]))) ⟨.inr ⟨_, rfl, .inl rfl⟩, .inr ⟨_, rfl, .inl rfl⟩, .inr ⟨_, rfl, .inl rfl⟩, .inr ⟨_, rfl, .inl rfl⟩, .inr ⟨_, rfl, .inl rfl⟩, .inr ⟨_, rfl, .inl rfl⟩, .inr ⟨_, rfl, .inl rfl⟩, .inr ⟨_, rfl, .inl rfl⟩, .inr ⟨_, rfl, .inl rfl⟩, trivial⟩ rfl (pre_ok rfl)
  refine w_skip ?_
  refine w_seq ?_
  refine w_seq ?_
  -- region 3
  refine w_region ?_
  refine rw_t 41 rfl rfl rfl (do_fieldaddr rfl ?_)
  refine rw_t 42 rfl rfl rfl (do_load_box rfl rfl rfl ?_)
  refine rw_t 43 rfl rfl rfl (do_bin rfl rfl rfl ?_)
  refine rw_nil ?_
  refine w_cond rfl (fun hc2 => ?_) (fun hc2 => ?_)
  all_goals try simp only [bs] at hc2
  · refine w_seq ?_
    refine w_seqB 60 ((e.h ≤ (p.H.getD e.u.toNat 0) ∨ e.h > (2 * c.N))) ?_ ?_
    · -- region 4
      refine w_draw mixed [0, 1, 0, 4, 0, 16, 60, 124, 255, 511, 1023, 2047, 1023, 5119, 13311] [32767, 65535] (by kernel_rfl) (by kernel_rfl) rfl rfl rfl (hle hρ rfl) ?_
      refine ra_q (j := 0) rfl rfl rfl rfl (do_fieldaddr rfl ⟨rfl, rfl⟩) (by rfl) ?_
      refine ra_q (j := 1) rfl rfl rfl rfl (do_load_box rfl rfl rfl ⟨rfl, rfl⟩) (by rfl) ?_
      refine ra_q (j := 2) rfl rfl rfl rfl (do_fieldaddr rfl ⟨rfl, rfl⟩) (by rfl) ?_
      refine ra_q (j := 3) rfl rfl rfl rfl (do_load_box rfl rfl rfl ⟨rfl, rfl⟩) (by rfl) ?_
      refine ra_q (j := 4) rfl rfl rfl rfl (do_fieldaddr rfl ⟨rfl, rfl⟩) (by rfl) ?_
      refine ra_q (j := 5) rfl rfl rfl rfl (do_load_box rfl rfl rfl ⟨rfl, rfl⟩) (by rfl) ?_
      refine ra_q (j := 6) rfl rfl rfl rfl (do_ix0 rfl rfl rfl (by first | omega | (simp only [ls] <;> omega)) ⟨rfl, rfl⟩) (by rfl) ?_
      refine ra_q (j := 7) rfl rfl rfl rfl (do_load_arr rfl rfl (by first | omega | (simp only [ls] <;> omega)) rfl ⟨rfl, rfl⟩) (by rfl) ?_
      refine ra_q (j := 8) rfl rfl rfl rfl (do_bin rfl rfl rfl ⟨rfl, rfl⟩) (by rfl) ?_
      refine ra_q (j := 9) rfl rfl rfl rfl (do_move rfl ⟨rfl, rfl⟩) (by rfl) ?_
      refine ra_case 53 rfl (fun g9 => ?_) (fun g9 => ?_)
      · have kg9 := g9
        try simp only [bs] at kg9
        refine ra_gf (j := 10) rfl rfl rfl rfl (by rw [g9]; decide) rfl rfl rfl ?_
        refine ra_gf (j := 11) rfl rfl rfl rfl (by rw [g9]; decide) rfl rfl rfl ?_
        refine ra_gf (j := 12) rfl rfl rfl rfl (by rw [g9]; decide) rfl rfl rfl ?_
        refine ra_gf (j := 13) rfl rfl rfl rfl (by rw [g9]; decide) rfl rfl rfl ?_
        refine ra_gf (j := 14) rfl rfl rfl rfl (by rw [g9]; decide) rfl rfl rfl ?_
        refine n_done ?_
        refine rw_gf 59 9 53 false rfl rfl rfl rfl rfl rfl (by rw [g9]; decide) ?_
        refine rw_t 60 rfl rfl rfl (do_pick_t rfl g9 rfl ?_)
        refine rw_nil ?_
        refine ⟨rfl, ⟨_, rfl, by first | (simp; done) | (simp only [bs]; omega) | (simp [*]; done) | (simp; omega) | (constructor <;> intro h <;> simp_all <;> omega)⟩, ?_⟩
        repeat (refine ⟨⟨_, rfl, rfl⟩, ?_⟩)
        exact trivial
      · have kg9 := g9
        try simp only [bs] at kg9
        refine ra_gt (j := 10) rfl rfl rfl rfl g9 rfl rfl rfl (do_fieldaddr rfl ⟨rfl, rfl⟩) (by rfl) ?_
        refine ra_gt (j := 11) rfl rfl rfl rfl g9 rfl rfl rfl (do_load_box rfl rfl rfl ⟨rfl, rfl⟩) (by rfl) ?_
        refine ra_gt (j := 12) rfl rfl rfl rfl g9 rfl rfl rfl (do_fieldaddr rfl ⟨rfl, rfl⟩) (by rfl) ?_
        refine ra_gt (j := 13) rfl rfl rfl rfl g9 rfl rfl rfl (do_load_box rfl rfl rfl ⟨rfl, rfl⟩) (by rfl) ?_
        refine ra_gt (j := 14) rfl rfl rfl rfl g9 rfl rfl rfl (do_mul rfl rfl (by omega) ⟨rfl, rfl⟩) (by rfl) ?_
        refine n_done ?_
        refine rw_gt 59 9 53 false rfl rfl rfl rfl rfl rfl g9 (do_bin rfl rfl rfl ?_)
        refine rw_t 60 rfl rfl rfl (do_pick_f rfl g9 rfl ?_)
        refine rw_nil ?_
        refine ⟨rfl, ⟨_, rfl, by first | (simp; done) | (simp only [bs]; omega) | (simp [*]; done) | (simp; omega) | (constructor <;> intro h <;> simp_all <;> omega)⟩, ?_⟩
        repeat (refine ⟨⟨_, rfl, rfl⟩, ?_⟩)
        exact trivial
    intro b2 hb2
    refine w_condP hb2 rfl (fun hc3 => ?_) (fun hc3 => ?_)
    · refine w_seq ?_
      -- region 5
      refine w_region ?_
      refine rw_t 6 rfl rfl rfl (do_assign rfl ?_)
      refine rw_nil ?_
      refine w_ret ?_
      exact ret_eq (.inl rfl) (.cons (res_tmp rfl) .nil) [0, 1, 2, 3, 4, 5, 6, 7, 8] (Eq.symm (val_congr (by unfold legalE liftE; rw [if_neg (by omega), if_pos (by omega), if_pos (by omega)]))) ⟨.inr ⟨_, rfl, .inl rfl⟩, .inr ⟨_, rfl, .inl rfl⟩, .inr ⟨_, rfl, .inl rfl⟩, .inr ⟨_, rfl, .inl rfl⟩, .inr ⟨_, rfl, .inl rfl⟩, .inr ⟨_, rfl, .inl rfl⟩, .inr ⟨_, rfl, .inl rfl⟩, .inr ⟨_, rfl, .inl rfl⟩, .inr ⟨_, rfl, .inl rfl⟩, trivial⟩ rfl (pre_ok rfl)
    refine w_skip ?_
    refine w_seq ?_
    -- region 6
    refine w_region ?_
    refine rw_t 6 rfl rfl rfl (do_assign rfl ?_)
    refine rw_nil ?_
    refine w_ret ?_
    exact ret_eq (.inl rfl) (.cons (res_tmp rfl) .nil) [0, 1, 2, 3, 4, 5, 6, 7, 8] (Eq.symm (val_congr (by unfold legalE liftE; rw [if_neg (by omega), if_pos (by omega), if_neg (by omega)]))) ⟨.inr ⟨_, rfl, .inl rfl⟩, .inr ⟨_, rfl, .inl rfl⟩, .inr ⟨_, rfl, .inl rfl⟩, .inr ⟨_, rfl, .inl rfl⟩, .inr ⟨_, rfl, .inl rfl⟩, .inr ⟨_, rfl, .inl rfl⟩, .inr ⟨_, rfl, .inl rfl⟩, .inr ⟨_, rfl, .inl rfl⟩, .inr ⟨_, rfl, .inl rfl⟩, trivial⟩ rfl (pre_ok rfl)
  refine w_skip ?_
  refine w_seq ?_
  have hm := h.mono e.u.toNat (by omega)
  have hmt : (e.u + 1).toNat = e.u.toNat + 1 := by omega
  rw [← hmt] at hm
  refine w_seqB 81 ((e.arc < (c.First.getD e.u.toNat 0) ∨ e.arc ≥ (c.First.getD ((e.u + 1).toNat) 0))) ?_ ?_
  · -- region 7
    refine w_draw mixed [0, 1, 0, 4, 0, 16, 60, 124, 255, 511, 1023, 2047, 1023, 5119, 1023, 17407, 50175, 127999, 259071] [524287, 1048575] (by kernel_rfl) (by kernel_rfl) rfl rfl rfl (hle hρ rfl) ?_
    refine ra_q (j := 0) rfl rfl rfl rfl (do_fieldaddr rfl ⟨rfl, rfl⟩) (by rfl) ?_
    refine ra_q (j := 1) rfl rfl rfl rfl (do_load_box rfl rfl rfl ⟨rfl, rfl⟩) (by rfl) ?_
    refine ra_q (j := 2) rfl rfl rfl rfl (do_fieldaddr rfl ⟨rfl, rfl⟩) (by rfl) ?_
    refine ra_q (j := 3) rfl rfl rfl rfl (do_load_box rfl rfl rfl ⟨rfl, rfl⟩) (by rfl) ?_
    refine ra_q (j := 4) rfl rfl rfl rfl (do_fieldaddr rfl ⟨rfl, rfl⟩) (by rfl) ?_
    refine ra_q (j := 5) rfl rfl rfl rfl (do_load_box rfl rfl rfl ⟨rfl, rfl⟩) (by rfl) ?_
    refine ra_q (j := 6) rfl rfl rfl rfl (do_ix0 rfl rfl rfl (by first | omega | (simp only [ls] <;> omega)) ⟨rfl, rfl⟩) (by rfl) ?_
    refine ra_q (j := 7) rfl rfl rfl rfl (do_load_arr rfl rfl (by first | omega | (simp only [ls] <;> omega)) rfl ⟨rfl, rfl⟩) (by rfl) ?_
    refine ra_q (j := 8) rfl rfl rfl rfl (do_bin rfl rfl rfl ⟨rfl, rfl⟩) (by rfl) ?_
    refine ra_q (j := 9) rfl rfl rfl rfl (do_move rfl ⟨rfl, rfl⟩) (by rfl) ?_
    refine ra_case 70 rfl (fun g10 => ?_) (fun g10 => ?_)
    · have kg10 := g10
      try simp only [bs] at kg10
      refine ra_gf (j := 10) rfl rfl rfl rfl (by rw [g10]; decide) rfl rfl rfl ?_
      refine ra_gf (j := 11) rfl rfl rfl rfl (by rw [g10]; decide) rfl rfl rfl ?_
      refine ra_gf (j := 12) rfl rfl rfl rfl (by rw [g10]; decide) rfl rfl rfl ?_
      refine ra_gf (j := 13) rfl rfl rfl rfl (by rw [g10]; decide) rfl rfl rfl ?_
      refine ra_gf (j := 14) rfl rfl rfl rfl (by rw [g10]; decide) rfl rfl rfl ?_
      refine ra_gf (j := 15) rfl rfl rfl rfl (by rw [g10]; decide) rfl rfl rfl ?_
      refine ra_gf (j := 16) rfl rfl rfl rfl (by rw [g10]; decide) rfl rfl rfl ?_
      refine ra_gf (j := 17) rfl rfl rfl rfl (by rw [g10]; decide) rfl rfl rfl ?_
      refine ra_gf (j := 18) rfl rfl rfl rfl (by rw [g10]; decide) rfl rfl rfl ?_
      refine n_done ?_
      refine rw_gf 80 9 70 false rfl rfl rfl rfl rfl rfl (by rw [g10]; decide) ?_
      refine rw_t 81 rfl rfl rfl (do_pick_t rfl g10 rfl ?_)
      refine rw_nil ?_
      refine ⟨rfl, ⟨_, rfl, by first | (simp; done) | (simp only [bs]; omega) | (simp [*]; done) | (simp; omega) | (constructor <;> intro h <;> simp_all <;> omega)⟩, ?_⟩
      repeat (refine ⟨⟨_, rfl, rfl⟩, ?_⟩)
      exact trivial
    · have kg10 := g10
      try simp only [bs] at kg10
      refine ra_gt (j := 10) rfl rfl rfl rfl g10 rfl rfl rfl (do_fieldaddr rfl ⟨rfl, rfl⟩) (by rfl) ?_
      refine ra_gt (j := 11) rfl rfl rfl rfl g10 rfl rfl rfl (do_load_box rfl rfl rfl ⟨rfl, rfl⟩) (by rfl) ?_
      refine ra_gt (j := 12) rfl rfl rfl rfl g10 rfl rfl rfl (do_fieldaddr rfl ⟨rfl, rfl⟩) (by rfl) ?_
      refine ra_gt (j := 13) rfl rfl rfl rfl g10 rfl rfl rfl (do_load_box rfl rfl rfl ⟨rfl, rfl⟩) (by rfl) ?_
      refine ra_gt (j := 14) rfl rfl rfl rfl g10 rfl rfl rfl (do_fieldaddr rfl ⟨rfl, rfl⟩) (by rfl) ?_
      refine ra_gt (j := 15) rfl rfl rfl rfl g10 rfl rfl rfl (do_load_box rfl rfl rfl ⟨rfl, rfl⟩) (by rfl) ?_
      refine ra_gt (j := 16) rfl rfl rfl rfl g10 rfl rfl rfl (do_add rfl rfl (by omega) ⟨rfl, rfl⟩) (by rfl) ?_
      refine ra_gt (j := 17) rfl rfl rfl rfl g10 rfl rfl rfl (do_ix0 rfl rfl rfl (by first | omega | (simp only [ls] <;> omega)) ⟨rfl, rfl⟩) (by rfl) ?_
      refine ra_gt (j := 18) rfl rfl rfl rfl g10 rfl rfl rfl (do_load_arr rfl rfl (by first | omega | (simp only [ls] <;> omega)) rfl ⟨rfl, rfl⟩) (by rfl) ?_
      refine n_done ?_
      refine rw_gt 80 9 70 false rfl rfl rfl rfl rfl rfl g10 (do_bin rfl rfl rfl ?_)
      refine rw_t 81 rfl rfl rfl (do_pick_f rfl g10 rfl ?_)
      refine rw_nil ?_
      refine ⟨rfl, ⟨_, rfl, by first | (simp; done) | (simp only [bs]; omega) | (simp [*]; done) | (simp; omega) | (constructor <;> intro h <;> simp_all <;> omega)⟩, ?_⟩
      repeat (refine ⟨⟨_, rfl, rfl⟩, ?_⟩)
      exact trivial
  intro b3 hb3
  refine w_condP hb3 rfl (fun hc4 => ?_) (fun hc4 => ?_)
  · refine w_seq ?_
    -- region 8
    refine w_region ?_
    refine rw_t 6 rfl rfl rfl (do_assign rfl ?_)
    refine rw_nil ?_
    refine w_ret ?_
    exact ret_eq (.inl rfl) (.cons (res_tmp rfl) .nil) [0, 1, 2, 3, 4, 5, 6, 7, 8] (Eq.symm (val_congr (by unfold legalE pushE; rw [if_neg (by omega), if_neg (by omega), if_pos (by omega)]))) ⟨.inr ⟨_, rfl, .inl rfl⟩, .inr ⟨_, rfl, .inl rfl⟩, .inr ⟨_, rfl, .inl rfl⟩, .inr ⟨_, rfl, .inl rfl⟩, .inr ⟨_, rfl, .inl rfl⟩, .inr ⟨_, rfl, .inl rfl⟩, .inr ⟨_, rfl, .inl rfl⟩, .inr ⟨_, rfl, .inl rfl⟩, .inr ⟨_, rfl, .inl rfl⟩, trivial⟩ rfl (pre_ok rfl)
  refine w_skip ?_
  refine w_seq ?_
  refine w_seqB 124 (((((e.d < 1 ∨ e.d > (p.Ex.getD e.u.toNat 0)) ∨ e.d > (p.Res.getD e.arc.toNat 0)) ∨ e.h ≠ (p.H.getD e.u.toNat 0)) ∨ e.h ≤ e.low)) ?_ ?_
  · -- region 9
    refine w_draw mixed [0, 1, 3, 7, 15, 31, 15, 79, 15, 271, 975, 1999, 4095, 8191, 16383, 32767, 65535, 32767, 163839, 32767, 557055, 1998847, 4095999, 8388607, 16777215, 33554431, 67108863, 134217727, 67108863, 335544319, 67108863, 1140850687, 4093640703, 8388607999, 17179869183, 34359738367, 68719476735, 137438953471, 274877906943, 137438953471, 687194767359] [2199023255551, 4398046511103] (by kernel_rfl) (by kernel_rfl) rfl rfl rfl (hle hρ rfl) ?_
    refine ra_q (j := 0) rfl rfl rfl rfl (do_fieldaddr rfl ⟨rfl, rfl⟩) (by rfl) ?_
    refine ra_q (j := 1) rfl rfl rfl rfl (do_load_box rfl rfl rfl ⟨rfl, rfl⟩) (by rfl) ?_
    refine ra_q (j := 2) rfl rfl rfl rfl (do_bin rfl rfl rfl ⟨rfl, rfl⟩) (by rfl) ?_
    refine ra_q (j := 3) rfl rfl rfl rfl (do_move rfl ⟨rfl, rfl⟩) (by rfl) ?_
    refine ra_case 85 rfl (fun g11 => ?_) (fun g11 => ?_)
    · have kg11 := g11
      try simp only [bs] at kg11
      refine ra_gf (j := 4) rfl rfl rfl rfl (by rw [g11]; decide) rfl rfl rfl ?_
      refine ra_gf (j := 5) rfl rfl rfl rfl (by rw [g11]; decide) rfl rfl rfl ?_
      refine ra_gf (j := 6) rfl rfl rfl rfl (by rw [g11]; decide) rfl rfl rfl ?_
      refine ra_gf (j := 7) rfl rfl rfl rfl (by rw [g11]; decide) rfl rfl rfl ?_
      refine ra_gf (j := 8) rfl rfl rfl rfl (by rw [g11]; decide) rfl rfl rfl ?_
      refine ra_gf (j := 9) rfl rfl rfl rfl (by rw [g11]; decide) rfl rfl rfl ?_
      refine ra_gf (j := 10) rfl rfl rfl rfl (by rw [g11]; decide) rfl rfl rfl ?_
      refine ra_gf (j := 11) rfl rfl rfl rfl (by rw [g11]; decide) rfl rfl rfl ?_
      refine ra_gf (j := 12) rfl rfl rfl rfl (by rw [g11]; decide) rfl rfl rfl ?_
      refine ra_q (j := 13) rfl rfl rfl rfl (do_pick_t rfl g11 rfl ⟨rfl, rfl⟩) (by rfl) ?_
      refine ra_q (j := 14) rfl rfl rfl rfl (do_move rfl ⟨rfl, rfl⟩) (by rfl) ?_
      refine ra_gf (j := 15) rfl rfl rfl rfl (by decide) rfl rfl rfl ?_
      refine ra_gf (j := 16) rfl rfl rfl rfl (by decide) rfl rfl rfl ?_
      refine ra_gf (j := 17) rfl rfl rfl rfl (by decide) rfl rfl rfl ?_
      refine ra_gf (j := 18) rfl rfl rfl rfl (by decide) rfl rfl rfl ?_
      refine ra_gf (j := 19) rfl rfl rfl rfl (by decide) rfl rfl rfl ?_
      refine ra_gf (j := 20) rfl rfl rfl rfl (by decide) rfl rfl rfl ?_
      refine ra_gf (j := 21) rfl rfl rfl rfl (by decide) rfl rfl rfl ?_
      refine ra_gf (j := 22) rfl rfl rfl rfl (by decide) rfl rfl rfl ?_
      refine ra_gf (j := 23) rfl rfl rfl rfl (by decide) rfl rfl rfl ?_
      refine ra_q (j := 24) rfl rfl rfl rfl (do_pick_t rfl rfl rfl ⟨rfl, rfl⟩) (by rfl) ?_
      refine ra_q (j := 25) rfl rfl rfl rfl (do_move rfl ⟨rfl, rfl⟩) (by rfl) ?_
      refine ra_gf (j := 26) rfl rfl rfl rfl (by decide) rfl rfl rfl ?_
      refine ra_gf (j := 27) rfl rfl rfl rfl (by decide) rfl rfl rfl ?_
      refine ra_gf (j := 28) rfl rfl rfl rfl (by decide) rfl rfl rfl ?_
      refine ra_gf (j := 29) rfl rfl rfl rfl (by decide) rfl rfl rfl ?_
      refine ra_gf (j := 30) rfl rfl rfl rfl (by decide) rfl rfl rfl ?_
      refine ra_gf (j := 31) rfl rfl rfl rfl (by decide) rfl rfl rfl ?_
      refine ra_gf (j := 32) rfl rfl rfl rfl (by decide) rfl rfl rfl ?_
      refine ra_gf (j := 33) rfl rfl rfl rfl (by decide) rfl rfl rfl ?_
      refine ra_gf (j := 34) rfl rfl rfl rfl (by decide) rfl rfl rfl ?_
      refine ra_q (j := 35) rfl rfl rfl rfl (do_pick_t rfl rfl rfl ⟨rfl, rfl⟩) (by rfl) ?_
      refine ra_q (j := 36) rfl rfl rfl rfl (do_move rfl ⟨rfl, rfl⟩) (by rfl) ?_
      refine ra_gf (j := 37) rfl rfl rfl rfl (by decide) rfl rfl rfl ?_
      refine ra_gf (j := 38) rfl rfl rfl rfl (by decide) rfl rfl rfl ?_
      refine ra_gf (j := 39) rfl rfl rfl rfl (by decide) rfl rfl rfl ?_
      refine ra_gf (j := 40) rfl rfl rfl rfl (by decide) rfl rfl rfl ?_
      refine n_done ?_
      refine rw_gf 123 36 118 false rfl rfl rfl rfl rfl rfl (by decide) ?_
      refine rw_t 124 rfl rfl rfl (do_pick_t rfl rfl rfl ?_)
      refine rw_nil ?_
      refine ⟨rfl, ⟨_, rfl, by first | (simp; done) | (simp only [bs]; omega) | (simp [*]; done) | (simp; omega) | (constructor <;> intro h <;> simp_all <;> omega)⟩, ?_⟩
      repeat (refine ⟨⟨_, rfl, rfl⟩, ?_⟩)
      exact trivial
    · have kg11 := g11
      try simp only [bs] at kg11
      refine ra_gt (j := 4) rfl rfl rfl rfl g11 rfl rfl rfl (do_fieldaddr rfl ⟨rfl, rfl⟩) (by rfl) ?_
      refine ra_gt (j := 5) rfl rfl rfl rfl g11 rfl rfl rfl (do_load_box rfl rfl rfl ⟨rfl, rfl⟩) (by rfl) ?_
      refine ra_gt (j := 6) rfl rfl rfl rfl g11 rfl rfl rfl (do_fieldaddr rfl ⟨rfl, rfl⟩) (by rfl) ?_
      refine ra_gt (j := 7) rfl rfl rfl rfl g11 rfl rfl rfl (do_load_box rfl rfl rfl ⟨rfl, rfl⟩) (by rfl) ?_
      refine ra_gt (j := 8) rfl rfl rfl rfl g11 rfl rfl rfl (do_fieldaddr rfl ⟨rfl, rfl⟩) (by rfl) ?_
      refine ra_gt (j := 9) rfl rfl rfl rfl g11 rfl rfl rfl (do_load_box rfl rfl rfl ⟨rfl, rfl⟩) (by rfl) ?_
      refine ra_gt (j := 10) rfl rfl rfl rfl g11 rfl rfl rfl (do_ix0 rfl rfl rfl (by first | omega | (simp only [ls] <;> omega)) ⟨rfl, rfl⟩) (by rfl) ?_
      refine ra_gt (j := 11) rfl rfl rfl rfl g11 rfl rfl rfl (do_load_arr rfl rfl (by first | omega | (simp only [ls] <;> omega)) rfl ⟨rfl, rfl⟩) (by rfl) ?_
      refine ra_gt (j := 12) rfl rfl rfl rfl g11 rfl rfl rfl (do_bin rfl rfl rfl ⟨rfl, rfl⟩) (by rfl) ?_
      refine ra_q (j := 13) rfl rfl rfl rfl (do_pick_f rfl g11 rfl ⟨rfl, rfl⟩) (by rfl) ?_
      refine ra_q (j := 14) rfl rfl rfl rfl (do_move rfl ⟨rfl, rfl⟩) (by rfl) ?_
      refine ra_case 96 rfl (fun g12 => ?_) (fun g12 => ?_)
      · have kg12 := g12
        try simp only [bs] at kg12
        refine ra_gf (j := 15) rfl rfl rfl rfl (by rw [g12]; decide) rfl rfl rfl ?_
        refine ra_gf (j := 16) rfl rfl rfl rfl (by rw [g12]; decide) rfl rfl rfl ?_
        refine ra_gf (j := 17) rfl rfl rfl rfl (by rw [g12]; decide) rfl rfl rfl ?_
        refine ra_gf (j := 18) rfl rfl rfl rfl (by rw [g12]; decide) rfl rfl rfl ?_
        refine ra_gf (j := 19) rfl rfl rfl rfl (by rw [g12]; decide) rfl rfl rfl ?_
        refine ra_gf (j := 20) rfl rfl rfl rfl (by rw [g12]; decide) rfl rfl rfl ?_
        refine ra_gf (j := 21) rfl rfl rfl rfl (by rw [g12]; decide) rfl rfl rfl ?_
        refine ra_gf (j := 22) rfl rfl rfl rfl (by rw [g12]; decide) rfl rfl rfl ?_
        refine ra_gf (j := 23) rfl rfl rfl rfl (by rw [g12]; decide) rfl rfl rfl ?_
        refine ra_q (j := 24) rfl rfl rfl rfl (do_pick_t rfl g12 rfl ⟨rfl, rfl⟩) (by rfl) ?_
        refine ra_q (j := 25) rfl rfl rfl rfl (do_move rfl ⟨rfl, rfl⟩) (by rfl) ?_
        refine ra_gf (j := 26) rfl rfl rfl rfl (by decide) rfl rfl rfl ?_
        refine ra_gf (j := 27) rfl rfl rfl rfl (by decide) rfl rfl rfl ?_
        refine ra_gf (j := 28) rfl rfl rfl rfl (by decide) rfl rfl rfl ?_
        refine ra_gf (j := 29) rfl rfl rfl rfl (by decide) rfl rfl rfl ?_
        refine ra_gf (j := 30) rfl rfl rfl rfl (by decide) rfl rfl rfl ?_
        refine ra_gf (j := 31) rfl rfl rfl rfl (by decide) rfl rfl rfl ?_
        refine ra_gf (j := 32) rfl rfl rfl rfl (by decide) rfl rfl rfl ?_
        refine ra_gf (j := 33) rfl rfl rfl rfl (by decide) rfl rfl rfl ?_
        refine ra_gf (j := 34) rfl rfl rfl rfl (by decide) rfl rfl rfl ?_
        refine ra_q (j := 35) rfl rfl rfl rfl (do_pick_t rfl rfl rfl ⟨rfl, rfl⟩) (by rfl) ?_
        refine ra_q (j := 36) rfl rfl rfl rfl (do_move rfl ⟨rfl, rfl⟩) (by rfl) ?_
        refine ra_gf (j := 37) rfl rfl rfl rfl (by decide) rfl rfl rfl ?_
        refine ra_gf (j := 38) rfl rfl rfl rfl (by decide) rfl rfl rfl ?_
        refine ra_gf (j := 39) rfl rfl rfl rfl (by decide) rfl rfl rfl ?_
        refine ra_gf (j := 40) rfl rfl rfl rfl (by decide) rfl rfl rfl ?_
        refine n_done ?_
        refine rw_gf 123 36 118 false rfl rfl rfl rfl rfl rfl (by decide) ?_
        refine rw_t 124 rfl rfl rfl (do_pick_t rfl rfl rfl ?_)
        refine rw_nil ?_
        refine ⟨rfl, ⟨_, rfl, by first | (simp; done) | (simp only [bs]; omega) | (simp [*]; done) | (simp; omega) | (constructor <;> intro h <;> simp_all <;> omega)⟩, ?_⟩
        repeat (refine ⟨⟨_, rfl, rfl⟩, ?_⟩)
        exact trivial
      · have kg12 := g12
        try simp only [bs] at kg12
        refine ra_gt (j := 15) rfl rfl rfl rfl g12 rfl rfl rfl (do_fieldaddr rfl ⟨rfl, rfl⟩) (by rfl) ?_
        refine ra_gt (j := 16) rfl rfl rfl rfl g12 rfl rfl rfl (do_load_box rfl rfl rfl ⟨rfl, rfl⟩) (by rfl) ?_
        refine ra_gt (j := 17) rfl rfl rfl rfl g12 rfl rfl rfl (do_fieldaddr rfl ⟨rfl, rfl⟩) (by rfl) ?_
        refine ra_gt (j := 18) rfl rfl rfl rfl g12 rfl rfl rfl (do_load_box rfl rfl rfl ⟨rfl, rfl⟩) (by rfl) ?_
        refine ra_gt (j := 19) rfl rfl rfl rfl g12 rfl rfl rfl (do_fieldaddr rfl ⟨rfl, rfl⟩) (by rfl) ?_
        refine ra_gt (j := 20) rfl rfl rfl rfl g12 rfl rfl rfl (do_load_box rfl rfl rfl ⟨rfl, rfl⟩) (by rfl) ?_
        refine ra_gt (j := 21) rfl rfl rfl rfl g12 rfl rfl rfl (do_ix0 rfl rfl rfl (by first | omega | (simp only [ls] <;> omega)) ⟨rfl, rfl⟩) (by rfl) ?_
        refine ra_gt (j := 22) rfl rfl rfl rfl g12 rfl rfl rfl (do_load_arr rfl rfl (by first | omega | (simp only [ls] <;> omega)) rfl ⟨rfl, rfl⟩) (by rfl) ?_
        refine ra_gt (j := 23) rfl rfl rfl rfl g12 rfl rfl rfl (do_bin rfl rfl rfl ⟨rfl, rfl⟩) (by rfl) ?_
        refine ra_q (j := 24) rfl rfl rfl rfl (do_pick_f rfl g12 rfl ⟨rfl, rfl⟩) (by rfl) ?_
        refine ra_q (j := 25) rfl rfl rfl rfl (do_move rfl ⟨rfl, rfl⟩) (by rfl) ?_
        refine ra_case 107 rfl (fun g13 => ?_) (fun g13 => ?_)
        · have kg13 := g13
          try simp only [bs] at kg13
          refine ra_gf (j := 26) rfl rfl rfl rfl (by rw [g13]; decide) rfl rfl rfl ?_
          refine ra_gf (j := 27) rfl rfl rfl rfl (by rw [g13]; decide) rfl rfl rfl ?_
          refine ra_gf (j := 28) rfl rfl rfl rfl (by rw [g13]; decide) rfl rfl rfl ?_
          refine ra_gf (j := 29) rfl rfl rfl rfl (by rw [g13]; decide) rfl rfl rfl ?_
          refine ra_gf (j := 30) rfl rfl rfl rfl (by rw [g13]; decide) rfl rfl rfl ?_
          refine ra_gf (j := 31) rfl rfl rfl rfl (by rw [g13]; decide) rfl rfl rfl ?_
          refine ra_gf (j := 32) rfl rfl rfl rfl (by rw [g13]; decide) rfl rfl rfl ?_
          refine ra_gf (j := 33) rfl rfl rfl rfl (by rw [g13]; decide) rfl rfl rfl ?_
          refine ra_gf (j := 34) rfl rfl rfl rfl (by rw [g13]; decide) rfl rfl rfl ?_
          refine ra_q (j := 35) rfl rfl rfl rfl (do_pick_t rfl g13 rfl ⟨rfl, rfl⟩) (by rfl) ?_
          refine ra_q (j := 36) rfl rfl rfl rfl (do_move rfl ⟨rfl, rfl⟩) (by rfl) ?_
          refine ra_gf (j := 37) rfl rfl rfl rfl (by decide) rfl rfl rfl ?_
          refine ra_gf (j := 38) rfl rfl rfl rfl (by decide) rfl rfl rfl ?_
          refine ra_gf (j := 39) rfl rfl rfl rfl (by decide) rfl rfl rfl ?_
          refine ra_gf (j := 40) rfl rfl rfl rfl (by decide) rfl rfl rfl ?_
          refine n_done ?_
          refine rw_gf 123 36 118 false rfl rfl rfl rfl rfl rfl (by decide) ?_
          refine rw_t 124 rfl rfl rfl (do_pick_t rfl rfl rfl ?_)
          refine rw_nil ?_
          refine ⟨rfl, ⟨_, rfl, by first | (simp; done) | (simp only [bs]; omega) | (simp [*]; done) | (simp; omega) | (constructor <;> intro h <;> simp_all <;> omega)⟩, ?_⟩
          repeat (refine ⟨⟨_, rfl, rfl⟩, ?_⟩)
          exact trivial
        · have kg13 := g13
          try simp only [bs] at kg13
          refine ra_gt (j := 26) rfl rfl rfl rfl g13 rfl rfl rfl (do_fieldaddr rfl ⟨rfl, rfl⟩) (by rfl) ?_
          refine ra_gt (j := 27) rfl rfl rfl rfl g13 rfl rfl rfl (do_load_box rfl rfl rfl ⟨rfl, rfl⟩) (by rfl) ?_
          refine ra_gt (j := 28) rfl rfl rfl rfl g13 rfl rfl rfl (do_fieldaddr rfl ⟨rfl, rfl⟩) (by rfl) ?_
          refine ra_gt (j := 29) rfl rfl rfl rfl g13 rfl rfl rfl (do_load_box rfl rfl rfl ⟨rfl, rfl⟩) (by rfl) ?_
          refine ra_gt (j := 30) rfl rfl rfl rfl g13 rfl rfl rfl (do_fieldaddr rfl ⟨rfl, rfl⟩) (by rfl) ?_
          refine ra_gt (j := 31) rfl rfl rfl rfl g13 rfl rfl rfl (do_load_box rfl rfl rfl ⟨rfl, rfl⟩) (by rfl) ?_
          refine ra_gt (j := 32) rfl rfl rfl rfl g13 rfl rfl rfl (do_ix0 rfl rfl rfl (by first | omega | (simp only [ls] <;> omega)) ⟨rfl, rfl⟩) (by rfl) ?_
          refine ra_gt (j := 33) rfl rfl rfl rfl g13 rfl rfl rfl (do_load_arr rfl rfl (by first | omega | (simp only [ls] <;> omega)) rfl ⟨rfl, rfl⟩) (by rfl) ?_
          refine ra_gt (j := 34) rfl rfl rfl rfl g13 rfl rfl rfl (do_bin rfl rfl rfl ⟨rfl, rfl⟩) (by rfl) ?_
          refine ra_q (j := 35) rfl rfl rfl rfl (do_pick_f rfl g13 rfl ⟨rfl, rfl⟩) (by rfl) ?_
          refine ra_q (j := 36) rfl rfl rfl rfl (do_move rfl ⟨rfl, rfl⟩) (by rfl) ?_
          refine ra_case 118 rfl (fun g14 => ?_) (fun g14 => ?_)
          · have kg14 := g14
            try simp only [bs] at kg14
            refine ra_gf (j := 37) rfl rfl rfl rfl (by rw [g14]; decide) rfl rfl rfl ?_
            refine ra_gf (j := 38) rfl rfl rfl rfl (by rw [g14]; decide) rfl rfl rfl ?_
            refine ra_gf (j := 39) rfl rfl rfl rfl (by rw [g14]; decide) rfl rfl rfl ?_
            refine ra_gf (j := 40) rfl rfl rfl rfl (by rw [g14]; decide) rfl rfl rfl ?_
            refine n_done ?_
            refine rw_gf 123 36 118 false rfl rfl rfl rfl rfl rfl (by rw [g14]; decide) ?_
            refine rw_t 124 rfl rfl rfl (do_pick_t rfl g14 rfl ?_)
            refine rw_nil ?_
            refine ⟨rfl, ⟨_, rfl, by first | (simp; done) | (simp only [bs]; omega) | (simp [*]; done) | (simp; omega) | (constructor <;> intro h <;> simp_all <;> omega)⟩, ?_⟩
            repeat (refine ⟨⟨_, rfl, rfl⟩, ?_⟩)
            exact trivial
          · have kg14 := g14
            try simp only [bs] at kg14
            refine ra_gt (j := 37) rfl rfl rfl rfl g14 rfl rfl rfl (do_fieldaddr rfl ⟨rfl, rfl⟩) (by rfl) ?_
            refine ra_gt (j := 38) rfl rfl rfl rfl g14 rfl rfl rfl (do_load_box rfl rfl rfl ⟨rfl, rfl⟩) (by rfl) ?_
            refine ra_gt (j := 39) rfl rfl rfl rfl g14 rfl rfl rfl (do_fieldaddr rfl ⟨rfl, rfl⟩) (by rfl) ?_
            refine ra_gt (j := 40) rfl rfl rfl rfl g14 rfl rfl rfl (do_load_box rfl rfl rfl ⟨rfl, rfl⟩) (by rfl) ?_
            refine n_done ?_
            refine rw_gt 123 36 118 false rfl rfl rfl rfl rfl rfl g14 (do_bin rfl rfl rfl ?_)
            refine rw_t 124 rfl rfl rfl (do_pick_f rfl g14 rfl ?_)
            refine rw_nil ?_
            refine ⟨rfl, ⟨_, rfl, by first | (simp; done) | (simp only [bs]; omega) | (simp [*]; done) | (simp; omega) | (constructor <;> intro h <;> simp_all <;> omega)⟩, ?_⟩
            repeat (refine ⟨⟨_, rfl, rfl⟩, ?_⟩)
            exact trivial
  intro b4 hb4
  refine w_condP hb4 rfl (fun hc5 => ?_) (fun hc5 => ?_)
  · refine w_seq ?_
    -- region 10
    refine w_region ?_
    refine rw_t 6 rfl rfl rfl (do_assign rfl ?_)
    refine rw_nil ?_
    refine w_ret ?_
    exact ret_eq (.inl rfl) (.cons (res_tmp rfl) .nil) [0, 1, 2, 3, 4, 5, 6, 7, 8] (Eq.symm (val_congr (by unfold legalE pushE; rw [if_neg (by omega), if_neg (by omega), if_neg (by omega), if_pos (by omega)]))) ⟨.inr ⟨_, rfl, .inl rfl⟩, .inr ⟨_, rfl, .inl rfl⟩, .inr ⟨_, rfl, .inl rfl⟩, .inr ⟨_, rfl, .inl rfl⟩, .inr ⟨_, rfl, .inl rfl⟩, .inr ⟨_, rfl, .inl rfl⟩, .inr ⟨_, rfl, .inl rfl⟩, .inr ⟨_, rfl, .inl rfl⟩, .inr ⟨_, rfl, .inl rfl⟩, trivial⟩ rfl (pre_ok rfl)
  refine w_skip ?_
  refine w_seq ?_
  -- region 11
  refine w_region ?_
  refine rw_t 6 rfl rfl rfl (do_assign rfl ?_)
  refine rw_nil ?_
  refine w_ret ?_
  exact ret_eq (.inl rfl) (.cons (res_tmp rfl) .nil) [0, 1, 2, 3, 4, 5, 6, 7, 8] (Eq.symm (val_congr (by unfold legalE pushE; rw [if_neg (by omega), if_neg (by omega), if_neg (by omega), if_neg (by omega)]))) ⟨.inr ⟨_, rfl, .inl rfl⟩, .inr ⟨_, rfl, .inl rfl⟩, .inr ⟨_, rfl, .inl rfl⟩, .inr ⟨_, rfl, .inl rfl⟩, .inr ⟨_, rfl, .inl rfl⟩, .inr ⟨_, rfl, .inl rfl⟩, .inr ⟨_, rfl, .inl rfl⟩, .inr ⟨_, rfl, .inl rfl⟩, .inr ⟨_, rfl, .inl rfl⟩, trivial⟩ rfl (pre_ok rfl)
-- f14 "acequia/acequiaref09.Move"
set_option maxHeartbeats 8000000 in
set_option synthInstance.maxHeartbeats 400000 in
set_option synthInstance.maxSize 2000 in
theorem t_rMoveY (c : Csr) (p : Pre) (h : CsrG c) (hp : rightP c p) (e : Event) (he : EvIn e) (hl : legalE c p e = 0) : Tri Try.prog 14 [.agg [.val (.int .i64 c.N), .val (.int .i64 c.S), .val (.int .i64 c.T), .slc 0 0 c.First.length none, .slc 1 0 c.Head.length none, .slc 2 0 c.Rev.length none, .slc 3 0 c.Cap.length none, .slc 4 0 c.Arc.length none, .slc 5 0 c.Back.length none], .agg [.slc 6 0 p.Res.length none, .slc 7 0 p.Ex.length none, .slc 8 0 p.H.length none], .agg [.val (.int .i64 e.who), .val (.int .u8 e.what), .val (.int .i64 e.u), .val (.int .i64 e.arc), .val (.int .i64 e.d), .val (.int .i64 e.h), .val (.int .i64 e.low)]] [SO.ints false .i64 c.First, SO.ints false .i64 c.Head, SO.ints false .i64 c.Rev, SO.ints false .i64 c.Cap, SO.ints false .i64 c.Arc, SO.bools false c.Back, SO.ints false .i64 p.Res, SO.ints false .i64 p.Ex, SO.ints false .i64 p.H] (fun s H => s = .tup [.agg [.slc 9 0 ((doesP c p e).Res.length) none, .slc 10 0 ((doesP c p e).Ex.length) none, .slc 11 0 ((doesP c p e).H.length) none], .val (.int .i64 0)] ∧ H = [SO.ints false .i64 c.First, SO.ints false .i64 c.Head, SO.ints false .i64 c.Rev, SO.ints false .i64 c.Cap, SO.ints false .i64 c.Arc, SO.bools false c.Back, SO.ints false .i64 p.Res, SO.ints false .i64 p.Ex, SO.ints false .i64 p.H, SO.ints true .i64 ((doesP c p e).Res), SO.ints true .i64 ((doesP c p e).Ex), SO.ints true .i64 ((doesP c p e).H)]) := by
  refine tri_of_w (fn := Try.f14) Try.func14 rfl (by simp [Try.f14]) ?_
  intro ρ w hρ
  refine w_seq ?_
  have hn := h.n
  have hf := h.first
  have hhd := h.head
  have hrl := h.rev
  have hcl := h.cap
  have hal := h.arc
  have hbl := h.back
  have hr := hp.1.1
  have hx := hp.1.2.1
  have hh := hp.1.2.2
  have hS := h.s
  have hT := h.t
  have hu := legal_u hl
  have ho := right_ok h.toCsrT hp
  -- region 0
  refine w_region ?_
  refine rw_t 3 rfl rfl rfl (n_box_agg (n := 9) rfl rfl ?_)
  refine rw_t 4 rfl rfl rfl (n_box_agg (n := 10) rfl rfl ?_)
  refine rw_t 5 rfl rfl rfl (n_box_agg (n := 11) rfl rfl ?_)
  refine rw_t 6 rfl rfl rfl (n_alloc (n := 12) rfl ?_)
  refine rw_t 7 rfl rfl rfl (do_assign rfl ?_)
  refine rw_nil ?_
  refine w_seq ?_
  -- region 1
  refine w_region ?_
  refine rw_t 10 rfl rfl rfl (n_load_boxagg [_, _, _, _, _, _, _, _, _] rfl rfl (Nat.le_of_ble_eq_true rfl) rfl ?_)
  refine rw_t 11 rfl rfl rfl (n_load_boxagg [_, _, _] rfl rfl (Nat.le_of_ble_eq_true rfl) rfl ?_)
  refine rw_t 12 rfl rfl rfl (n_load_boxagg [_, _, _, _, _, _, _] rfl rfl (Nat.le_of_ble_eq_true rfl) rfl ?_)
  refine rw_t 13 rfl rfl rfl (do_callR (X' := .val (.int .i64 (legalE c p e))) rfl rfl (t_rLegal (c := c) (p := p) (e := e) (h.toCsrOK) (right_len hp) (he)) [0, 1, 2, 3, 4, 5, 6, 7, 8] ⟨.inr ⟨_, rfl, srv⟩, .inr ⟨_, rfl, srv⟩, .inr ⟨_, rfl, srv⟩, .inr ⟨_, rfl, srv⟩, .inr ⟨_, rfl, srv⟩, .inr ⟨_, rfl, srv⟩, .inr ⟨_, rfl, srv⟩, .inr ⟨_, rfl, srv⟩, .inr ⟨_, rfl, srv⟩, trivial⟩ rfl rfl rfl ?_)
  refine rw_t 8 rfl rfl rfl (do_assign rfl ?_)
  refine rw_nil ?_
  refine w_seq ?_
  refine w_seq ?_
  -- region 2
  refine w_region ?_
  refine rw_t 14 rfl rfl rfl (do_move rfl ?_)
  refine rw_t 15 rfl rfl rfl (do_bin rfl rfl rfl ?_)
  refine rw_nil ?_
  refine w_cond rfl (fun hc1 => ?_) (fun hc1 => ?_)
  · exfalso; first | (cases hc1; done) | exact (hc1 trivial) | (try simp only [bs] at hc1; first | omega | (simp_all; done) | (simp_all; omega))
  refine w_skip ?_
  refine w_seq ?_
  -- region 4
  refine w_draw mixed [0, 0, 2, 7, 0, 0, 32, 127, 0, 0, 512, 2047, 4095, 0] [16383] (by kernel_rfl) (by kernel_rfl) rfl rfl rfl (hle hρ rfl) ?_
  refine ra_n (j := 0) rfl rfl rfl rfl (g_bs (nm := 13) Int (encI .i64) 0 [] rfl rfl rfl rfl rfl (fun _ => rfl) (fun _ _ h => by simp [encI] at h; subst h; rfl) rfl ⟨rfl, rfl⟩) (by rfl) (by rfl) (by rfl) ?_
  refine ra_q (j := 1) rfl rfl rfl rfl (do_fieldaddr rfl ⟨rfl, rfl⟩) (by rfl) ?_
  refine ra_q (j := 2) rfl rfl rfl rfl (do_load_box rfl rfl rfl ⟨rfl, rfl⟩) (by rfl) ?_
  refine ra_n (j := 3) rfl rfl rfl rfl (g_app_e (nm := 14) rfl rfl rfl rfl rfl (by first | omega | (simp only [ls] <;> omega)) (by omega) (by omega) rfl ⟨rfl, rfl⟩) (by rfl) (by rfl) (by rfl) ?_
  refine ra_n (j := 4) rfl rfl rfl rfl (g_bs (nm := 15) Int (encI .i64) 0 [] rfl rfl rfl rfl rfl (fun _ => rfl) (fun _ _ h => by simp [encI] at h; subst h; rfl) rfl ⟨rfl, rfl⟩) (by rfl) (by rfl) (by rfl) ?_
  refine ra_q (j := 5) rfl rfl rfl rfl (do_fieldaddr rfl ⟨rfl, rfl⟩) (by rfl) ?_
  refine ra_q (j := 6) rfl rfl rfl rfl (do_load_box rfl rfl rfl ⟨rfl, rfl⟩) (by rfl) ?_
  refine ra_n (j := 7) rfl rfl rfl rfl (g_app_e (nm := 16) rfl rfl rfl rfl rfl (by first | omega | (simp only [ls] <;> omega)) (by omega) (by omega) rfl ⟨rfl, rfl⟩) (by rfl) (by rfl) (by rfl) ?_
  refine ra_n (j := 8) rfl rfl rfl rfl (g_bs (nm := 17) Int (encI .i64) 0 [] rfl rfl rfl rfl rfl (fun _ => rfl) (fun _ _ h => by simp [encI] at h; subst h; rfl) rfl ⟨rfl, rfl⟩) (by rfl) (by rfl) (by rfl) ?_
  refine ra_q (j := 9) rfl rfl rfl rfl (do_fieldaddr rfl ⟨rfl, rfl⟩) (by rfl) ?_
  refine ra_q (j := 10) rfl rfl rfl rfl (do_load_box rfl rfl rfl ⟨rfl, rfl⟩) (by rfl) ?_
  refine ra_n (j := 11) rfl rfl rfl rfl (g_app_e (nm := 18) rfl rfl rfl rfl rfl (by first | omega | (simp only [ls] <;> omega)) (by omega) (by omega) rfl ⟨rfl, rfl⟩) (by rfl) (by rfl) (by rfl) ?_
  refine ra_q (j := 12) rfl rfl rfl rfl (do_build (out := [_, _, _]) rfl rfl ⟨rfl, rfl⟩) (by rfl) ?_
  refine ra_n (j := 13) rfl rfl rfl rfl (g_alloc (n := 19) rfl ⟨rfl, rfl⟩) (by rfl) (by rfl) (by rfl) ?_
  refine n_done ?_
  refine rw_u rfl rfl (n_store_whole rfl rfl rfl rfl rfl rfl ?_)
  refine rw_nil ?_
  refine w_seq ?_
  refine w_seq ?_
  -- region 5
  refine w_region ?_
  refine rw_t 31 rfl rfl rfl (do_fieldaddr rfl ?_)
  refine rw_t 32 rfl rfl rfl (do_load_box rfl rfl rfl ?_)
  refine rw_t 33 rfl rfl rfl (do_bin rfl rfl rfl ?_)
  refine rw_nil ?_
  refine w_cond rfl (fun hc2 => ?_) (fun hc2 => ?_)
  all_goals try simp only [bs] at hc2
  · refine w_seq ?_
    -- region 6
    refine w_region ?_
    refine rw_t 34 rfl rfl rfl (do_fieldaddr rfl ?_)
    refine rw_t 35 rfl rfl rfl (do_load_box rfl rfl rfl ?_)
    refine rw_t 36 rfl rfl rfl (do_fieldaddr rfl ?_)
    refine rw_t 37 rfl rfl rfl (do_load_box rfl rfl rfl ?_)
    refine rw_t 38 rfl rfl rfl (do_fieldaddr rfl ?_)
    refine rw_t 39 rfl rfl rfl (do_load_box rfl rfl rfl ?_)
    refine rw_t 40 rfl rfl rfl (do_ix0 rfl rfl rfl (by first | omega | (simp only [ls] <;> omega)) ?_)
    refine rw_u rfl rfl (n_store_arr (z := e.h) rfl rfl rfl (by first | omega | (simp only [ls] <;> omega)) rfl (by decide) rfl ?_)
    refine rw_nil ?_
    refine w_seq ?_
    -- region 7
    refine w_region ?_
    refine rw_t 41 rfl rfl rfl (n_load_boxagg [_, _, _] rfl rfl (Nat.le_of_ble_eq_true rfl) rfl ?_)
    refine rw_u rfl rfl (n_store_whole rfl rfl rfl rfl rfl rfl ?_)
    refine rw_t 7 rfl rfl rfl (do_assign rfl ?_)
    refine rw_nil ?_
    refine w_ret ?_
    exact ret_eq (.inl rfl) (.cons (res_agg rfl rfl (Nat.le_of_ble_eq_true rfl)) (.cons (res_tmp rfl) .nil)) [0, 1, 2, 3, 4, 5, 6, 7, 8, 14, 16, 18] (by rw [(does_len c p e).1, (does_len c p e).2.1, (does_len c p e).2.2]; rfl) ⟨.inr ⟨_, rfl, .inl rfl⟩, .inr ⟨_, rfl, .inl rfl⟩, .inr ⟨_, rfl, .inl rfl⟩, .inr ⟨_, rfl, .inl rfl⟩, .inr ⟨_, rfl, .inl rfl⟩, .inr ⟨_, rfl, .inl rfl⟩, .inr ⟨_, rfl, .inl rfl⟩, .inr ⟨_, rfl, .inl rfl⟩, .inr ⟨_, rfl, .inl rfl⟩, .inr ⟨_, rfl, .inl (congrArg (SO.ints true .i64) (by unfold doesP; rw [if_pos hc2]))⟩, .inr ⟨_, rfl, .inl (congrArg (SO.ints true .i64) (by unfold doesP; rw [if_pos hc2]))⟩, .inr ⟨_, rfl, .inl (congrArg (SO.ints true .i64) (by unfold doesP; rw [if_pos hc2]))⟩, trivial⟩ rfl (pre_ok rfl)
  refine w_skip ?_
  refine w_seq ?_
  obtain ⟨a1, a2, a3, a4, a5, a6, a7⟩ := legal_push hl hc2
  obtain ⟨t1, t2, t3⟩ := tail_of_arc h.toCsrT ⟨hu.2.1, hu.2.2.1⟩ a1 a2
  have hA : e.arc.toNat < c.Head.length := by omega
  have hv := h.rv _ hA
  have hne := h.rne _ hA
  have hhd2 := h.hd _ hA
  have r1 := ho.resv _ hA
  have r2 := ho.resv (c.Rev.getD e.arc.toNat 0).toNat (by omega)
  have c1 := h.capv _ hA
  have c2 := h.capv (c.Rev.getD e.arc.toNat 0).toNat (by omega)
  have x1 := ho.exv e.u.toNat (by omega)
  have x2 := ho.exv (c.Head.getD e.arc.toNat 0).toNat (by omega)
  -- region 8
  refine w_draw mixed [0, 1, 0, 4, 0, 16, 0, 64, 240, 496, 0, 1024, 4080] [8191, 16383] (by kernel_rfl) (by kernel_rfl) rfl rfl rfl (hle hρ rfl) ?_
  refine ra_q (j := 0) rfl rfl rfl rfl (do_fieldaddr rfl ⟨rfl, rfl⟩) (by rfl) ?_
  refine ra_q (j := 1) rfl rfl rfl rfl (do_load_box rfl rfl rfl ⟨rfl, rfl⟩) (by rfl) ?_
  refine ra_q (j := 2) rfl rfl rfl rfl (do_fieldaddr rfl ⟨rfl, rfl⟩) (by rfl) ?_
  refine ra_q (j := 3) rfl rfl rfl rfl (do_load_box rfl rfl rfl ⟨rfl, rfl⟩) (by rfl) ?_
  refine ra_q (j := 4) rfl rfl rfl rfl (do_fieldaddr rfl ⟨rfl, rfl⟩) (by rfl) ?_
  refine ra_q (j := 5) rfl rfl rfl rfl (do_load_box rfl rfl rfl ⟨rfl, rfl⟩) (by rfl) ?_
  refine ra_q (j := 6) rfl rfl rfl rfl (do_fieldaddr rfl ⟨rfl, rfl⟩) (by rfl) ?_
  refine ra_q (j := 7) rfl rfl rfl rfl (do_load_box rfl rfl rfl ⟨rfl, rfl⟩) (by rfl) ?_
  refine ra_q (j := 8) rfl rfl rfl rfl (do_ix0 rfl rfl rfl (by first | omega | (simp only [ls] <;> omega)) ⟨rfl, rfl⟩) (by rfl) ?_
  refine ra_q (j := 9) rfl rfl rfl rfl (do_load_arr rfl rfl (by first | omega | (simp only [ls] <;> omega)) rfl ⟨rfl, rfl⟩) (by rfl) ?_
  refine ra_q (j := 10) rfl rfl rfl rfl (do_fieldaddr rfl ⟨rfl, rfl⟩) (by rfl) ?_
  refine ra_q (j := 11) rfl rfl rfl rfl (do_load_box rfl rfl rfl ⟨rfl, rfl⟩) (by rfl) ?_
  refine ra_q (j := 12) rfl rfl rfl rfl (do_sub rfl rfl (by omega) ⟨rfl, rfl⟩) (by rfl) ?_
  refine n_done ?_
  refine rw_t 55 rfl rfl rfl (do_ix0 rfl rfl rfl (by first | omega | (simp only [ls] <;> omega)) ?_)
  refine rw_u rfl rfl (n_store_arr (z := ((p.Res.getD e.arc.toNat 0) - e.d)) rfl rfl rfl (by first | omega | (simp only [ls] <;> omega)) rfl (by decide) rfl ?_)
  refine rw_nil ?_
  refine w_seq ?_
  have g1 := getD_set p.Res e.arc.toNat (c.Rev.getD e.arc.toNat 0).toNat (p.Res.getD e.arc.toNat 0 - e.d) (by omega)
  rw [if_neg (Ne.symm hne)] at g1
  -- region 9
  refine w_draw mixed [0, 1, 0, 4, 0, 16, 60, 124, 0, 256, 0, 1024, 0, 4096, 15360, 31744, 65280, 130816, 0, 262144, 1048320] [2097151, 4194303] (by kernel_rfl) (by kernel_rfl) rfl rfl rfl (hle hρ rfl) ?_
  refine ra_q (j := 0) rfl rfl rfl rfl (do_fieldaddr rfl ⟨rfl, rfl⟩) (by rfl) ?_
  refine ra_q (j := 1) rfl rfl rfl rfl (do_load_box rfl rfl rfl ⟨rfl, rfl⟩) (by rfl) ?_
  refine ra_q (j := 2) rfl rfl rfl rfl (do_fieldaddr rfl ⟨rfl, rfl⟩) (by rfl) ?_
  refine ra_q (j := 3) rfl rfl rfl rfl (do_load_box rfl rfl rfl ⟨rfl, rfl⟩) (by rfl) ?_
  refine ra_q (j := 4) rfl rfl rfl rfl (do_fieldaddr rfl ⟨rfl, rfl⟩) (by rfl) ?_
  refine ra_q (j := 5) rfl rfl rfl rfl (do_load_box rfl rfl rfl ⟨rfl, rfl⟩) (by rfl) ?_
  refine ra_q (j := 6) rfl rfl rfl rfl (do_ix0 rfl rfl rfl (by first | omega | (simp only [ls] <;> omega)) ⟨rfl, rfl⟩) (by rfl) ?_
  refine ra_q (j := 7) rfl rfl rfl rfl (do_load_arr rfl rfl (by first | omega | (simp only [ls] <;> omega)) rfl ⟨rfl, rfl⟩) (by rfl) ?_
  refine ra_q (j := 8) rfl rfl rfl rfl (do_fieldaddr rfl ⟨rfl, rfl⟩) (by rfl) ?_
  refine ra_q (j := 9) rfl rfl rfl rfl (do_load_box rfl rfl rfl ⟨rfl, rfl⟩) (by rfl) ?_
  refine ra_q (j := 10) rfl rfl rfl rfl (do_fieldaddr rfl ⟨rfl, rfl⟩) (by rfl) ?_
  refine ra_q (j := 11) rfl rfl rfl rfl (do_load_box rfl rfl rfl ⟨rfl, rfl⟩) (by rfl) ?_
  refine ra_q (j := 12) rfl rfl rfl rfl (do_fieldaddr rfl ⟨rfl, rfl⟩) (by rfl) ?_
  refine ra_q (j := 13) rfl rfl rfl rfl (do_load_box rfl rfl rfl ⟨rfl, rfl⟩) (by rfl) ?_
  refine ra_q (j := 14) rfl rfl rfl rfl (do_ix0 rfl rfl rfl (by first | omega | (simp only [ls] <;> omega)) ⟨rfl, rfl⟩) (by rfl) ?_
  refine ra_q (j := 15) rfl rfl rfl rfl (do_load_arr rfl rfl (by first | omega | (simp only [ls] <;> omega)) rfl ⟨rfl, rfl⟩) (by rfl) ?_
  refine ra_q (j := 16) rfl rfl rfl rfl (do_ix0 rfl rfl rfl (by first | omega | (simp only [ls] <;> omega)) ⟨rfl, rfl⟩) (by rfl) ?_
  refine ra_q (j := 17) rfl rfl rfl rfl (do_load_arr rfl rfl (by first | omega | (simp only [ls] <;> omega)) rfl ⟨rfl, rfl⟩) (by rfl) ?_
  refine ra_q (j := 18) rfl rfl rfl rfl (do_fieldaddr rfl ⟨rfl, rfl⟩) (by rfl) ?_
  refine ra_q (j := 19) rfl rfl rfl rfl (do_load_box rfl rfl rfl ⟨rfl, rfl⟩) (by rfl) ?_
  refine ra_q (j := 20) rfl rfl rfl rfl (do_add rfl rfl (by omega) ⟨rfl, rfl⟩) (by rfl) ?_
  refine n_done ?_
  refine rw_t 77 rfl rfl rfl (do_ix0 rfl rfl rfl (by first | omega | (simp only [ls] <;> omega)) ?_)
  refine rw_u rfl rfl (n_store_arr (z := (((p.Res.set e.arc.toNat ((p.Res.getD e.arc.toNat 0) - e.d)).getD ((c.Rev.getD e.arc.toNat 0).toNat) 0) + e.d)) rfl rfl rfl (by first | omega | (simp only [ls] <;> omega)) rfl (by decide) rfl ?_)
  refine rw_nil ?_
  refine w_seq ?_
  -- region 10
  refine w_draw mixed [0, 1, 0, 4, 0, 16, 0, 64, 240, 496, 0, 1024, 4080] [8191, 16383] (by kernel_rfl) (by kernel_rfl) rfl rfl rfl (hle hρ rfl) ?_
  refine ra_q (j := 0) rfl rfl rfl rfl (do_fieldaddr rfl ⟨rfl, rfl⟩) (by rfl) ?_
  refine ra_q (j := 1) rfl rfl rfl rfl (do_load_box rfl rfl rfl ⟨rfl, rfl⟩) (by rfl) ?_
  refine ra_q (j := 2) rfl rfl rfl rfl (do_fieldaddr rfl ⟨rfl, rfl⟩) (by rfl) ?_
  refine ra_q (j := 3) rfl rfl rfl rfl (do_load_box rfl rfl rfl ⟨rfl, rfl⟩) (by rfl) ?_
  refine ra_q (j := 4) rfl rfl rfl rfl (do_fieldaddr rfl ⟨rfl, rfl⟩) (by rfl) ?_
  refine ra_q (j := 5) rfl rfl rfl rfl (do_load_box rfl rfl rfl ⟨rfl, rfl⟩) (by rfl) ?_
  refine ra_q (j := 6) rfl rfl rfl rfl (do_fieldaddr rfl ⟨rfl, rfl⟩) (by rfl) ?_
  refine ra_q (j := 7) rfl rfl rfl rfl (do_load_box rfl rfl rfl ⟨rfl, rfl⟩) (by rfl) ?_
  refine ra_q (j := 8) rfl rfl rfl rfl (do_ix0 rfl rfl rfl (by first | omega | (simp only [ls] <;> omega)) ⟨rfl, rfl⟩) (by rfl) ?_
  refine ra_q (j := 9) rfl rfl rfl rfl (do_load_arr rfl rfl (by first | omega | (simp only [ls] <;> omega)) rfl ⟨rfl, rfl⟩) (by rfl) ?_
  refine ra_q (j := 10) rfl rfl rfl rfl (do_fieldaddr rfl ⟨rfl, rfl⟩) (by rfl) ?_
  refine ra_q (j := 11) rfl rfl rfl rfl (do_load_box rfl rfl rfl ⟨rfl, rfl⟩) (by rfl) ?_
  refine ra_q (j := 12) rfl rfl rfl rfl (do_sub rfl rfl (by omega) ⟨rfl, rfl⟩) (by rfl) ?_
  refine n_done ?_
  refine rw_t 91 rfl rfl rfl (do_ix0 rfl rfl rfl (by first | omega | (simp only [ls] <;> omega)) ?_)
  refine rw_u rfl rfl (n_store_arr (z := ((p.Ex.getD e.u.toNat 0) - e.d)) rfl rfl rfl (by first | omega | (simp only [ls] <;> omega)) rfl (by decide) rfl ?_)
  refine rw_nil ?_
  refine w_seq ?_
  have g2 := getD_set p.Ex e.u.toNat (c.Head.getD e.arc.toNat 0).toNat (p.Ex.getD e.u.toNat 0 - e.d) (by omega)
  have g3 : -9000000000000000000 ≤ (p.Ex.set e.u.toNat (p.Ex.getD e.u.toNat 0 - e.d)).getD (c.Head.getD e.arc.toNat 0).toNat 0 ∧ (p.Ex.set e.u.toNat (p.Ex.getD e.u.toNat 0 - e.d)).getD (c.Head.getD e.arc.toNat 0).toNat 0 ≤ 9000000000000000000 := by rw [g2]; split <;> omega
  -- region 11
  refine w_draw mixed [0, 1, 0, 4, 0, 16, 60, 124, 0, 256, 0, 1024, 0, 4096, 15360, 31744, 65280, 130816, 0, 262144, 1048320] [2097151, 4194303] (by kernel_rfl) (by kernel_rfl) rfl rfl rfl (hle hρ rfl) ?_
  refine ra_q (j := 0) rfl rfl rfl rfl (do_fieldaddr rfl ⟨rfl, rfl⟩) (by rfl) ?_
  refine ra_q (j := 1) rfl rfl rfl rfl (do_load_box rfl rfl rfl ⟨rfl, rfl⟩) (by rfl) ?_
  refine ra_q (j := 2) rfl rfl rfl rfl (do_fieldaddr rfl ⟨rfl, rfl⟩) (by rfl) ?_
  refine ra_q (j := 3) rfl rfl rfl rfl (do_load_box rfl rfl rfl ⟨rfl, rfl⟩) (by rfl) ?_
  refine ra_q (j := 4) rfl rfl rfl rfl (do_fieldaddr rfl ⟨rfl, rfl⟩) (by rfl) ?_
  refine ra_q (j := 5) rfl rfl rfl rfl (do_load_box rfl rfl rfl ⟨rfl, rfl⟩) (by rfl) ?_
  refine ra_q (j := 6) rfl rfl rfl rfl (do_ix0 rfl rfl rfl (by first | omega | (simp only [ls] <;> omega)) ⟨rfl, rfl⟩) (by rfl) ?_
  refine ra_q (j := 7) rfl rfl rfl rfl (do_load_arr rfl rfl (by first | omega | (simp only [ls] <;> omega)) rfl ⟨rfl, rfl⟩) (by rfl) ?_
  refine ra_q (j := 8) rfl rfl rfl rfl (do_fieldaddr rfl ⟨rfl, rfl⟩) (by rfl) ?_
  refine ra_q (j := 9) rfl rfl rfl rfl (do_load_box rfl rfl rfl ⟨rfl, rfl⟩) (by rfl) ?_
  refine ra_q (j := 10) rfl rfl rfl rfl (do_fieldaddr rfl ⟨rfl, rfl⟩) (by rfl) ?_
  refine ra_q (j := 11) rfl rfl rfl rfl (do_load_box rfl rfl rfl ⟨rfl, rfl⟩) (by rfl) ?_
  refine ra_q (j := 12) rfl rfl rfl rfl (do_fieldaddr rfl ⟨rfl, rfl⟩) (by rfl) ?_
  refine ra_q (j := 13) rfl rfl rfl rfl (do_load_box rfl rfl rfl ⟨rfl, rfl⟩) (by rfl) ?_
  refine ra_q (j := 14) rfl rfl rfl rfl (do_ix0 rfl rfl rfl (by first | omega | (simp only [ls] <;> omega)) ⟨rfl, rfl⟩) (by rfl) ?_
  refine ra_q (j := 15) rfl rfl rfl rfl (do_load_arr rfl rfl (by first | omega | (simp only [ls] <;> omega)) rfl ⟨rfl, rfl⟩) (by rfl) ?_
  refine ra_q (j := 16) rfl rfl rfl rfl (do_ix0 rfl rfl rfl (by first | omega | (simp only [ls] <;> omega)) ⟨rfl, rfl⟩) (by rfl) ?_
  refine ra_q (j := 17) rfl rfl rfl rfl (do_load_arr rfl rfl (by first | omega | (simp only [ls] <;> omega)) rfl ⟨rfl, rfl⟩) (by rfl) ?_
  refine ra_q (j := 18) rfl rfl rfl rfl (do_fieldaddr rfl ⟨rfl, rfl⟩) (by rfl) ?_
  refine ra_q (j := 19) rfl rfl rfl rfl (do_load_box rfl rfl rfl ⟨rfl, rfl⟩) (by rfl) ?_
  refine ra_q (j := 20) rfl rfl rfl rfl (do_add rfl rfl (by omega) ⟨rfl, rfl⟩) (by rfl) ?_
  refine n_done ?_
  refine rw_t 113 rfl rfl rfl (do_ix0 rfl rfl rfl (by first | omega | (simp only [ls] <;> omega)) ?_)
  refine rw_u rfl rfl (n_store_arr (z := (((p.Ex.set e.u.toNat ((p.Ex.getD e.u.toNat 0) - e.d)).getD ((c.Head.getD e.arc.toNat 0).toNat) 0) + e.d)) rfl rfl rfl (by first | omega | (simp only [ls] <;> omega)) rfl (by decide) rfl ?_)
  refine rw_nil ?_
  refine w_seq ?_
  -- region 12
  refine w_region ?_
  refine rw_t 114 rfl rfl rfl (n_load_boxagg [_, _, _] rfl rfl (Nat.le_of_ble_eq_true rfl) rfl ?_)
  refine rw_u rfl rfl (n_store_whole rfl rfl rfl rfl rfl rfl ?_)
  refine rw_t 7 rfl rfl rfl (do_assign rfl ?_)
  refine rw_nil ?_
  refine w_ret ?_
  exact ret_eq (.inl rfl) (.cons (res_agg rfl rfl (Nat.le_of_ble_eq_true rfl)) (.cons (res_tmp rfl) .nil)) [0, 1, 2, 3, 4, 5, 6, 7, 8, 14, 16, 18] (by rw [(does_len c p e).1, (does_len c p e).2.1, (does_len c p e).2.2]; rfl) ⟨.inr ⟨_, rfl, .inl rfl⟩, .inr ⟨_, rfl, .inl rfl⟩, .inr ⟨_, rfl, .inl rfl⟩, .inr ⟨_, rfl, .inl rfl⟩, .inr ⟨_, rfl, .inl rfl⟩, .inr ⟨_, rfl, .inl rfl⟩, .inr ⟨_, rfl, .inl rfl⟩, .inr ⟨_, rfl, .inl rfl⟩, .inr ⟨_, rfl, .inl rfl⟩, .inr ⟨_, rfl, .inl (congrArg (SO.ints true .i64) (by unfold doesP; rw [if_neg hc2]; rfl))⟩, .inr ⟨_, rfl, .inl (congrArg (SO.ints true .i64) (by unfold doesP; rw [if_neg hc2]; rfl))⟩, .inr ⟨_, rfl, .inl (congrArg (SO.ints true .i64) (by unfold doesP; rw [if_neg hc2]))⟩, trivial⟩ rfl (pre_ok rfl)
-- f14 "acequia/acequiaref09.Move"
set_option maxHeartbeats 8000000 in
set_option synthInstance.maxHeartbeats 400000 in
set_option synthInstance.maxSize 2000 in
theorem t_rMoveN (c : Csr) (p : Pre) (h : CsrG c) (hp : rightP c p) (e : Event) (he : EvIn e) (hl : legalE c p e ≠ 0) : Tri Try.prog 14 [.agg [.val (.int .i64 c.N), .val (.int .i64 c.S), .val (.int .i64 c.T), .slc 0 0 c.First.length none, .slc 1 0 c.Head.length none, .slc 2 0 c.Rev.length none, .slc 3 0 c.Cap.length none, .slc 4 0 c.Arc.length none, .slc 5 0 c.Back.length none], .agg [.slc 6 0 p.Res.length none, .slc 7 0 p.Ex.length none, .slc 8 0 p.H.length none], .agg [.val (.int .i64 e.who), .val (.int .u8 e.what), .val (.int .i64 e.u), .val (.int .i64 e.arc), .val (.int .i64 e.d), .val (.int .i64 e.h), .val (.int .i64 e.low)]] [SO.ints false .i64 c.First, SO.ints false .i64 c.Head, SO.ints false .i64 c.Rev, SO.ints false .i64 c.Cap, SO.ints false .i64 c.Arc, SO.bools false c.Back, SO.ints false .i64 p.Res, SO.ints false .i64 p.Ex, SO.ints false .i64 p.H] (fun s H => s = .tup [.agg [.slc 6 0 p.Res.length none, .slc 7 0 p.Ex.length none, .slc 8 0 p.H.length none], .val (.int .i64 (legalE c p e))] ∧ H = [SO.ints false .i64 c.First, SO.ints false .i64 c.Head, SO.ints false .i64 c.Rev, SO.ints false .i64 c.Cap, SO.ints false .i64 c.Arc, SO.bools false c.Back, SO.ints false .i64 p.Res, SO.ints false .i64 p.Ex, SO.ints false .i64 p.H]) := by
  refine tri_of_w (fn := Try.f14) Try.func14 rfl (by simp [Try.f14]) ?_
  intro ρ w hρ
  refine w_seq ?_
  -- region 0
  refine w_region ?_
  refine rw_t 3 rfl rfl rfl (n_box_agg (n := 9) rfl rfl ?_)
  refine rw_t 4 rfl rfl rfl (n_box_agg (n := 10) rfl rfl ?_)
  refine rw_t 5 rfl rfl rfl (n_box_agg (n := 11) rfl rfl ?_)
  refine rw_t 6 rfl rfl rfl (n_alloc (n := 12) rfl ?_)
  refine rw_t 7 rfl rfl rfl (do_assign rfl ?_)
  refine rw_nil ?_
  refine w_seq ?_
  -- region 1
  refine w_region ?_
  refine rw_t 10 rfl rfl rfl (n_load_boxagg [_, _, _, _, _, _, _, _, _] rfl rfl (Nat.le_of_ble_eq_true rfl) rfl ?_)
  refine rw_t 11 rfl rfl rfl (n_load_boxagg [_, _, _] rfl rfl (Nat.le_of_ble_eq_true rfl) rfl ?_)
  refine rw_t 12 rfl rfl rfl (n_load_boxagg [_, _, _, _, _, _, _] rfl rfl (Nat.le_of_ble_eq_true rfl) rfl ?_)
  refine rw_t 13 rfl rfl rfl (do_callR (X' := .val (.int .i64 (legalE c p e))) rfl rfl (t_rLegal (c := c) (p := p) (e := e) (h.toCsrOK) (right_len hp) (he)) [0, 1, 2, 3, 4, 5, 6, 7, 8] ⟨.inr ⟨_, rfl, srv⟩, .inr ⟨_, rfl, srv⟩, .inr ⟨_, rfl, srv⟩, .inr ⟨_, rfl, srv⟩, .inr ⟨_, rfl, srv⟩, .inr ⟨_, rfl, srv⟩, .inr ⟨_, rfl, srv⟩, .inr ⟨_, rfl, srv⟩, .inr ⟨_, rfl, srv⟩, trivial⟩ rfl rfl rfl ?_)
  refine rw_t 8 rfl rfl rfl (do_assign rfl ?_)
  refine rw_nil ?_
  refine w_seq ?_
  refine w_seq ?_
  -- region 2
  refine w_region ?_
  refine rw_t 14 rfl rfl rfl (do_move rfl ?_)
  refine rw_t 15 rfl rfl rfl (do_bin rfl rfl rfl ?_)
  refine rw_nil ?_
  refine w_cond rfl (fun hc1 => ?_) (fun hc1 => ?_)
  rotate_left
  · exfalso; first | (cases hc1; done) | exact (hc1 trivial) | (try simp only [bs] at hc1; first | omega | (simp_all; done) | (simp_all; omega))
  refine w_seq ?_
  -- region 3
  refine w_region ?_
  refine rw_t 16 rfl rfl rfl (n_load_boxagg [_, _, _] rfl rfl (Nat.le_of_ble_eq_true rfl) rfl ?_)
  refine rw_t 17 rfl rfl rfl (do_move rfl ?_)
  refine rw_u rfl rfl (n_store_whole rfl rfl rfl rfl rfl rfl ?_)
  refine rw_t 7 rfl rfl rfl (do_assign rfl ?_)
  refine rw_nil ?_
  refine w_ret ?_
  exact ret_eq (.inl rfl) (.cons (res_agg rfl rfl (Nat.le_of_ble_eq_true rfl)) (.cons (res_tmp rfl) .nil)) [0, 1, 2, 3, 4, 5, 6, 7, 8] (rfl) ⟨.inr ⟨_, rfl, .inl rfl⟩, .inr ⟨_, rfl, .inl rfl⟩, .inr ⟨_, rfl, .inl rfl⟩, .inr ⟨_, rfl, .inl rfl⟩, .inr ⟨_, rfl, .inl rfl⟩, .inr ⟨_, rfl, .inl rfl⟩, .inr ⟨_, rfl, .inl rfl⟩, .inr ⟨_, rfl, .inl rfl⟩, .inr ⟨_, rfl, .inl rfl⟩, trivial⟩ rfl (pre_ok rfl)
end Go.Proofs
