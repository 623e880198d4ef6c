/- RelaxedStrict answers true for every input that can be read, and leaves the input as it was. Part 5. -/
import Derived.Test.YtnjmdlnaelpakaaW4
set_option linter.unusedVariables false
set_option linter.unusedSimpArgs false
set_option linter.unusedVariables false
set_option linter.unusedSimpArgs false
namespace Go.Proofs.P7
open Go Go.Sx Go.RowKit
/-- P7.1: who is active. -/
def activeP (c : Csr) (p : Pre) (u : Int) : Prop := (u ≠ c.S ∧ u ≠ c.T) ∧ p.Ex.getD u.toNat 0 > 0
instance (c : Csr) (p : Pre) (u : Int) : Decidable (activeP c p u) := by unfold activeP; infer_instance
def admP (c : Csr) (p : Pre) (u a : Int) : Prop := p.Res.getD a.toNat 0 > 0 ∧ p.H.getD u.toNat 0 = p.H.getD (c.Head.getD a.toNat 0).toNat 0 + 1
instance (c : Csr) (p : Pre) (u a : Int) : Decidable (admP c p u a) := by unfold admP; infer_instance
def stuckP (c : Csr) (p : Pre) (u : Int) : Prop := (∀ j : Nat, j < manyOf c u → ¬ admP c p u (c.First.getD u.toNat 0 + j)) ∧ activeP c p u
instance (c : Csr) (p : Pre) (u : Int) : Decidable (stuckP c p u) := by unfold stuckP; infer_instance
structure PreIn (c : Csr) (p : Pre) : Prop extends PreLen c p where
  hi : ∀ v, 0 ≤ p.H.getD v 0 ∧ p.H.getD v 0 ≤ 8192
set_option maxHeartbeats 8000000 in
set_option synthInstance.maxHeartbeats 400000 in
set_option synthInstance.maxSize 2000 in
theorem t_active (c : Csr) (p : Pre) (h : CsrT c) (hp : PreIn c p) (u : Int) (hu : 0 ≤ u ∧ u < c.N) : Tri Try.prog 52 [.agg [.val (.int .i64 c.N), .val (.int .i64 c.S), .val (.int .i64 c.T), .slc 0 0 c.First.length none, .slc 1 0 c.Head.length none, .slc 2 0 c.Rev.length none, .slc 3 0 c.Cap.length none, .slc 4 0 c.Arc.length none, .slc 5 0 c.Back.length none], .agg [.slc 6 0 p.Res.length none, .slc 7 0 p.Ex.length none, .slc 8 0 p.H.length none], .val (.int .i64 u)] [SO.ints false .i64 c.First, SO.ints false .i64 c.Head, SO.ints false .i64 c.Rev, SO.ints false .i64 c.Cap, SO.ints false .i64 c.Arc, SO.bools false c.Back, SO.ints false .i64 p.Res, SO.ints false .i64 p.Ex, SO.ints false .i64 p.H] (fun s H => s = .val (.bool (decide (activeP c p u))) ∧ H = [SO.ints false .i64 c.First, SO.ints false .i64 c.Head, SO.ints false .i64 c.Rev, SO.ints false .i64 c.Cap, SO.ints false .i64 c.Arc, SO.bools false c.Back, SO.ints false .i64 p.Res, SO.ints false .i64 p.Ex, SO.ints false .i64 p.H]) := by
  refine tri_of_w (fn := Try.f52) Try.func52 rfl (by simp [Try.f52]) ?_
  intro ρ w hρ
  refine w_seq ?_
  have hn := h.n
  have hf := h.first
  have hhd := h.head
  have hrl := h.rev
  have hcl := h.cap
  have hal := h.arc
  have hbl := h.back
  have hr := hp.res
  have hx := hp.ex
  have hh := hp.h
  refine w_region ?_
  refine rw_t 3 rfl rfl rfl (n_box_agg (n := 9) rfl rfl ?_)
  refine rw_t 4 rfl rfl rfl (n_box_agg (n := 10) rfl rfl ?_)
  refine rw_t 6 rfl rfl rfl (do_assign rfl ?_)
  refine rw_nil ?_
  refine w_env [(2, .val (.int .i64 u)), (3, .ptr 9 0 0), (4, .ptr 10 0 0)] ⟨⟨_, rfl, rfl⟩, ⟨_, rfl, rfl⟩, ⟨_, rfl, rfl⟩, trivial⟩ ?_
  refine w_seqB 6 (((u ≠ c.S ∧ u ≠ c.T) ∧ (p.Ex.getD u.toNat 0) > 0)) ?_ ?_
  · -- region 1
    refine w_region ?_
    refine rw_t 7 rfl rfl rfl (do_move rfl ?_)
    refine rw_t 8 rfl rfl rfl (do_fieldaddr rfl ?_)
    refine rw_t 9 rfl rfl rfl (do_load_box rfl rfl rfl ?_)
    refine rw_t 10 rfl rfl rfl (do_bin rfl rfl rfl ?_)
    refine rw_t 11 rfl rfl rfl (do_move rfl ?_)
    refine rw_case 11 rfl (fun g1 => ?_) (fun g1 => ?_)
    · have kg1 := g1
      try simp only [bs] at kg1
      refine rw_gt 12 4 11 true rfl rfl rfl rfl rfl rfl g1 (do_move rfl ?_)
      refine rw_gt 13 4 11 true rfl rfl rfl rfl rfl rfl g1 (do_fieldaddr rfl ?_)
      refine rw_gt 14 4 11 true rfl rfl rfl rfl rfl rfl g1 (do_load_box rfl rfl rfl ?_)
      refine rw_gt 15 4 11 true rfl rfl rfl rfl rfl rfl g1 (do_bin rfl rfl rfl ?_)
      refine rw_t 16 rfl rfl rfl (do_pick_t rfl g1 rfl ?_)
      refine rw_t 17 rfl rfl rfl (do_move rfl ?_)
      refine rw_case 17 rfl (fun g2 => ?_) (fun g2 => ?_)
      · have kg2 := g2
        try simp only [bs] at kg2
        refine rw_gt 18 10 17 true rfl rfl rfl rfl rfl rfl g2 (do_fieldaddr rfl ?_)
        refine rw_gt 19 10 17 true rfl rfl rfl rfl rfl rfl g2 (do_load_box rfl rfl rfl ?_)
        refine rw_gt 20 10 17 true rfl rfl rfl rfl rfl rfl g2 (do_move rfl ?_)
        refine rw_gt 21 10 17 true rfl rfl rfl rfl rfl rfl g2 (do_ix0 rfl rfl rfl (by first | omega | (simp only [ls] <;> omega)) ?_)
        refine rw_gt 22 10 17 true rfl rfl rfl rfl rfl rfl g2 (do_load_arr rfl rfl (by first | omega | (simp only [ls] <;> omega)) rfl ?_)
        refine rw_gt 23 10 17 true rfl rfl rfl rfl rfl rfl g2 (do_bin rfl rfl rfl ?_)
        refine rw_t 24 rfl rfl rfl (do_pick_t rfl g2 rfl ?_)
        refine rw_t 6 rfl rfl rfl (do_assign rfl ?_)
        refine rw_nil ?_
        refine ⟨rfl, ⟨_, rfl, by first | (simp; done) | (simp only [bs]; omega) | (simp [*]; done) | (simp; omega) | (constructor <;> intro h <;> simp_all <;> omega)⟩, ?_⟩
        repeat (refine ⟨⟨_, rfl, rfl⟩, ?_⟩)
        exact trivial
      · have kg2 := g2
        try simp only [bs] at kg2
        refine rw_gf 18 10 17 true rfl rfl rfl rfl rfl rfl (by rw [g2]; decide) ?_
        refine rw_gf 19 10 17 true rfl rfl rfl rfl rfl rfl (by rw [g2]; decide) ?_
        refine rw_gf 20 10 17 true rfl rfl rfl rfl rfl rfl (by rw [g2]; decide) ?_
        refine rw_gf 21 10 17 true rfl rfl rfl rfl rfl rfl (by rw [g2]; decide) ?_
        refine rw_gf 22 10 17 true rfl rfl rfl rfl rfl rfl (by rw [g2]; decide) ?_
        refine rw_gf 23 10 17 true rfl rfl rfl rfl rfl rfl (by rw [g2]; decide) ?_
        refine rw_t 24 rfl rfl rfl (do_pick_f rfl g2 rfl ?_)
        refine rw_t 6 rfl rfl rfl (do_assign rfl ?_)
        refine rw_nil ?_
        refine ⟨rfl, ⟨_, rfl, by first | (simp; done) | (simp only [bs]; omega) | (simp [*]; done) | (simp; omega) | (constructor <;> intro h <;> simp_all <;> omega)⟩, ?_⟩
        repeat (refine ⟨⟨_, rfl, rfl⟩, ?_⟩)
        exact trivial
    · have kg1 := g1
      try simp only [bs] at kg1
      refine rw_gf 12 4 11 true rfl rfl rfl rfl rfl rfl (by rw [g1]; decide) ?_
      refine rw_gf 13 4 11 true rfl rfl rfl rfl rfl rfl (by rw [g1]; decide) ?_
      refine rw_gf 14 4 11 true rfl rfl rfl rfl rfl rfl (by rw [g1]; decide) ?_
      refine rw_gf 15 4 11 true rfl rfl rfl rfl rfl rfl (by rw [g1]; decide) ?_
      refine rw_t 16 rfl rfl rfl (do_pick_f rfl g1 rfl ?_)
      refine rw_t 17 rfl rfl rfl (do_move rfl ?_)
      refine rw_gf 18 10 17 true rfl rfl rfl rfl rfl rfl (by decide) ?_
      refine rw_gf 19 10 17 true rfl rfl rfl rfl rfl rfl (by decide) ?_
      refine rw_gf 20 10 17 true rfl rfl rfl rfl rfl rfl (by decide) ?_
      refine rw_gf 21 10 17 true rfl rfl rfl rfl rfl rfl (by decide) ?_
      refine rw_gf 22 10 17 true rfl rfl rfl rfl rfl rfl (by decide) ?_
      refine rw_gf 23 10 17 true rfl rfl rfl rfl rfl rfl (by decide) ?_
      refine rw_t 24 rfl rfl rfl (do_pick_f rfl rfl rfl ?_)
      refine rw_t 6 rfl rfl rfl (do_assign rfl ?_)
      refine rw_nil ?_
      refine ⟨rfl, ⟨_, rfl, by first | (simp; done) | (simp only [bs]; omega) | (simp [*]; done) | (simp; omega) | (constructor <;> intro h <;> simp_all <;> omega)⟩, ?_⟩
      repeat (refine ⟨⟨_, rfl, rfl⟩, ?_⟩)
      exact trivial
  intro b1 hb1
  refine w_ret ?_
  exact ret_eq (.inl rfl) (.cons (res_tmp rfl) .nil) [0, 1, 2, 3, 4, 5, 6, 7, 8] (Eq.symm (bool_congr (dec_of hb1 Iff.rfl))) ⟨shR rfl, shR rfl, shR rfl, shR rfl, shR rfl, shR rfl, shR rfl, shR rfl, shR rfl, trivial⟩ rfl (pre_ok rfl)
set_option maxHeartbeats 8000000 in
set_option synthInstance.maxHeartbeats 400000 in
set_option synthInstance.maxSize 2000 in
theorem t_adm (c : Csr) (p : Pre) (h : CsrT c) (hp : PreIn c p) (u : Int) (hu : 0 ≤ u ∧ u < c.N) (a : Int) (ha : 0 ≤ a ∧ a < c.Head.length) : Tri Try.prog 53 [.agg [.val (.int .i64 c.N), .val (.int .i64 c.S), .val (.int .i64 c.T), .slc 0 0 c.First.length none, .slc 1 0 c.Head.length none, .slc 2 0 c.Rev.length none, .slc 3 0 c.Cap.length none, .slc 4 0 c.Arc.length none, .slc 5 0 c.Back.length none], .agg [.slc 6 0 p.Res.length none, .slc 7 0 p.Ex.length none, .slc 8 0 p.H.length none], .val (.int .i64 u), .val (.int .i64 a)] [SO.ints false .i64 c.First, SO.ints false .i64 c.Head, SO.ints false .i64 c.Rev, SO.ints false .i64 c.Cap, SO.ints false .i64 c.Arc, SO.bools false c.Back, SO.ints false .i64 p.Res, SO.ints false .i64 p.Ex, SO.ints false .i64 p.H] (fun s H => s = .val (.bool (decide (admP c p u a))) ∧ H = [SO.ints false .i64 c.First, SO.ints false .i64 c.Head, SO.ints false .i64 c.Rev, SO.ints false .i64 c.Cap, SO.ints false .i64 c.Arc, SO.bools false c.Back, SO.ints false .i64 p.Res, SO.ints false .i64 p.Ex, SO.ints false .i64 p.H]) := by
  refine tri_of_w (fn := Try.f53) Try.func53 rfl (by simp [Try.f53]) ?_
  intro ρ w hρ
  refine w_seq ?_
  have hn := h.n
  have hf := h.first
  have hhd := h.head
  have hrl := h.rev
  have hcl := h.cap
  have hal := h.arc
  have hbl := h.back
  have hr := hp.res
  have hx := hp.ex
  have hh := hp.h
  have hd1 := h.hd a.toNat (by omega)
  have hy1 := hp.hi (c.Head.getD a.toNat 0).toNat
  refine w_region ?_
  refine rw_t 4 rfl rfl rfl (n_box_agg (n := 9) rfl rfl ?_)
  refine rw_t 5 rfl rfl rfl (n_box_agg (n := 10) rfl rfl ?_)
  refine rw_t 8 rfl rfl rfl (do_assign rfl ?_)
  refine rw_nil ?_
  refine w_env [(2, .val (.int .i64 u)), (3, .val (.int .i64 a)), (4, .ptr 9 0 0), (5, .ptr 10 0 0)] ⟨⟨_, rfl, rfl⟩, ⟨_, rfl, rfl⟩, ⟨_, rfl, rfl⟩, ⟨_, rfl, rfl⟩, trivial⟩ ?_
  refine w_seqB 8 (((p.Res.getD a.toNat 0) > 0 ∧ (p.H.getD u.toNat 0) = ((p.H.getD ((c.Head.getD a.toNat 0).toNat) 0) + 1))) ?_ ?_
  · -- region 1
    refine w_draw mixed [0, 1, 0, 7, 15, 31, 63, 127, 255, 127, 1023, 2047, 127, 4223, 127, 16511, 127, 114815, 245887, 520319, 1044607, 2093183] [4194303, 8388607, 16777215] (by kernel_rfl) (by kernel_rfl) rfl rfl rfl (hle hρ rfl) ?_
    refine ra_q (j := 0) rfl rfl rfl rfl (do_fieldaddr rfl ⟨rfl, rfl⟩) (by rfl) ?_
    refine ra_q (j := 1) rfl rfl rfl rfl (do_load_box rfl rfl rfl ⟨rfl, rfl⟩) (by rfl) ?_
    refine ra_q (j := 2) rfl rfl rfl rfl (do_move rfl ⟨rfl, rfl⟩) (by rfl) ?_
    refine ra_q (j := 3) rfl rfl rfl rfl (do_ix0 rfl rfl rfl (by first | omega | (simp only [ls] <;> omega)) ⟨rfl, rfl⟩) (by rfl) ?_
    refine ra_q (j := 4) rfl rfl rfl rfl (do_load_arr rfl rfl (by first | omega | (simp only [ls] <;> omega)) rfl ⟨rfl, rfl⟩) (by rfl) ?_
    refine ra_q (j := 5) rfl rfl rfl rfl (do_bin rfl rfl rfl ⟨rfl, rfl⟩) (by rfl) ?_
    refine ra_q (j := 6) rfl rfl rfl rfl (do_move rfl ⟨rfl, rfl⟩) (by rfl) ?_
    refine ra_case 15 rfl (fun g1 => ?_) (fun g1 => ?_)
    · have kg1 := g1
      try simp only [bs] at kg1
      refine ra_gt (j := 7) rfl rfl rfl rfl g1 rfl rfl rfl (do_fieldaddr rfl ⟨rfl, rfl⟩) (by rfl) ?_
      refine ra_gt (j := 8) rfl rfl rfl rfl g1 rfl rfl rfl (do_load_box rfl rfl rfl ⟨rfl, rfl⟩) (by rfl) ?_
      refine ra_gt (j := 9) rfl rfl rfl rfl g1 rfl rfl rfl (do_move rfl ⟨rfl, rfl⟩) (by rfl) ?_
      refine ra_gt (j := 10) rfl rfl rfl rfl g1 rfl rfl rfl (do_ix0 rfl rfl rfl (by first | omega | (simp only [ls] <;> omega)) ⟨rfl, rfl⟩) (by rfl) ?_
      refine ra_gt (j := 11) rfl rfl rfl rfl g1 rfl rfl rfl (do_load_arr rfl rfl (by first | omega | (simp only [ls] <;> omega)) rfl ⟨rfl, rfl⟩) (by rfl) ?_
      refine ra_gt (j := 12) rfl rfl rfl rfl g1 rfl rfl rfl (do_fieldaddr rfl ⟨rfl, rfl⟩) (by rfl) ?_
      refine ra_gt (j := 13) rfl rfl rfl rfl g1 rfl rfl rfl (do_load_box rfl rfl rfl ⟨rfl, rfl⟩) (by rfl) ?_
      refine ra_gt (j := 14) rfl rfl rfl rfl g1 rfl rfl rfl (do_fieldaddr rfl ⟨rfl, rfl⟩) (by rfl) ?_
      refine ra_gt (j := 15) rfl rfl rfl rfl g1 rfl rfl rfl (do_load_box rfl rfl rfl ⟨rfl, rfl⟩) (by rfl) ?_
      refine ra_gt (j := 16) rfl rfl rfl rfl g1 rfl rfl rfl (do_move rfl ⟨rfl, rfl⟩) (by rfl) ?_
      refine ra_gt (j := 17) rfl rfl rfl rfl g1 rfl rfl rfl (do_ix0 rfl rfl rfl (by first | omega | (simp only [ls] <;> omega)) ⟨rfl, rfl⟩) (by rfl) ?_
      refine ra_gt (j := 18) rfl rfl rfl rfl g1 rfl rfl rfl (do_load_arr rfl rfl (by first | omega | (simp only [ls] <;> omega)) rfl ⟨rfl, rfl⟩) (by rfl) ?_
      refine ra_gt (j := 19) rfl rfl rfl rfl g1 rfl rfl rfl (do_ix0 rfl rfl rfl (by first | omega | (simp only [ls] <;> omega)) ⟨rfl, rfl⟩) (by rfl) ?_
      refine ra_gt (j := 20) rfl rfl rfl rfl g1 rfl rfl rfl (do_load_arr rfl rfl (by first | omega | (simp only [ls] <;> omega)) rfl ⟨rfl, rfl⟩) (by rfl) ?_
      refine ra_gt (j := 21) rfl rfl rfl rfl g1 rfl rfl rfl (do_add rfl rfl (by omega) ⟨rfl, rfl⟩) (by rfl) ?_
      refine n_done ?_
      refine rw_gt 31 6 15 true rfl rfl rfl rfl rfl rfl g1 (do_bin rfl rfl rfl ?_)
      refine rw_t 32 rfl rfl rfl (do_pick_t rfl g1 rfl ?_)
      refine rw_t 8 rfl rfl rfl (do_assign rfl ?_)
      refine rw_nil ?_
      refine ⟨rfl, ⟨_, rfl, by first | (simp; done) | (simp only [bs]; omega) | (simp [*]; done) | (simp; omega) | (constructor <;> intro h <;> simp_all <;> omega)⟩, ?_⟩
      repeat (refine ⟨⟨_, rfl, rfl⟩, ?_⟩)
      exact trivial
    · have kg1 := g1
      try simp only [bs] at kg1
      refine ra_gf (j := 7) rfl rfl rfl rfl (by rw [g1]; decide) rfl rfl rfl ?_
      refine ra_gf (j := 8) rfl rfl rfl rfl (by rw [g1]; decide) rfl rfl rfl ?_
      refine ra_gf (j := 9) rfl rfl rfl rfl (by rw [g1]; decide) rfl rfl rfl ?_
      refine ra_gf (j := 10) rfl rfl rfl rfl (by rw [g1]; decide) rfl rfl rfl ?_
      refine ra_gf (j := 11) rfl rfl rfl rfl (by rw [g1]; decide) rfl rfl rfl ?_
      refine ra_gf (j := 12) rfl rfl rfl rfl (by rw [g1]; decide) rfl rfl rfl ?_
      refine ra_gf (j := 13) rfl rfl rfl rfl (by rw [g1]; decide) rfl rfl rfl ?_
      refine ra_gf (j := 14) rfl rfl rfl rfl (by rw [g1]; decide) rfl rfl rfl ?_
      refine ra_gf (j := 15) rfl rfl rfl rfl (by rw [g1]; decide) rfl rfl rfl ?_
      refine ra_gf (j := 16) rfl rfl rfl rfl (by rw [g1]; decide) rfl rfl rfl ?_
      refine ra_gf (j := 17) rfl rfl rfl rfl (by rw [g1]; decide) rfl rfl rfl ?_
      refine ra_gf (j := 18) rfl rfl rfl rfl (by rw [g1]; decide) rfl rfl rfl ?_
      refine ra_gf (j := 19) rfl rfl rfl rfl (by rw [g1]; decide) rfl rfl rfl ?_
      refine ra_gf (j := 20) rfl rfl rfl rfl (by rw [g1]; decide) rfl rfl rfl ?_
      refine ra_gf (j := 21) rfl rfl rfl rfl (by rw [g1]; decide) rfl rfl rfl ?_
      refine n_done ?_
      refine rw_gf 31 6 15 true rfl rfl rfl rfl rfl rfl (by rw [g1]; decide) ?_
      refine rw_t 32 rfl rfl rfl (do_pick_f rfl g1 rfl ?_)
      refine rw_t 8 rfl rfl rfl (do_assign rfl ?_)
      refine rw_nil ?_
      refine ⟨rfl, ⟨_, rfl, by first | (simp; done) | (simp only [bs]; omega) | (simp [*]; done) | (simp; omega) | (constructor <;> intro h <;> simp_all <;> omega)⟩, ?_⟩
      repeat (refine ⟨⟨_, rfl, rfl⟩, ?_⟩)
      exact trivial
  intro b1 hb1
  refine w_ret ?_
  exact ret_eq (.inl rfl) (.cons (res_tmp rfl) .nil) [0, 1, 2, 3, 4, 5, 6, 7, 8] (Eq.symm (bool_congr (dec_of hb1 Iff.rfl))) ⟨shR rfl, shR rfl, shR rfl, shR rfl, shR rfl, shR rfl, shR rfl, shR rfl, shR rfl, trivial⟩ rfl (pre_ok rfl)
set_option maxHeartbeats 8000000 in
set_option synthInstance.maxHeartbeats 400000 in
set_option synthInstance.maxSize 2000 in
theorem t_stuck (c : Csr) (p : Pre) (h : CsrT c) (hp : PreIn c p) (u : Int) (hu : 0 ≤ u ∧ u < c.N) : Tri Try.prog 56 [.agg [.val (.int .i64 c.N), .val (.int .i64 c.S), .val (.int .i64 c.T), .slc 0 0 c.First.length none, .slc 1 0 c.Head.length none, .slc 2 0 c.Rev.length none, .slc 3 0 c.Cap.length none, .slc 4 0 c.Arc.length none, .slc 5 0 c.Back.length none], .agg [.slc 6 0 p.Res.length none, .slc 7 0 p.Ex.length none, .slc 8 0 p.H.length none], .val (.int .i64 u)] [SO.ints false .i64 c.First, SO.ints false .i64 c.Head, SO.ints false .i64 c.Rev, SO.ints false .i64 c.Cap, SO.ints false .i64 c.Arc, SO.bools false c.Back, SO.ints false .i64 p.Res, SO.ints false .i64 p.Ex, SO.ints false .i64 p.H] (fun s H => s = .val (.bool (decide (stuckP c p u))) ∧ H = [SO.ints false .i64 c.First, SO.ints false .i64 c.Head, SO.ints false .i64 c.Rev, SO.ints false .i64 c.Cap, SO.ints false .i64 c.Arc, SO.bools false c.Back, SO.ints false .i64 p.Res, SO.ints false .i64 p.Ex, SO.ints false .i64 p.H]) := by
  refine tri_of_w (fn := Try.f56) Try.func56 rfl (by simp [Try.f56]) ?_
  intro ρ w hρ
  refine w_seq ?_
  have hn := h.n
  have hf := h.first
  have hhd := h.head
  have hrl := h.rev
  have hcl := h.cap
  have hal := h.arc
  have hbl := h.back
  have hr := hp.res
  have hx := hp.ex
  have hh := hp.h
  have hm := h.mono u.toNat (by omega)
  have hmt : (u + 1).toNat = u.toNat + 1 := by omega
  rw [← hmt] at hm
  have hmo : manyOf c u = (c.First.getD (u + 1).toNat 0 - c.First.getD u.toNat 0).toNat := rfl
  have hsm := h.small
  refine w_region ?_
  refine rw_t 3 rfl rfl rfl (n_box_agg (n := 9) rfl rfl ?_)
  refine rw_t 4 rfl rfl rfl (n_box_agg (n := 10) rfl rfl ?_)
  refine rw_t 5 rfl rfl rfl (n_box (n := 11) rfl rfl rfl ?_)
  refine rw_t 6 rfl rfl rfl (n_alloc (n := 12) rfl ?_)
  refine rw_nil ?_
  refine w_seq ?_
  refine w_seq ?_
  refine w_region ?_
  refine rw_t 8 rfl rfl rfl (n_load_boxagg [_, _, _, _, _, _, _, _, _] rfl rfl (Nat.le_of_ble_eq_true rfl) rfl ?_)
  refine rw_t 9 rfl rfl rfl (do_load_box rfl rfl rfl ?_)
  refine rw_t 10 rfl rfl rfl (n_callN (X' := .func 67 [] [.ptr 13 0 0, .ptr 14 0 0]) (N' := [.box [.val (.int .i64 c.N), .val (.int .i64 c.S), .val (.int .i64 c.T), .slc 0 0 c.First.length none, .slc 1 0 c.Head.length none, .slc 2 0 c.Rev.length none, .slc 3 0 c.Cap.length none, .slc 4 0 c.Arc.length none, .slc 5 0 c.Back.length none], .box [.val (.int .i64 u)]]) rfl rfl (t_arcs (c := c) (u := u)) [0, 1, 2, 3, 4, 5] ⟨.inr ⟨_, rfl, srv⟩, .inr ⟨_, rfl, srv⟩, .inr ⟨_, rfl, srv⟩, .inr ⟨_, rfl, srv⟩, .inr ⟨_, rfl, srv⟩, .inr ⟨_, rfl, srv⟩, trivial⟩ rfl rfl rfl rfl rfl ?_)
  refine rw_nil ?_
  refine w_block ?_
  refine w_rf [(3, .ptr 9 0 0), (4, .ptr 10 0 0), (5, .ptr 11 0 0), (6, .ptr 12 0 0)] 15 [.yield 15, .ptr 13 0 0, .ptr 14 0 0] (fun q1 => [SO.ints false .i64 c.First, SO.ints false .i64 c.Head, SO.ints false .i64 c.Rev, SO.ints false .i64 c.Cap, SO.ints false .i64 c.Arc, SO.bools false c.Back, SO.ints false .i64 p.Res, SO.ints false .i64 p.Ex, SO.ints false .i64 p.H, .box [.val (.int .i64 c.N), .val (.int .i64 c.S), .val (.int .i64 c.T), .slc 0 0 c.First.length none, .slc 1 0 c.Head.length none, .slc 2 0 c.Rev.length none, .slc 3 0 c.Cap.length none, .slc 4 0 c.Arc.length none, .slc 5 0 c.Back.length none], .box [.slc 6 0 p.Res.length none, .slc 7 0 p.Ex.length none, .slc 8 0 p.H.length none], .box [.val (.int .i64 u)], .box [.val (.bool false)], .box [.val (.int .i64 c.N), .val (.int .i64 c.S), .val (.int .i64 c.T), .slc 0 0 c.First.length none, .slc 1 0 c.Head.length none, .slc 2 0 c.Rev.length none, .slc 3 0 c.Cap.length none, .slc 4 0 c.Arc.length none, .slc 5 0 c.Back.length none], .box [.val (.int .i64 u)], .gen [.ptr 9 0 0, .ptr 10 0 0, .ptr 11 0 0, .ptr 12 0 0] (q1 .ready none)]) rfl rfl rfl rfl (fun _ => rfl) ⟨⟨_, rfl, rfl⟩, ⟨_, rfl, rfl⟩, ⟨_, rfl, rfl⟩, ⟨_, rfl, rfl⟩, trivial⟩ (fun q1 hq1 => ?_)
  refine tri_of_w (fn := Try.f67) Try.func67 rfl (by simp [Try.f67]) ?_
  intro ρr1 wr1 hρ1
  refine w_seq ?_
  refine w_region ?_
  refine rw_t 5 rfl rfl rfl (do_fieldaddr rfl ?_)
  refine rw_t 6 rfl rfl rfl (do_load_box rfl rfl rfl ?_)
  refine rw_t 7 rfl rfl rfl (do_load_box rfl rfl rfl ?_)
  refine rw_t 8 rfl rfl rfl (do_ix0 rfl rfl rfl (by first | omega | (simp only [ls] <;> omega)) ?_)
  refine rw_t 9 rfl rfl rfl (do_load_arr rfl rfl (by first | omega | (simp only [ls] <;> omega)) rfl ?_)
  refine rw_t 4 rfl rfl rfl (do_assign rfl ?_)
  refine rw_nil ?_
  refine w_block ?_
  refine w_loopS (ι := Nat) (fun i => [(0, .yield 15), (1, .ptr 13 0 0), (2, .ptr 14 0 0), (4, .val (.int .i64 (c.First.getD u.toNat 0 + (i : Int))))]) (fun i => [SO.ints false .i64 c.First, SO.ints false .i64 c.Head, SO.ints false .i64 c.Rev, SO.ints false .i64 c.Cap, SO.ints false .i64 c.Arc, SO.bools false c.Back, SO.ints false .i64 p.Res, SO.ints false .i64 p.Ex, SO.ints false .i64 p.H, .box [.val (.int .i64 c.N), .val (.int .i64 c.S), .val (.int .i64 c.T), .slc 0 0 c.First.length none, .slc 1 0 c.Head.length none, .slc 2 0 c.Rev.length none, .slc 3 0 c.Cap.length none, .slc 4 0 c.Arc.length none, .slc 5 0 c.Back.length none], .box [.slc 6 0 p.Res.length none, .slc 7 0 p.Ex.length none, .slc 8 0 p.H.length none], .box [.val (.int .i64 u)], .box [.val (.bool false)], .box [.val (.int .i64 c.N), .val (.int .i64 c.S), .val (.int .i64 c.T), .slc 0 0 c.First.length none, .slc 1 0 c.Head.length none, .slc 2 0 c.Rev.length none, .slc 3 0 c.Cap.length none, .slc 4 0 c.Arc.length none, .slc 5 0 c.Back.length none], .box [.val (.int .i64 u)], .gen [.ptr 9 0 0, .ptr 10 0 0, .ptr 11 0 0, .ptr 12 0 0] (q1 .ready none)]) (fun i => manyOf c u - i) (fun i => i ≤ manyOf c u ∧ ∀ j : Nat, j < i → ¬ admP c p u (c.First.getD u.toNat 0 + j)) (0) [0, 1, 2, 3, 4, 5, 6, 7, 8, 9, 10, 11, 12, 13, 14, 15] (⟨by simp, fun j hj => by omega⟩) ⟨shR rfl, shR rfl, shR rfl, shR rfl, shR rfl, shR rfl, shR rfl, shR rfl, shR rfl, shR rfl, shR rfl, shR rfl, shR rfl, shR rfl, shR rfl, shR rfl, trivial⟩ rfl (pre_ok rfl) hρ1 ⟨⟨_, rfl, rfl⟩, ⟨_, rfl, rfl⟩, ⟨_, rfl, rfl⟩, ⟨_, rfl, Eq.symm (val_congr (by simp))⟩, trivial⟩ ?_
  rintro i ⟨g1, g2⟩
  refine w_seq ?_
  refine w_seq ?_
  refine w_region ?_
  refine rw_t 10 rfl rfl rfl (do_move rfl ?_)
  refine rw_t 11 rfl rfl rfl (do_fieldaddr rfl ?_)
  refine rw_t 12 rfl rfl rfl (do_load_box rfl rfl rfl ?_)
  refine rw_t 13 rfl rfl rfl (do_load_box rfl rfl rfl ?_)
  refine rw_t 14 rfl rfl rfl (do_add rfl rfl (by omega) ?_)
  refine rw_t 15 rfl rfl rfl (do_ix0 rfl rfl rfl (by first | omega | (simp only [ls] <;> omega)) ?_)
  refine rw_t 16 rfl rfl rfl (do_load_arr rfl rfl (by first | omega | (simp only [ls] <;> omega)) rfl ?_)
  refine rw_t 17 rfl rfl rfl (do_bin rfl rfl rfl ?_)
  refine rw_nil ?_
  refine w_cond rfl (fun hc1 => ?_) (fun hc1 => ?_)
  all_goals try simp only [bs] at hc1
  rotate_left
  · refine w_exit ?_
    refine ret_iter (.inr rfl) rfl (Y := [SO.ints false .i64 c.First, SO.ints false .i64 c.Head, SO.ints false .i64 c.Rev, SO.ints false .i64 c.Cap, SO.ints false .i64 c.Arc, SO.bools false c.Back, SO.ints false .i64 p.Res, SO.ints false .i64 p.Ex, SO.ints false .i64 p.H, .box [.val (.int .i64 c.N), .val (.int .i64 c.S), .val (.int .i64 c.T), .slc 0 0 c.First.length none, .slc 1 0 c.Head.length none, .slc 2 0 c.Rev.length none, .slc 3 0 c.Cap.length none, .slc 4 0 c.Arc.length none, .slc 5 0 c.Back.length none], .box [.slc 6 0 p.Res.length none, .slc 7 0 p.Ex.length none, .slc 8 0 p.H.length none], .box [.val (.int .i64 u)], .box [.val (.bool false)], .box [.val (.int .i64 c.N), .val (.int .i64 c.S), .val (.int .i64 c.T), .slc 0 0 c.First.length none, .slc 1 0 c.Head.length none, .slc 2 0 c.Rev.length none, .slc 3 0 c.Cap.length none, .slc 4 0 c.Arc.length none, .slc 5 0 c.Back.length none], .box [.val (.int .i64 u)], .gen [.ptr 9 0 0, .ptr 10 0 0, .ptr 11 0 0, .ptr 12 0 0] (q1 .ready none)]) [0, 1, 2, 3, 4, 5, 6, 7, 8, 9, 10, 11, 12, 13, 14, 15] ⟨shR rfl, shR rfl, shR rfl, shR rfl, shR rfl, shR rfl, shR rfl, shR rfl, shR rfl, shR rfl, shR rfl, shR rfl, shR rfl, shR rfl, shR rfl, shR rfl, trivial⟩ rfl (pre_ok rfl) ?_
    refine iter_none rfl ?_
    refine w_seq ?_
    refine w_region ?_
    refine rw_t 17 rfl rfl rfl (n_load_boxagg [_, _, _, _, _, _, _, _, _] rfl rfl (Nat.le_of_ble_eq_true rfl) rfl ?_)
    refine rw_t 18 rfl rfl rfl (n_load_boxagg [_, _, _] rfl rfl (Nat.le_of_ble_eq_true rfl) rfl ?_)
    refine rw_t 19 rfl rfl rfl (do_load_box rfl rfl rfl ?_)
    refine rw_t 20 rfl rfl rfl (do_callR (X' := .val (.bool (decide (activeP c p u)))) rfl rfl (t_active (c := c) (p := p) (u := u) (h) (hp) (hu)) [0, 1, 2, 3, 4, 5, 6, 7, 8] ⟨.inr ⟨_, rfl, srv⟩, .inr ⟨_, rfl, srv⟩, .inr ⟨_, rfl, srv⟩, .inr ⟨_, rfl, srv⟩, .inr ⟨_, rfl, srv⟩, .inr ⟨_, rfl, srv⟩, .inr ⟨_, rfl, srv⟩, .inr ⟨_, rfl, srv⟩, .inr ⟨_, rfl, srv⟩, trivial⟩ rfl rfl rfl ?_)
    refine rw_u rfl rfl (n_store_box (f := 0) rfl rfl rfl (Nat.le_of_ble_eq_true rfl) rfl ?_)
    refine rw_nil ?_
    refine w_ret ?_
    exact ret_eq (.inl rfl) (.cons (res_one rfl rfl rfl) .nil) [0, 1, 2, 3, 4, 5, 6, 7, 8] (Eq.symm (bool_congr (decide_eq_decide.2 ⟨fun q => q.2, fun q => ⟨fun j hj => g2 j (by omega), q⟩⟩))) ⟨shR rfl, shR rfl, shR rfl, shR rfl, shR rfl, shR rfl, shR rfl, shR rfl, shR rfl, trivial⟩ rfl (pre_ok rfl)
  refine w_skip ?_
  refine w_seq ?_
  refine w_block ?_
  refine w_seq ?_
  refine w_region ?_
  refine rw_t 20 rfl rfl rfl (do_move rfl ?_)
  refine rw_t 21 rfl rfl rfl (do_move rfl ?_)
  refine rw_t 22 rfl rfl rfl (do_yieldQ [(11, .val (.int .i64 (c.First.getD u.toNat 0 + (i : Int)))), (3, .ptr 9 0 0), (4, .ptr 10 0 0), (5, .ptr 11 0 0), (6, .ptr 12 0 0)] hq1 rfl rfl rfl rfl rfl rfl (fun ρr2 wr2 lr2 hρ2 => ?_))
  refine w_region ?_
  refine rw_t 7 rfl rfl rfl (do_assign rfl ?_)
  refine rw_nil ?_
  refine asg_done rfl ?_
  refine w_block ?_
  refine w_seq ?_
  refine w_region ?_
  refine rw_t 12 rfl rfl rfl (n_load_boxagg [_, _, _, _, _, _, _, _, _] rfl rfl (Nat.le_of_ble_eq_true rfl) rfl ?_)
  refine rw_t 13 rfl rfl rfl (n_load_boxagg [_, _, _] rfl rfl (Nat.le_of_ble_eq_true rfl) rfl ?_)
  refine rw_t 14 rfl rfl rfl (do_load_box rfl rfl rfl ?_)
  refine rw_t 15 rfl rfl rfl (do_move rfl ?_)
  refine rw_t 16 rfl rfl rfl (do_callR (X' := .val (.bool (decide (admP c p u (c.First.getD u.toNat 0 + (i : Int)))))) rfl rfl (t_adm (c := c) (p := p) (u := u) (a := (c.First.getD u.toNat 0 + (i : Int))) (h) (hp) (hu) (by omega)) [0, 1, 2, 3, 4, 5, 6, 7, 8] ⟨.inr ⟨_, rfl, srv⟩, .inr ⟨_, rfl, srv⟩, .inr ⟨_, rfl, srv⟩, .inr ⟨_, rfl, srv⟩, .inr ⟨_, rfl, srv⟩, .inr ⟨_, rfl, srv⟩, .inr ⟨_, rfl, srv⟩, .inr ⟨_, rfl, srv⟩, .inr ⟨_, rfl, srv⟩, trivial⟩ rfl rfl rfl ?_)
  refine rw_nil ?_
  refine w_cond rfl (fun hc2 => ?_) (fun hc2 => ?_)
  all_goals try simp only [bs] at hc2
  · refine w_seq ?_
    refine w_region ?_
    refine rw_u rfl rfl (n_store_box (f := 0) rfl rfl rfl (Nat.le_of_ble_eq_true rfl) rfl ?_)
    refine rw_nil ?_
    refine w_ret ?_
    repeat (with_reducible first | refine bl_n ?_ | refine bl_r ?_ | refine nx_r ?_ | refine nx_e ?_ | refine bl_e rfl ?_)
    refine round_ret rfl ?_
    refine rw_t 23 rfl rfl rfl (do_not rfl ?_)
    refine rw_nil ?_
    refine w_cond rfl (fun hc3 => ?_) (fun hc3 => ?_)
    rotate_left
    · exfalso; first | (cases hc3; done) | exact (hc3 trivial) | (try simp only [bs] at hc3; first | omega | (simp_all; done) | (simp_all; omega))
    refine w_ret ?_
    refine ret_iter (.inl rfl) rfl (Y := [SO.ints false .i64 c.First, SO.ints false .i64 c.Head, SO.ints false .i64 c.Rev, SO.ints false .i64 c.Cap, SO.ints false .i64 c.Arc, SO.bools false c.Back, SO.ints false .i64 p.Res, SO.ints false .i64 p.Ex, SO.ints false .i64 p.H, .box [.val (.int .i64 c.N), .val (.int .i64 c.S), .val (.int .i64 c.T), .slc 0 0 c.First.length none, .slc 1 0 c.Head.length none, .slc 2 0 c.Rev.length none, .slc 3 0 c.Cap.length none, .slc 4 0 c.Arc.length none, .slc 5 0 c.Back.length none], .box [.slc 6 0 p.Res.length none, .slc 7 0 p.Ex.length none, .slc 8 0 p.H.length none], .box [.val (.int .i64 u)], .box [.val (.bool false)], .box [.val (.int .i64 c.N), .val (.int .i64 c.S), .val (.int .i64 c.T), .slc 0 0 c.First.length none, .slc 1 0 c.Head.length none, .slc 2 0 c.Rev.length none, .slc 3 0 c.Cap.length none, .slc 4 0 c.Arc.length none, .slc 5 0 c.Back.length none], .box [.val (.int .i64 u)], .gen [.ptr 9 0 0, .ptr 10 0 0, .ptr 11 0 0, .ptr 12 0 0] (q1 .done (some .ret))]) [0, 1, 2, 3, 4, 5, 6, 7, 8, 9, 10, 11, 12, 13, 14, 15] ⟨shR rfl, shR rfl, shR rfl, shR rfl, shR rfl, shR rfl, shR rfl, shR rfl, shR rfl, shR rfl, shR rfl, shR rfl, shR rfl, shR rfl, shR rfl, shR rfl, trivial⟩ rfl (pre_ok rfl) ?_
    refine iter_ret rfl ?_
    exact ret_eq (.inl rfl) (.cons (res_one rfl rfl rfl) .nil) [0, 1, 2, 3, 4, 5, 6, 7, 8] (Eq.symm (bool_congr (decide_eq_false (fun q => q.1 i (by omega) hc2)))) ⟨shR rfl, shR rfl, shR rfl, shR rfl, shR rfl, shR rfl, shR rfl, shR rfl, shR rfl, trivial⟩ rfl (pre_ok rfl)
  refine w_skip ?_
  repeat (with_reducible first | refine bl_n ?_ | refine bl_r ?_ | refine nx_r ?_ | refine nx_e ?_ | refine bl_e rfl ?_)
  refine round_normal rfl ?_
  refine rw_t 23 rfl rfl rfl (do_not rfl ?_)
  refine rw_nil ?_
  refine w_cond rfl (fun hc4 => ?_) (fun hc4 => ?_)
  · exfalso; first | (cases hc4; done) | exact (hc4 trivial) | (try simp only [bs] at hc4; first | omega | (simp_all; done) | (simp_all; omega))
  refine w_skip ?_
  refine w_region ?_
  refine rw_t 18 rfl rfl rfl (do_move rfl ?_)
  refine rw_t 19 rfl rfl rfl (do_add rfl rfl (by omega) ?_)
  refine rw_t 4 rfl rfl rfl (do_assign rfl ?_)
  refine rw_nil ?_
  refine ⟨i + 1, [0, 1, 2, 3, 4, 5, 6, 7, 8, 9, 10, 11, 12, 13, 14, 15], by dsimp only; omega, ⟨by omega, fun j hj => by rcases Nat.lt_or_ge j i with q | q; exact g2 j q; have : j = i := (by omega); subst this; exact hc2⟩, ⟨shR rfl, shR rfl, shR rfl, shR rfl, shR rfl, shR rfl, shR rfl, shR rfl, shR rfl, shR rfl, shR rfl, shR rfl, shR rfl, shR rfl, shR rfl, shR rfl, trivial⟩, rfl, pre_ok rfl, ⟨⟨_, rfl, rfl⟩, ⟨_, rfl, rfl⟩, ⟨_, rfl, rfl⟩, ⟨_, rfl, Eq.symm (val_congr (by omega))⟩, trivial⟩⟩
end Go.Proofs.P7

set_option linter.unusedVariables false
set_option linter.unusedSimpArgs false
namespace Go.Proofs.P7
open Go Go.Sx Go.RowKit
def Pre.none : Pre := ⟨[], [], []⟩
def pushD (c : Csr) (p : Pre) (a : Int) : Int := if p.Res.getD a.toNat 0 < p.Ex.getD (tailOf c a).toNat 0 then p.Res.getD a.toNat 0 else p.Ex.getD (tailOf c a).toNat 0
def pushesP (c : Csr) (p : Pre) (a : Int) : Prop := activeP c p (tailOf c a) ∧ admP c p (tailOf c a) a
instance (c : Csr) (p : Pre) (a : Int) : Decidable (pushesP c p a) := by unfold pushesP; infer_instance
/-- P7.2. -/
def pushR (c : Csr) (p : Pre) (a : Int) : Pre × Int × Int :=
  if 0 ≤ a ∧ a < c.Head.length then (if pushesP c p a then (moveP c p a (pushD c p a), pushD c p a, 0) else (Pre.none, 0, 30)) else (Pre.none, 0, 2)
/-- What is moved stays within. -/
def PushIn (c : Csr) (p : Pre) : Prop := ∀ a : Int, 0 ≤ a ∧ a < c.Head.length → pushesP c p a → MoveIn c p a (pushD c p a)
def selK (q : Int → Bool) : Nat → List Int
  | 0 => []
  | k + 1 => if q k = true then selK q k ++ [(k : Int)] else selK q k
theorem selK_len (q : Int → Bool) : ∀ k, (selK q k).length ≤ k
  | 0 => by simp [selK]
  | k + 1 => by
    have := selK_len q k
    unfold selK
    split
    · simp only [List.length_append, List.length_singleton]; omega
    · omega
set_option maxHeartbeats 8000000 in
set_option synthInstance.maxHeartbeats 400000 in
set_option synthInstance.maxSize 2000 in
theorem t_TailN (c : Csr) (a : Int) (h : CsrT c) (ha : ¬ (0 ≤ a ∧ a < c.Head.length)) : Tri Try.prog 57 [.agg [.val (.int .i64 c.N), .val (.int .i64 c.S), .val (.int .i64 c.T), .slc 0 0 c.First.length none, .slc 1 0 c.Head.length none, .slc 2 0 c.Rev.length none, .slc 3 0 c.Cap.length none, .slc 4 0 c.Arc.length none, .slc 5 0 c.Back.length none], .val (.int .i64 a)] [SO.ints false .i64 c.First, SO.ints false .i64 c.Head, SO.ints false .i64 c.Rev, SO.ints false .i64 c.Cap, SO.ints false .i64 c.Arc, SO.bools false c.Back] (fun s H => s = .tup [.val (.int .i64 0), .val (.bool false)] ∧ H = [SO.ints false .i64 c.First, SO.ints false .i64 c.Head, SO.ints false .i64 c.Rev, SO.ints false .i64 c.Cap, SO.ints false .i64 c.Arc, SO.bools false c.Back]) := by
  refine tri_of_w (fn := Try.f57) Try.func57 rfl (by simp [Try.f57]) ?_
  intro ρ w hρ
  refine w_seq ?_
  refine w_region ?_
  refine rw_t 2 rfl rfl rfl (n_box_agg (n := 6) rfl rfl ?_)
  refine rw_t 4 rfl rfl rfl (do_assign rfl ?_)
  refine rw_t 5 rfl rfl rfl (do_assign rfl ?_)
  refine rw_nil ?_
  refine w_seq ?_
  have hn := h.n
  have hf := h.first
  have hhd := h.head
  have hrl := h.rev
  have hcl := h.cap
  have hal := h.arc
  have hbl := h.back
  refine w_seqB 13 ((a < 0 ∨ a ≥ ((c.Head.length : Nat) : Int))) ?_ ?_
  · -- region 1
    refine w_region ?_
    refine rw_t 6 rfl rfl rfl (do_move rfl ?_)
    refine rw_t 7 rfl rfl rfl (do_bin rfl rfl rfl ?_)
    refine rw_t 8 rfl rfl rfl (do_move rfl ?_)
    refine rw_case 8 rfl (fun g1 => ?_) (fun g1 => ?_)
    · have kg1 := g1
      try simp only [bs] at kg1
      refine rw_gf 9 2 8 false rfl rfl rfl rfl rfl rfl (by rw [g1]; decide) ?_
      refine rw_gf 10 2 8 false rfl rfl rfl rfl rfl rfl (by rw [g1]; decide) ?_
      refine rw_gf 11 2 8 false rfl rfl rfl rfl rfl rfl (by rw [g1]; decide) ?_
      refine rw_gf 12 2 8 false rfl rfl rfl rfl rfl rfl (by rw [g1]; decide) ?_
      refine rw_t 13 rfl rfl rfl (do_pick_t rfl g1 rfl ?_)
      refine rw_nil ?_
      refine ⟨rfl, ⟨_, rfl, by first | (simp; done) | (simp only [bs]; omega) | (simp [*]; done) | (simp; omega) | (constructor <;> intro h <;> simp_all <;> omega)⟩, ?_⟩
      repeat (refine ⟨⟨_, rfl, rfl⟩, ?_⟩)
      exact trivial
    · have kg1 := g1
      try simp only [bs] at kg1
      refine rw_gt 9 2 8 false rfl rfl rfl rfl rfl rfl g1 (do_move rfl ?_)
      refine rw_gt 10 2 8 false rfl rfl rfl rfl rfl rfl g1 (n_load_boxagg [_, _, _, _, _, _, _, _, _] rfl rfl (Nat.le_of_ble_eq_true rfl) rfl ?_)
      refine rw_gt 11 2 8 false rfl rfl rfl rfl rfl rfl g1 (do_callR (X' := .val (.int .i64 ((c.Head.length : Nat) : Int))) rfl rfl (t_Len (c := c)) [0, 1, 2, 3, 4, 5] ⟨.inr ⟨_, rfl, srv⟩, .inr ⟨_, rfl, srv⟩, .inr ⟨_, rfl, srv⟩, .inr ⟨_, rfl, srv⟩, .inr ⟨_, rfl, srv⟩, .inr ⟨_, rfl, srv⟩, trivial⟩ rfl rfl rfl ?_)
      refine rw_gt 12 2 8 false rfl rfl rfl rfl rfl rfl g1 (do_bin rfl rfl rfl ?_)
      refine rw_t 13 rfl rfl rfl (do_pick_f rfl g1 rfl ?_)
      refine rw_nil ?_
      refine ⟨rfl, ⟨_, rfl, by first | (simp; done) | (simp only [bs]; omega) | (simp [*]; done) | (simp; omega) | (constructor <;> intro h <;> simp_all <;> omega)⟩, ?_⟩
      repeat (refine ⟨⟨_, rfl, rfl⟩, ?_⟩)
      exact trivial
  intro b1 hb1
  refine w_condP hb1 rfl (fun hc1 => ?_) (fun hc1 => ?_)
  rotate_left
  · exfalso; omega
  refine w_seq ?_
  refine w_region ?_
  refine rw_t 4 rfl rfl rfl (do_assign rfl ?_)
  refine rw_t 5 rfl rfl rfl (do_assign rfl ?_)
  refine rw_nil ?_
  refine w_ret ?_
  exact ret_eq (.inl rfl) (.cons (res_tmp rfl) (.cons (res_tmp rfl) .nil)) [0, 1, 2, 3, 4, 5] (rfl) ⟨shR rfl, shR rfl, shR rfl, shR rfl, shR rfl, shR rfl, trivial⟩ rfl (pre_ok rfl)
set_option maxHeartbeats 8000000 in
set_option synthInstance.maxHeartbeats 400000 in
set_option synthInstance.maxSize 2000 in
theorem t_Push (c : Csr) (p : Pre) (h : CsrT c) (hp : PreIn c p) (hm : PushIn c p) (a : Int) : Tri Try.prog 26 [.agg [.val (.int .i64 c.N), .val (.int .i64 c.S), .val (.int .i64 c.T), .slc 0 0 c.First.length none, .slc 1 0 c.Head.length none, .slc 2 0 c.Rev.length none, .slc 3 0 c.Cap.length none, .slc 4 0 c.Arc.length none, .slc 5 0 c.Back.length none], .agg [.slc 6 0 p.Res.length none, .slc 7 0 p.Ex.length none, .slc 8 0 p.H.length none], .val (.int .i64 a)] [SO.ints false .i64 c.First, SO.ints false .i64 c.Head, SO.ints false .i64 c.Rev, SO.ints false .i64 c.Cap, SO.ints false .i64 c.Arc, SO.bools false c.Back, SO.ints false .i64 p.Res, SO.ints false .i64 p.Ex, SO.ints false .i64 p.H] (fun s H => s = .tup [.agg [.slc 9 0 ((pushR c p a).1.Res.length) none, .slc 10 0 ((pushR c p a).1.Ex.length) none, .slc 11 0 ((pushR c p a).1.H.length) none], .val (.int .i64 ((pushR c p a).2.1)), .val (.int .i64 ((pushR c p a).2.2))] ∧ H = [SO.ints false .i64 c.First, SO.ints false .i64 c.Head, SO.ints false .i64 c.Rev, SO.ints false .i64 c.Cap, SO.ints false .i64 c.Arc, SO.bools false c.Back, SO.ints false .i64 p.Res, SO.ints false .i64 p.Ex, SO.ints false .i64 p.H, SO.ints true .i64 ((pushR c p a).1.Res), SO.ints true .i64 ((pushR c p a).1.Ex), SO.ints true .i64 ((pushR c p a).1.H)]) := by
  refine tri_of_w (fn := Try.f26) Try.func26 rfl (by simp [Try.f26]) ?_
  intro ρ w hρ
  refine w_seq ?_
  have hn := h.n
  have hf := h.first
  have hhd := h.head
  have hrl := h.rev
  have hcl := h.cap
  have hal := h.arc
  have hbl := h.back
  have hr := hp.res
  have hx := hp.ex
  have hh := hp.h
  have hsm := h.small
  refine w_region ?_
  refine rw_t 3 rfl rfl rfl (n_box_agg (n := 9) rfl rfl ?_)
  refine rw_t 4 rfl rfl rfl (n_box_agg (n := 10) rfl rfl ?_)
  refine rw_t 6 rfl rfl rfl (n_alloc (n := 11) rfl ?_)
  refine rw_t 7 rfl rfl rfl (do_assign rfl ?_)
  refine rw_t 8 rfl rfl rfl (do_assign rfl ?_)
  refine rw_nil ?_
  refine w_seq ?_
  by_cases ha : 0 ≤ a ∧ a < c.Head.length
  · obtain ⟨tv, ht1, ht2, ht3, ht4⟩ := h.tail_at ha.1 ha.2
    have hu : 0 ≤ tailOf c a ∧ tailOf c a < c.N := by omega
    refine w_region ?_
    refine rw_t 14 rfl rfl rfl (n_load_boxagg [_, _, _, _, _, _, _, _, _] rfl rfl (Nat.le_of_ble_eq_true rfl) rfl ?_)
    refine rw_t 15 rfl rfl rfl (do_move rfl ?_)
    refine rw_t 16 rfl rfl rfl (do_callR (X' := .tup [.val (.int .i64 (tailOf c a)), .val (.bool true)]) rfl rfl (t_Tail (c := c) (a := a) (h) (ha)) [0, 1, 2, 3, 4, 5] ⟨.inr ⟨_, rfl, srv⟩, .inr ⟨_, rfl, srv⟩, .inr ⟨_, rfl, srv⟩, .inr ⟨_, rfl, srv⟩, .inr ⟨_, rfl, srv⟩, .inr ⟨_, rfl, srv⟩, trivial⟩ rfl rfl rfl ?_)
    refine rw_t 13 rfl rfl rfl (do_move rfl ?_)
    refine rw_t 17 rfl rfl rfl (do_extract rfl rfl ?_)
    refine rw_t 18 rfl rfl rfl (do_extract rfl rfl ?_)
    refine rw_t 9 rfl rfl rfl (do_assign rfl ?_)
    refine rw_t 10 rfl rfl rfl (do_assign rfl ?_)
    refine rw_nil ?_
    refine w_seq ?_
    refine w_block ?_
    refine w_seq ?_
    refine w_region ?_
    refine rw_t 20 rfl rfl rfl (do_move rfl ?_)
    refine rw_t 21 rfl rfl rfl (do_not rfl ?_)
    refine rw_t 19 rfl rfl rfl (do_assign rfl ?_)
    refine rw_nil ?_
    refine w_cond rfl (fun hc1 => ?_) (fun hc1 => ?_)
    · exfalso; first | (cases hc1; done) | exact (hc1 trivial) | (try simp only [bs] at hc1; first | omega | (simp_all; done) | (simp_all; omega))
    refine w_seqB 23 ((¬ (activeP c p (tailOf c a)) ∨ ¬ (admP c p (tailOf c a) a))) ?_ ?_
    · -- region 4
      refine w_region ?_
      refine rw_t 24 rfl rfl rfl (n_load_boxagg [_, _, _, _, _, _, _, _, _] rfl rfl (Nat.le_of_ble_eq_true rfl) rfl ?_)
      refine rw_t 25 rfl rfl rfl (n_load_boxagg [_, _, _] rfl rfl (Nat.le_of_ble_eq_true rfl) rfl ?_)
      refine rw_t 26 rfl rfl rfl (do_move rfl ?_)
      refine rw_t 27 rfl rfl rfl (do_callR (X' := .val (.bool (decide (activeP c p (tailOf c a))))) rfl rfl (t_active (c := c) (p := p) (u := tailOf c a) (h) (hp) (hu)) [0, 1, 2, 3, 4, 5, 6, 7, 8] ⟨.inr ⟨_, rfl, srv⟩, .inr ⟨_, rfl, srv⟩, .inr ⟨_, rfl, srv⟩, .inr ⟨_, rfl, srv⟩, .inr ⟨_, rfl, srv⟩, .inr ⟨_, rfl, srv⟩, .inr ⟨_, rfl, srv⟩, .inr ⟨_, rfl, srv⟩, .inr ⟨_, rfl, srv⟩, trivial⟩ rfl rfl rfl ?_)
      refine rw_t 28 rfl rfl rfl (do_not rfl ?_)
      refine rw_t 29 rfl rfl rfl (do_move rfl ?_)
      refine rw_case 29 rfl (fun g1 => ?_) (fun g1 => ?_)
      · have kg1 := g1
        try simp only [bs] at kg1
        refine rw_gf 30 5 29 false rfl rfl rfl rfl rfl rfl (by rw [g1]; decide) ?_
        refine rw_gf 31 5 29 false rfl rfl rfl rfl rfl rfl (by rw [g1]; decide) ?_
        refine rw_gf 32 5 29 false rfl rfl rfl rfl rfl rfl (by rw [g1]; decide) ?_
        refine rw_gf 33 5 29 false rfl rfl rfl rfl rfl rfl (by rw [g1]; decide) ?_
        refine rw_gf 34 5 29 false rfl rfl rfl rfl rfl rfl (by rw [g1]; decide) ?_
        refine rw_gf 35 5 29 false rfl rfl rfl rfl rfl rfl (by rw [g1]; decide) ?_
        refine rw_t 36 rfl rfl rfl (do_pick_t rfl g1 rfl ?_)
        refine rw_t 23 rfl rfl rfl (do_assign rfl ?_)
        refine rw_nil ?_
        refine ⟨rfl, ⟨_, rfl, by first | (simp; done) | (simp only [bs]; omega) | (simp [*]; done) | (simp; omega) | (constructor <;> intro h <;> simp_all <;> omega)⟩, ?_⟩
        repeat (refine ⟨⟨_, rfl, rfl⟩, ?_⟩)
        exact trivial
      · have kg1 := g1
        try simp only [bs] at kg1
        refine rw_gt 30 5 29 false rfl rfl rfl rfl rfl rfl g1 (n_load_boxagg [_, _, _, _, _, _, _, _, _] rfl rfl (Nat.le_of_ble_eq_true rfl) rfl ?_)
        refine rw_gt 31 5 29 false rfl rfl rfl rfl rfl rfl g1 (n_load_boxagg [_, _, _] rfl rfl (Nat.le_of_ble_eq_true rfl) rfl ?_)
        refine rw_gt 32 5 29 false rfl rfl rfl rfl rfl rfl g1 (do_move rfl ?_)
        refine rw_gt 33 5 29 false rfl rfl rfl rfl rfl rfl g1 (do_move rfl ?_)
        refine rw_gt 34 5 29 false rfl rfl rfl rfl rfl rfl g1 (do_callR (X' := .val (.bool (decide (admP c p (tailOf c a) a)))) rfl rfl (t_adm (c := c) (p := p) (u := tailOf c a) (a := a) (h) (hp) (hu) (ha)) [0, 1, 2, 3, 4, 5, 6, 7, 8] ⟨.inr ⟨_, rfl, srv⟩, .inr ⟨_, rfl, srv⟩, .inr ⟨_, rfl, srv⟩, .inr ⟨_, rfl, srv⟩, .inr ⟨_, rfl, srv⟩, .inr ⟨_, rfl, srv⟩, .inr ⟨_, rfl, srv⟩, .inr ⟨_, rfl, srv⟩, .inr ⟨_, rfl, srv⟩, trivial⟩ rfl rfl rfl ?_)
        refine rw_gt 35 5 29 false rfl rfl rfl rfl rfl rfl g1 (do_not rfl ?_)
        refine rw_t 36 rfl rfl rfl (do_pick_f rfl g1 rfl ?_)
        refine rw_t 23 rfl rfl rfl (do_assign rfl ?_)
        refine rw_nil ?_
        refine ⟨rfl, ⟨_, rfl, by first | (simp; done) | (simp only [bs]; omega) | (simp [*]; done) | (simp; omega) | (constructor <;> intro h <;> simp_all <;> omega)⟩, ?_⟩
        repeat (refine ⟨⟨_, rfl, rfl⟩, ?_⟩)
        exact trivial
    intro b1 hb1
    refine w_condP hb1 rfl (fun hc2 => ?_) (fun hc2 => ?_)
    · refine w_seq ?_
      refine w_region ?_
      refine rw_t 37 rfl rfl rfl (do_build (out := [_, _, _]) rfl rfl ?_)
      refine rw_u rfl rfl (n_store_whole rfl rfl rfl rfl rfl rfl ?_)
      refine rw_t 7 rfl rfl rfl (do_assign rfl ?_)
      refine rw_t 8 rfl rfl rfl (do_assign rfl ?_)
      refine rw_nil ?_
      have hno : ¬ pushesP c p a := fun q => by rcases hc2 with w | w; exact w q.1; exact w q.2
      have e1 : pushR c p a = (Pre.none, 0, 30) := by unfold pushR; rw [if_pos ha, if_neg hno]
      refine n_ghost Int 1 (encI .i64) 0 (fun _ => rfl) (fun _ _ h => by simp [encI] at h; subst h; rfl) ?_
      refine n_nilB 11 0 12 0 rfl rfl ?_
      refine n_ghost Int 1 (encI .i64) 0 (fun _ => rfl) (fun _ _ h => by simp [encI] at h; subst h; rfl) ?_
      refine n_nilB 11 1 13 0 rfl rfl ?_
      refine n_ghost Int 1 (encI .i64) 0 (fun _ => rfl) (fun _ _ h => by simp [encI] at h; subst h; rfl) ?_
      refine n_nilB 11 2 14 0 rfl rfl ?_
      refine w_ret ?_
      exact ret_eq (.inl rfl) (.cons (res_agg rfl rfl (Nat.le_of_ble_eq_true rfl)) (.cons (res_tmp rfl) (.cons (res_tmp rfl) .nil))) [0, 1, 2, 3, 4, 5, 6, 7, 8, 12, 13, 14] (by rw [e1]; rfl) ⟨shR rfl, shR rfl, shR rfl, shR rfl, shR rfl, shR rfl, shR rfl, shR rfl, shR rfl, .inr ⟨_, rfl, .inl (congrArg (SO.ints true .i64) (by rw [e1]; try rfl))⟩, .inr ⟨_, rfl, .inl (congrArg (SO.ints true .i64) (by rw [e1]; try rfl))⟩, .inr ⟨_, rfl, .inl (congrArg (SO.ints true .i64) (by rw [e1]; try rfl))⟩, trivial⟩ rfl (pre_ok rfl)
    refine w_skip ?_
    refine w_seq ?_
    have hpu : pushesP c p a := by unfold pushesP; simpa using hc2
    refine w_region ?_
    refine rw_t 38 rfl rfl rfl (n_load_boxagg [_, _, _] rfl rfl (Nat.le_of_ble_eq_true rfl) rfl ?_)
    refine rw_t 39 rfl rfl rfl (n_callN (X' := .agg [.slc 12 0 p.Res.length none, .slc 13 0 p.Ex.length none, .slc 14 0 p.H.length none]) (N' := [SO.ints true .i64 p.Res, SO.ints true .i64 p.Ex, SO.ints true .i64 p.H]) rfl rfl (t_Copy (p := p) (by omega)) [6, 7, 8] ⟨.inr ⟨_, rfl, srv⟩, .inr ⟨_, rfl, srv⟩, .inr ⟨_, rfl, srv⟩, trivial⟩ rfl rfl rfl rfl rfl ?_)
    refine rw_t 11 rfl rfl rfl (n_alloc (n := 15) rfl ?_)
    refine rw_u rfl rfl (n_store_whole rfl rfl rfl rfl rfl rfl ?_)
    refine rw_nil ?_
    refine w_seq ?_
    refine w_draw mixed [0, 1, 0, 7, 15, 0, 32, 0, 224, 480] [1023, 2047] (by kernel_rfl) (by kernel_rfl) rfl rfl rfl (hle hρ rfl) ?_
    refine ra_q (j := 0) rfl rfl rfl rfl (do_fieldaddr rfl ⟨rfl, rfl⟩) (by rfl) ?_
    refine ra_q (j := 1) rfl rfl rfl rfl (do_load_box rfl rfl rfl ⟨rfl, rfl⟩) (by rfl) ?_
    refine ra_q (j := 2) rfl rfl rfl rfl (do_move rfl ⟨rfl, rfl⟩) (by rfl) ?_
    refine ra_q (j := 3) rfl rfl rfl rfl (do_ix0 rfl rfl rfl (by first | omega | (simp only [ls] <;> omega)) ⟨rfl, rfl⟩) (by rfl) ?_
    refine ra_q (j := 4) rfl rfl rfl rfl (do_load_arr rfl rfl (by first | omega | (simp only [ls] <;> omega)) rfl ⟨rfl, rfl⟩) (by rfl) ?_
    refine ra_q (j := 5) rfl rfl rfl rfl (do_fieldaddr rfl ⟨rfl, rfl⟩) (by rfl) ?_
    refine ra_q (j := 6) rfl rfl rfl rfl (do_load_box rfl rfl rfl ⟨rfl, rfl⟩) (by rfl) ?_
    refine ra_q (j := 7) rfl rfl rfl rfl (do_move rfl ⟨rfl, rfl⟩) (by rfl) ?_
    refine ra_q (j := 8) rfl rfl rfl rfl (do_ix0 rfl rfl rfl (by first | omega | (simp only [ls] <;> omega)) ⟨rfl, rfl⟩) (by rfl) ?_
    refine ra_q (j := 9) rfl rfl rfl rfl (do_load_arr rfl rfl (by first | omega | (simp only [ls] <;> omega)) rfl ⟨rfl, rfl⟩) (by rfl) ?_
    refine n_done ?_
    refine rw_t 50 rfl rfl rfl (do_min rfl rfl ?_)
    refine rw_t 12 rfl rfl rfl (do_assign rfl ?_)
    refine rw_nil ?_
    refine w_seq ?_
    refine w_region ?_
    refine rw_t 51 rfl rfl rfl (n_load_boxagg [_, _, _, _, _, _, _, _, _] rfl rfl (Nat.le_of_ble_eq_true rfl) rfl ?_)
    refine rw_t 52 rfl rfl rfl (do_move rfl ?_)
    refine rw_t 53 rfl rfl rfl (do_move rfl ?_)
    refine rw_t 54 rfl rfl rfl (n_callW (X' := .tup []) (H' := [SO.ints false .i64 c.First, SO.ints false .i64 c.Head, SO.ints false .i64 c.Rev, SO.ints false .i64 c.Cap, SO.ints false .i64 c.Arc, SO.bools false c.Back, SO.ints false .i64 p.Res, SO.ints false .i64 p.Ex, SO.ints false .i64 p.H, .box [.val (.int .i64 c.N), .val (.int .i64 c.S), .val (.int .i64 c.T), .slc 0 0 c.First.length none, .slc 1 0 c.Head.length none, .slc 2 0 c.Rev.length none, .slc 3 0 c.Cap.length none, .slc 4 0 c.Arc.length none, .slc 5 0 c.Back.length none], .box [.slc 6 0 p.Res.length none, .slc 7 0 p.Ex.length none, .slc 8 0 p.H.length none], .box [.val (.slice none 0 0), .val (.slice none 0 0), .val (.slice none 0 0)], SO.ints true .i64 ((moveP c p a (pushD c p a)).Res), SO.ints true .i64 ((moveP c p a (pushD c p a)).Ex), SO.ints true .i64 p.H, .box [.slc 12 0 p.Res.length none, .slc 13 0 p.Ex.length none, .slc 14 0 p.H.length none]]) rfl rfl (t_move (c := c) (p := p) (a := a) (d := (pushD c p a)) (h.toCsrOK) (hp.toPreLen) (ha) (hm a ha hpu)) [0, 1, 2, 3, 4, 5, 12, 13, 14, 15] ⟨.inr ⟨_, rfl, srv⟩, .inr ⟨_, rfl, srv⟩, .inr ⟨_, rfl, srv⟩, .inr ⟨_, rfl, srv⟩, .inr ⟨_, rfl, srv⟩, .inr ⟨_, rfl, srv⟩, shR rfl, shR rfl, shR rfl, shR rfl, trivial⟩ rfl rfl ⟨fun h => (by cases h), ⟨fun h => (by cases h), ⟨fun h => (by cases h), ⟨fun h => (by cases h), ⟨fun h => (by cases h), ⟨fun h => (by cases h), ⟨fun h => .inl rfl, ⟨fun h => .inl rfl, ⟨fun h => .inl rfl, ⟨fun h => .inl rfl, (fun y hy => by simp at hy)⟩⟩⟩⟩⟩⟩⟩⟩⟩⟩ rfl rfl ?_)
    refine rw_nil ?_
    refine w_seq ?_
    refine w_region ?_
    refine rw_t 55 rfl rfl rfl (n_load_boxagg [_, _, _] rfl rfl (Nat.le_of_ble_eq_true rfl) rfl ?_)
    refine rw_t 56 rfl rfl rfl (do_move rfl ?_)
    refine rw_u rfl rfl (n_store_whole rfl rfl rfl rfl rfl rfl ?_)
    refine rw_t 7 rfl rfl rfl (do_assign rfl ?_)
    refine rw_t 8 rfl rfl rfl (do_assign rfl ?_)
    refine rw_nil ?_
    have e1 : pushR c p a = (moveP c p a (pushD c p a), pushD c p a, 0) := by unfold pushR; rw [if_pos ha, if_pos hpu]
    obtain ⟨l1, l2, l3⟩ := moveP_len c p a (pushD c p a)
    refine w_ret ?_
    exact ret_eq (.inl rfl) (.cons (res_agg rfl rfl (Nat.le_of_ble_eq_true rfl)) (.cons (res_tmp rfl) (.cons (res_tmp rfl) .nil))) [0, 1, 2, 3, 4, 5, 6, 7, 8, 12, 13, 14] (by rw [e1]; first | (simp only [l1, l2, l3]; done) | (simp only [l1, l2, l3]; rfl)) ⟨shR rfl, shR rfl, shR rfl, shR rfl, shR rfl, shR rfl, shR rfl, shR rfl, shR rfl, .inr ⟨_, rfl, .inl (congrArg (SO.ints true .i64) (by rw [e1]; try rfl))⟩, .inr ⟨_, rfl, .inl (congrArg (SO.ints true .i64) (by rw [e1]; try rfl))⟩, .inr ⟨_, rfl, .inl (congrArg (SO.ints true .i64) (by rw [e1]; try rfl))⟩, trivial⟩ rfl (pre_ok rfl)
  · -- region 1
    refine w_region ?_
    refine rw_t 14 rfl rfl rfl (n_load_boxagg [_, _, _, _, _, _, _, _, _] rfl rfl (Nat.le_of_ble_eq_true rfl) rfl ?_)
    refine rw_t 15 rfl rfl rfl (do_move rfl ?_)
    refine rw_t 16 rfl rfl rfl (do_callR (X' := .tup [.val (.int .i64 0), .val (.bool false)]) rfl rfl (t_TailN (c := c) (a := a) (h) (ha)) [0, 1, 2, 3, 4, 5] ⟨.inr ⟨_, rfl, srv⟩, .inr ⟨_, rfl, srv⟩, .inr ⟨_, rfl, srv⟩, .inr ⟨_, rfl, srv⟩, .inr ⟨_, rfl, srv⟩, .inr ⟨_, rfl, srv⟩, trivial⟩ rfl rfl rfl ?_)
    refine rw_t 13 rfl rfl rfl (do_move rfl ?_)
    refine rw_t 17 rfl rfl rfl (do_extract rfl rfl ?_)
    refine rw_t 18 rfl rfl rfl (do_extract rfl rfl ?_)
    refine rw_t 9 rfl rfl rfl (do_assign rfl ?_)
    refine rw_t 10 rfl rfl rfl (do_assign rfl ?_)
    refine rw_nil ?_
    refine w_seq ?_
    refine w_block ?_
    refine w_seq ?_
    refine w_region ?_
    refine rw_t 20 rfl rfl rfl (do_move rfl ?_)
    refine rw_t 21 rfl rfl rfl (do_not rfl ?_)
    refine rw_t 19 rfl rfl rfl (do_assign rfl ?_)
    refine rw_nil ?_
    refine w_cond rfl (fun hc3 => ?_) (fun hc3 => ?_)
    rotate_left
    · exfalso; first | (cases hc3; done) | exact (hc3 trivial) | (try simp only [bs] at hc3; first | omega | (simp_all; done) | (simp_all; omega))
    refine w_seq ?_
    refine w_region ?_
    refine rw_t 22 rfl rfl rfl (do_build (out := [_, _, _]) rfl rfl ?_)
    refine rw_u rfl rfl (n_store_whole rfl rfl rfl rfl rfl rfl ?_)
    refine rw_t 7 rfl rfl rfl (do_assign rfl ?_)
    refine rw_t 8 rfl rfl rfl (do_assign rfl ?_)
    refine rw_nil ?_
    have e1 : pushR c p a = (Pre.none, 0, 2) := by unfold pushR; rw [if_neg ha]
    refine n_ghost Int 1 (encI .i64) 0 (fun _ => rfl) (fun _ _ h => by simp [encI] at h; subst h; rfl) ?_
    refine n_nilB 11 0 12 0 rfl rfl ?_
    refine n_ghost Int 1 (encI .i64) 0 (fun _ => rfl) (fun _ _ h => by simp [encI] at h; subst h; rfl) ?_
    refine n_nilB 11 1 13 0 rfl rfl ?_
    refine n_ghost Int 1 (encI .i64) 0 (fun _ => rfl) (fun _ _ h => by simp [encI] at h; subst h; rfl) ?_
    refine n_nilB 11 2 14 0 rfl rfl ?_
    refine w_ret ?_
    exact ret_eq (.inl rfl) (.cons (res_agg rfl rfl (Nat.le_of_ble_eq_true rfl)) (.cons (res_tmp rfl) (.cons (res_tmp rfl) .nil))) [0, 1, 2, 3, 4, 5, 6, 7, 8, 12, 13, 14] (by rw [e1]; rfl) ⟨shR rfl, shR rfl, shR rfl, shR rfl, shR rfl, shR rfl, shR rfl, shR rfl, shR rfl, .inr ⟨_, rfl, .inl (congrArg (SO.ints true .i64) (by rw [e1]; try rfl))⟩, .inr ⟨_, rfl, .inl (congrArg (SO.ints true .i64) (by rw [e1]; try rfl))⟩, .inr ⟨_, rfl, .inl (congrArg (SO.ints true .i64) (by rw [e1]; try rfl))⟩, trivial⟩ rfl (pre_ok rfl)
end Go.Proofs.P7

set_option linter.unusedVariables false
set_option linter.unusedSimpArgs false
namespace Go.Proofs.P7
open Go Go.Sx Go.RowKit
/-- The lowest end of S residual arcs, from some number down. -/
def lowL (c : Csr) (p : Pre) (a0 : Int) (m : Int) : Nat → Int
  | 0 => m
  | k + 1 => if p.Res.getD (a0 + k).toNat 0 > 0 then (if p.H.getD (c.Head.getD (a0 + k).toNat 0).toNat 0 < lowL c p a0 m k then p.H.getD (c.Head.getD (a0 + k).toNat 0).toNat 0 else lowL c p a0 m k) else lowL c p a0 m k
def leastL (c : Csr) (p : Pre) (u : Int) : Int := lowL c p (c.First.getD u.toNat 0) (2 * c.N) (manyOf c u)
theorem lowL_in {c : Csr} {p : Pre} (hh : ∀ v, 0 ≤ p.H.getD v 0 ∧ p.H.getD v 0 ≤ 8192) (a0 : Int) {m : Int} (hm : 0 ≤ m ∧ m ≤ 8192) : ∀ k, 0 ≤ lowL c p a0 m k ∧ lowL c p a0 m k ≤ 8192
  | 0 => hm
  | k + 1 => by
    have ih := lowL_in (c := c) hh a0 hm k
    have := hh (c.Head.getD (a0 + k).toNat 0).toNat
    unfold lowL
    repeat' split
    all_goals omega
/-- P7.3. -/
def liftR (c : Csr) (p : Pre) (u : Int) : Pre × Int :=
  if 0 ≤ u ∧ u < c.N then (if stuckP c p u then (⟨p.Res, p.Ex, p.H.set u.toNat (leastL c p u + 1)⟩, 0) else (Pre.none, 30)) else (Pre.none, 2)
set_option maxHeartbeats 8000000 in
set_option synthInstance.maxHeartbeats 400000 in
set_option synthInstance.maxSize 2000 in
theorem t_Lift (c : Csr) (p : Pre) (h : CsrT c) (hp : PreIn c p) (u : Int) : Tri Try.prog 27 [.agg [.val (.int .i64 c.N), .val (.int .i64 c.S), .val (.int .i64 c.T), .slc 0 0 c.First.length none, .slc 1 0 c.Head.length none, .slc 2 0 c.Rev.length none, .slc 3 0 c.Cap.length none, .slc 4 0 c.Arc.length none, .slc 5 0 c.Back.length none], .agg [.slc 6 0 p.Res.length none, .slc 7 0 p.Ex.length none, .slc 8 0 p.H.length none], .val (.int .i64 u)] [SO.ints false .i64 c.First, SO.ints false .i64 c.Head, SO.ints false .i64 c.Rev, SO.ints false .i64 c.Cap, SO.ints false .i64 c.Arc, SO.bools false c.Back, SO.ints false .i64 p.Res, SO.ints false .i64 p.Ex, SO.ints false .i64 p.H] (fun s H => s = .tup [.agg [.slc 9 0 ((liftR c p u).1.Res.length) none, .slc 10 0 ((liftR c p u).1.Ex.length) none, .slc 11 0 ((liftR c p u).1.H.length) none], .val (.int .i64 ((liftR c p u).2))] ∧ H = [SO.ints false .i64 c.First, SO.ints false .i64 c.Head, SO.ints false .i64 c.Rev, SO.ints false .i64 c.Cap, SO.ints false .i64 c.Arc, SO.bools false c.Back, SO.ints false .i64 p.Res, SO.ints false .i64 p.Ex, SO.ints false .i64 p.H, SO.ints true .i64 ((liftR c p u).1.Res), SO.ints true .i64 ((liftR c p u).1.Ex), SO.ints true .i64 ((liftR c p u).1.H)]) := by
  refine tri_of_w (fn := Try.f27) Try.func27 rfl (by simp [Try.f27]) ?_
  intro ρ w hρ
  refine w_seq ?_
  have hn := h.n
  have hf := h.first
  have hhd := h.head
  have hrl := h.rev
  have hcl := h.cap
  have hal := h.arc
  have hbl := h.back
  have hr := hp.res
  have hx := hp.ex
  have hh := hp.h
  have hsm := h.small
  refine w_region ?_
  refine rw_t 3 rfl rfl rfl (n_box_agg (n := 9) rfl rfl ?_)
  refine rw_t 4 rfl rfl rfl (n_box_agg (n := 10) rfl rfl ?_)
  refine rw_t 6 rfl rfl rfl (n_alloc (n := 11) rfl ?_)
  refine rw_t 7 rfl rfl rfl (do_assign rfl ?_)
  refine rw_nil ?_
  refine w_seq ?_
  refine w_block ?_
  refine w_seqB 11 ((u < 0 ∨ u ≥ c.N)) ?_ ?_
  · -- region 1
    refine w_region ?_
    refine rw_t 12 rfl rfl rfl (do_move rfl ?_)
    refine rw_t 13 rfl rfl rfl (do_bin rfl rfl rfl ?_)
    refine rw_t 14 rfl rfl rfl (do_move rfl ?_)
    refine rw_case 14 rfl (fun g1 => ?_) (fun g1 => ?_)
    · have kg1 := g1
      try simp only [bs] at kg1
      refine rw_gf 15 2 14 false rfl rfl rfl rfl rfl rfl (by rw [g1]; decide) ?_
      refine rw_gf 16 2 14 false rfl rfl rfl rfl rfl rfl (by rw [g1]; decide) ?_
      refine rw_gf 17 2 14 false rfl rfl rfl rfl rfl rfl (by rw [g1]; decide) ?_
      refine rw_gf 18 2 14 false rfl rfl rfl rfl rfl rfl (by rw [g1]; decide) ?_
      refine rw_t 19 rfl rfl rfl (do_pick_t rfl g1 rfl ?_)
      refine rw_t 11 rfl rfl rfl (do_assign rfl ?_)
      refine rw_nil ?_
      refine ⟨rfl, ⟨_, rfl, by first | (simp; done) | (simp only [bs]; omega) | (simp [*]; done) | (simp; omega) | (constructor <;> intro h <;> simp_all <;> omega)⟩, ?_⟩
      repeat (refine ⟨⟨_, rfl, rfl⟩, ?_⟩)
      exact trivial
    · have kg1 := g1
      try simp only [bs] at kg1
      refine rw_gt 15 2 14 false rfl rfl rfl rfl rfl rfl g1 (do_move rfl ?_)
      refine rw_gt 16 2 14 false rfl rfl rfl rfl rfl rfl g1 (do_fieldaddr rfl ?_)
      refine rw_gt 17 2 14 false rfl rfl rfl rfl rfl rfl g1 (do_load_box rfl rfl rfl ?_)
      refine rw_gt 18 2 14 false rfl rfl rfl rfl rfl rfl g1 (do_bin rfl rfl rfl ?_)
      refine rw_t 19 rfl rfl rfl (do_pick_f rfl g1 rfl ?_)
      refine rw_t 11 rfl rfl rfl (do_assign rfl ?_)
      refine rw_nil ?_
      refine ⟨rfl, ⟨_, rfl, by first | (simp; done) | (simp only [bs]; omega) | (simp [*]; done) | (simp; omega) | (constructor <;> intro h <;> simp_all <;> omega)⟩, ?_⟩
      repeat (refine ⟨⟨_, rfl, rfl⟩, ?_⟩)
      exact trivial
  intro b1 hb1
  refine w_condP hb1 rfl (fun hc1 => ?_) (fun hc1 => ?_)
  · refine w_seq ?_
    refine w_region ?_
    refine rw_t 20 rfl rfl rfl (do_build (out := [_, _, _]) rfl rfl ?_)
    refine rw_u rfl rfl (n_store_whole rfl rfl rfl rfl rfl rfl ?_)
    refine rw_t 7 rfl rfl rfl (do_assign rfl ?_)
    refine rw_nil ?_
    have hno : ¬ (0 ≤ u ∧ u < c.N) := by omega
    have e1 : liftR c p u = (Pre.none, 2) := by unfold liftR; rw [if_neg hno]
    refine n_ghost Int 1 (encI .i64) 0 (fun _ => rfl) (fun _ _ h => by simp [encI] at h; subst h; rfl) ?_
    refine n_nilB 11 0 12 0 rfl rfl ?_
    refine n_ghost Int 1 (encI .i64) 0 (fun _ => rfl) (fun _ _ h => by simp [encI] at h; subst h; rfl) ?_
    refine n_nilB 11 1 13 0 rfl rfl ?_
    refine n_ghost Int 1 (encI .i64) 0 (fun _ => rfl) (fun _ _ h => by simp [encI] at h; subst h; rfl) ?_
    refine n_nilB 11 2 14 0 rfl rfl ?_
    refine w_ret ?_
    exact ret_eq (.inl rfl) (.cons (res_agg rfl rfl (Nat.le_of_ble_eq_true rfl)) (.cons (res_tmp rfl) .nil)) [0, 1, 2, 3, 4, 5, 6, 7, 8, 12, 13, 14] (by rw [e1]; rfl) ⟨shR rfl, shR rfl, shR rfl, shR rfl, shR rfl, shR rfl, shR rfl, shR rfl, shR rfl, .inr ⟨_, rfl, .inl (congrArg (SO.ints true .i64) (by rw [e1]; try rfl))⟩, .inr ⟨_, rfl, .inl (congrArg (SO.ints true .i64) (by rw [e1]; try rfl))⟩, .inr ⟨_, rfl, .inl (congrArg (SO.ints true .i64) (by rw [e1]; try rfl))⟩, trivial⟩ rfl (pre_ok rfl)
  refine w_seq ?_
  have hu : 0 ≤ u ∧ u < c.N := by omega
  have hm := h.mono u.toNat (by omega)
  have hmt : (u + 1).toNat = u.toNat + 1 := by omega
  rw [← hmt] at hm
  have hmo : manyOf c u = (c.First.getD (u + 1).toNat 0 - c.First.getD u.toNat 0).toNat := rfl
  have hsm := h.small
  refine w_region ?_
  refine rw_t 22 rfl rfl rfl (n_load_boxagg [_, _, _, _, _, _, _, _, _] rfl rfl (Nat.le_of_ble_eq_true rfl) rfl ?_)
  refine rw_t 23 rfl rfl rfl (n_load_boxagg [_, _, _] rfl rfl (Nat.le_of_ble_eq_true rfl) rfl ?_)
  refine rw_t 24 rfl rfl rfl (do_move rfl ?_)
  refine rw_t 25 rfl rfl rfl (do_callR (X' := .val (.bool (decide (stuckP c p u)))) rfl rfl (t_stuck (c := c) (p := p) (u := u) (h) (hp) (hu)) [0, 1, 2, 3, 4, 5, 6, 7, 8] ⟨.inr ⟨_, rfl, srv⟩, .inr ⟨_, rfl, srv⟩, .inr ⟨_, rfl, srv⟩, .inr ⟨_, rfl, srv⟩, .inr ⟨_, rfl, srv⟩, .inr ⟨_, rfl, srv⟩, .inr ⟨_, rfl, srv⟩, .inr ⟨_, rfl, srv⟩, .inr ⟨_, rfl, srv⟩, trivial⟩ rfl rfl rfl ?_)
  refine rw_t 26 rfl rfl rfl (do_not rfl ?_)
  refine rw_t 21 rfl rfl rfl (do_assign rfl ?_)
  refine rw_nil ?_
  refine w_cond rfl (fun hc2 => ?_) (fun hc2 => ?_)
  all_goals try simp only [bs] at hc2
  · refine w_seq ?_
    refine w_region ?_
    refine rw_t 27 rfl rfl rfl (do_build (out := [_, _, _]) rfl rfl ?_)
    refine rw_u rfl rfl (n_store_whole rfl rfl rfl rfl rfl rfl ?_)
    refine rw_t 7 rfl rfl rfl (do_assign rfl ?_)
    refine rw_nil ?_
    have hno : ¬ stuckP c p u := by simpa using hc2
    have e1 : liftR c p u = (Pre.none, 30) := by unfold liftR; rw [if_pos hu, if_neg hno]
    refine n_ghost Int 1 (encI .i64) 0 (fun _ => rfl) (fun _ _ h => by simp [encI] at h; subst h; rfl) ?_
    refine n_nilB 11 0 12 0 rfl rfl ?_
    refine n_ghost Int 1 (encI .i64) 0 (fun _ => rfl) (fun _ _ h => by simp [encI] at h; subst h; rfl) ?_
    refine n_nilB 11 1 13 0 rfl rfl ?_
    refine n_ghost Int 1 (encI .i64) 0 (fun _ => rfl) (fun _ _ h => by simp [encI] at h; subst h; rfl) ?_
    refine n_nilB 11 2 14 0 rfl rfl ?_
    refine w_ret ?_
    exact ret_eq (.inl rfl) (.cons (res_agg rfl rfl (Nat.le_of_ble_eq_true rfl)) (.cons (res_tmp rfl) .nil)) [0, 1, 2, 3, 4, 5, 6, 7, 8, 12, 13, 14] (by rw [e1]; rfl) ⟨shR rfl, shR rfl, shR rfl, shR rfl, shR rfl, shR rfl, shR rfl, shR rfl, shR rfl, .inr ⟨_, rfl, .inl (congrArg (SO.ints true .i64) (by rw [e1]; try rfl))⟩, .inr ⟨_, rfl, .inl (congrArg (SO.ints true .i64) (by rw [e1]; try rfl))⟩, .inr ⟨_, rfl, .inl (congrArg (SO.ints true .i64) (by rw [e1]; try rfl))⟩, trivial⟩ rfl (pre_ok rfl)
  refine w_skip ?_
  refine w_seq ?_
  refine w_region ?_
  refine rw_t 28 rfl rfl rfl (do_fieldaddr rfl ?_)
  refine rw_t 29 rfl rfl rfl (do_load_box rfl rfl rfl ?_)
  refine rw_t 30 rfl rfl rfl (do_mul rfl rfl (by omega) ?_)
  refine rw_t 8 rfl rfl rfl (n_alloc (n := 12) rfl ?_)
  refine rw_u rfl rfl (n_store_box (f := 0) rfl rfl rfl (Nat.le_of_ble_eq_true rfl) rfl ?_)
  refine rw_nil ?_
  refine w_seq ?_
  refine w_seq ?_
  refine w_region ?_
  refine rw_t 31 rfl rfl rfl (n_load_boxagg [_, _, _, _, _, _, _, _, _] rfl rfl (Nat.le_of_ble_eq_true rfl) rfl ?_)
  refine rw_t 32 rfl rfl rfl (do_move rfl ?_)
  refine rw_t 33 rfl rfl rfl (n_callN (X' := .func 67 [] [.ptr 13 0 0, .ptr 14 0 0]) (N' := [.box [.val (.int .i64 c.N), .val (.int .i64 c.S), .val (.int .i64 c.T), .slc 0 0 c.First.length none, .slc 1 0 c.Head.length none, .slc 2 0 c.Rev.length none, .slc 3 0 c.Cap.length none, .slc 4 0 c.Arc.length none, .slc 5 0 c.Back.length none], .box [.val (.int .i64 u)]]) rfl rfl (t_arcs (c := c) (u := u)) [0, 1, 2, 3, 4, 5] ⟨.inr ⟨_, rfl, srv⟩, .inr ⟨_, rfl, srv⟩, .inr ⟨_, rfl, srv⟩, .inr ⟨_, rfl, srv⟩, .inr ⟨_, rfl, srv⟩, .inr ⟨_, rfl, srv⟩, trivial⟩ rfl rfl rfl rfl rfl ?_)
  refine rw_nil ?_
  refine w_block ?_
  refine w_rf [(2, .val (.int .i64 u)), (3, .ptr 9 0 0), (4, .ptr 10 0 0), (6, .ptr 11 0 0), (7, .val (.int .i64 0)), (8, .ptr 12 0 0)] 15 [.yield 15, .ptr 13 0 0, .ptr 14 0 0] (fun q1 => [SO.ints false .i64 c.First, SO.ints false .i64 c.Head, SO.ints false .i64 c.Rev, SO.ints false .i64 c.Cap, SO.ints false .i64 c.Arc, SO.bools false c.Back, SO.ints false .i64 p.Res, SO.ints false .i64 p.Ex, SO.ints false .i64 p.H, .box [.val (.int .i64 c.N), .val (.int .i64 c.S), .val (.int .i64 c.T), .slc 0 0 c.First.length none, .slc 1 0 c.Head.length none, .slc 2 0 c.Rev.length none, .slc 3 0 c.Cap.length none, .slc 4 0 c.Arc.length none, .slc 5 0 c.Back.length none], .box [.slc 6 0 p.Res.length none, .slc 7 0 p.Ex.length none, .slc 8 0 p.H.length none], .box [.val (.slice none 0 0), .val (.slice none 0 0), .val (.slice none 0 0)], .box [.val (.int .i64 (2 * c.N))], .box [.val (.int .i64 c.N), .val (.int .i64 c.S), .val (.int .i64 c.T), .slc 0 0 c.First.length none, .slc 1 0 c.Head.length none, .slc 2 0 c.Rev.length none, .slc 3 0 c.Cap.length none, .slc 4 0 c.Arc.length none, .slc 5 0 c.Back.length none], .box [.val (.int .i64 u)], .gen [.val (.int .i64 u), .ptr 9 0 0, .ptr 10 0 0, .ptr 11 0 0, .val (.int .i64 0), .ptr 12 0 0] (q1 .ready none)]) rfl rfl rfl rfl (fun _ => rfl) ⟨⟨_, rfl, rfl⟩, ⟨_, rfl, rfl⟩, ⟨_, rfl, rfl⟩, ⟨_, rfl, rfl⟩, ⟨_, rfl, rfl⟩, ⟨_, rfl, rfl⟩, trivial⟩ (fun q1 hq1 => ?_)
  refine tri_of_w (fn := Try.f67) Try.func67 rfl (by simp [Try.f67]) ?_
  intro ρr1 wr1 hρ1
  refine w_seq ?_
  refine w_region ?_
  refine rw_t 5 rfl rfl rfl (do_fieldaddr rfl ?_)
  refine rw_t 6 rfl rfl rfl (do_load_box rfl rfl rfl ?_)
  refine rw_t 7 rfl rfl rfl (do_load_box rfl rfl rfl ?_)
  refine rw_t 8 rfl rfl rfl (do_ix0 rfl rfl rfl (by first | omega | (simp only [ls] <;> omega)) ?_)
  refine rw_t 9 rfl rfl rfl (do_load_arr rfl rfl (by first | omega | (simp only [ls] <;> omega)) rfl ?_)
  refine rw_t 4 rfl rfl rfl (do_assign rfl ?_)
  refine rw_nil ?_
  refine w_block ?_
  refine w_loopS (ι := Nat) (fun i => [(0, .yield 15), (1, .ptr 13 0 0), (2, .ptr 14 0 0), (4, .val (.int .i64 (c.First.getD u.toNat 0 + (i : Int))))]) (fun i => [SO.ints false .i64 c.First, SO.ints false .i64 c.Head, SO.ints false .i64 c.Rev, SO.ints false .i64 c.Cap, SO.ints false .i64 c.Arc, SO.bools false c.Back, SO.ints false .i64 p.Res, SO.ints false .i64 p.Ex, SO.ints false .i64 p.H, .box [.val (.int .i64 c.N), .val (.int .i64 c.S), .val (.int .i64 c.T), .slc 0 0 c.First.length none, .slc 1 0 c.Head.length none, .slc 2 0 c.Rev.length none, .slc 3 0 c.Cap.length none, .slc 4 0 c.Arc.length none, .slc 5 0 c.Back.length none], .box [.slc 6 0 p.Res.length none, .slc 7 0 p.Ex.length none, .slc 8 0 p.H.length none], .box [.val (.slice none 0 0), .val (.slice none 0 0), .val (.slice none 0 0)], .box [.val (.int .i64 (lowL c p (c.First.getD u.toNat 0) (2 * c.N) i))], .box [.val (.int .i64 c.N), .val (.int .i64 c.S), .val (.int .i64 c.T), .slc 0 0 c.First.length none, .slc 1 0 c.Head.length none, .slc 2 0 c.Rev.length none, .slc 3 0 c.Cap.length none, .slc 4 0 c.Arc.length none, .slc 5 0 c.Back.length none], .box [.val (.int .i64 u)], .gen [.val (.int .i64 u), .ptr 9 0 0, .ptr 10 0 0, .ptr 11 0 0, .val (.int .i64 0), .ptr 12 0 0] (q1 .ready none)]) (fun i => manyOf c u - i) (fun i => i ≤ manyOf c u) (0) [0, 1, 2, 3, 4, 5, 6, 7, 8, 9, 10, 11, 12, 13, 14, 15] (by simp) ⟨shR rfl, shR rfl, shR rfl, shR rfl, shR rfl, shR rfl, shR rfl, shR rfl, shR rfl, shR rfl, shR rfl, shR rfl, shR rfl, shR rfl, shR rfl, shR rfl, trivial⟩ rfl (pre_ok rfl) hρ1 ⟨⟨_, rfl, rfl⟩, ⟨_, rfl, rfl⟩, ⟨_, rfl, rfl⟩, ⟨_, rfl, Eq.symm (val_congr (by simp))⟩, trivial⟩ ?_
  intro i hi
  refine w_seq ?_
  refine w_seq ?_
  refine w_region ?_
  refine rw_t 10 rfl rfl rfl (do_move rfl ?_)
  refine rw_t 11 rfl rfl rfl (do_fieldaddr rfl ?_)
  refine rw_t 12 rfl rfl rfl (do_load_box rfl rfl rfl ?_)
  refine rw_t 13 rfl rfl rfl (do_load_box rfl rfl rfl ?_)
  refine rw_t 14 rfl rfl rfl (do_add rfl rfl (by omega) ?_)
  refine rw_t 15 rfl rfl rfl (do_ix0 rfl rfl rfl (by first | omega | (simp only [ls] <;> omega)) ?_)
  refine rw_t 16 rfl rfl rfl (do_load_arr rfl rfl (by first | omega | (simp only [ls] <;> omega)) rfl ?_)
  refine rw_t 17 rfl rfl rfl (do_bin rfl rfl rfl ?_)
  refine rw_nil ?_
  refine w_cond rfl (fun hc3 => ?_) (fun hc3 => ?_)
  all_goals try simp only [bs] at hc3
  rotate_left
  · refine w_exit ?_
    refine ret_iter (.inr rfl) rfl (Y := [SO.ints false .i64 c.First, SO.ints false .i64 c.Head, SO.ints false .i64 c.Rev, SO.ints false .i64 c.Cap, SO.ints false .i64 c.Arc, SO.bools false c.Back, SO.ints false .i64 p.Res, SO.ints false .i64 p.Ex, SO.ints false .i64 p.H, .box [.val (.int .i64 c.N), .val (.int .i64 c.S), .val (.int .i64 c.T), .slc 0 0 c.First.length none, .slc 1 0 c.Head.length none, .slc 2 0 c.Rev.length none, .slc 3 0 c.Cap.length none, .slc 4 0 c.Arc.length none, .slc 5 0 c.Back.length none], .box [.slc 6 0 p.Res.length none, .slc 7 0 p.Ex.length none, .slc 8 0 p.H.length none], .box [.val (.slice none 0 0), .val (.slice none 0 0), .val (.slice none 0 0)], .box [.val (.int .i64 (lowL c p (c.First.getD u.toNat 0) (2 * c.N) i))], .box [.val (.int .i64 c.N), .val (.int .i64 c.S), .val (.int .i64 c.T), .slc 0 0 c.First.length none, .slc 1 0 c.Head.length none, .slc 2 0 c.Rev.length none, .slc 3 0 c.Cap.length none, .slc 4 0 c.Arc.length none, .slc 5 0 c.Back.length none], .box [.val (.int .i64 u)], .gen [.val (.int .i64 u), .ptr 9 0 0, .ptr 10 0 0, .ptr 11 0 0, .val (.int .i64 0), .ptr 12 0 0] (q1 .ready none)]) [0, 1, 2, 3, 4, 5, 6, 7, 8, 9, 10, 11, 12, 13, 14, 15] ⟨shR rfl, shR rfl, shR rfl, shR rfl, shR rfl, shR rfl, shR rfl, shR rfl, shR rfl, shR rfl, shR rfl, shR rfl, shR rfl, shR rfl, shR rfl, shR rfl, trivial⟩ rfl (pre_ok rfl) ?_
    refine iter_none rfl ?_
    refine w_seq ?_
    have hl10 := lowL_in (c := c) hp.hi (c.First.getD u.toNat 0) (m := 2 * c.N) (by omega) i
    refine w_region ?_
    refine rw_t 52 rfl rfl rfl (n_load_boxagg [_, _, _] rfl rfl (Nat.le_of_ble_eq_true rfl) rfl ?_)
    refine rw_t 53 rfl rfl rfl (n_callN (X' := .agg [.slc 16 0 p.Res.length none, .slc 17 0 p.Ex.length none, .slc 18 0 p.H.length none]) (N' := [SO.ints true .i64 p.Res, SO.ints true .i64 p.Ex, SO.ints true .i64 p.H]) rfl rfl (t_Copy (p := p) (by omega)) [6, 7, 8] ⟨.inr ⟨_, rfl, srv⟩, .inr ⟨_, rfl, srv⟩, .inr ⟨_, rfl, srv⟩, trivial⟩ rfl rfl rfl rfl rfl ?_)
    refine rw_t 10 rfl rfl rfl (n_alloc (n := 19) rfl ?_)
    refine rw_u rfl rfl (n_store_whole rfl rfl rfl rfl rfl rfl ?_)
    refine rw_nil ?_
    refine w_seq ?_
    refine w_region ?_
    refine rw_t 54 rfl rfl rfl (do_fieldaddr rfl ?_)
    refine rw_t 55 rfl rfl rfl (do_load_box rfl rfl rfl ?_)
    refine rw_t 56 rfl rfl rfl (do_move rfl ?_)
    refine rw_t 57 rfl rfl rfl (do_load_box rfl rfl rfl ?_)
    refine rw_t 58 rfl rfl rfl (do_add rfl rfl (by omega) ?_)
    refine rw_t 59 rfl rfl rfl (do_ix0 rfl rfl rfl (by first | omega | (simp only [ls] <;> omega)) ?_)
    refine rw_u rfl rfl (n_store_arr (z := (lowL c p (c.First.getD u.toNat 0) (2 * c.N) i + 1)) rfl rfl rfl (by first | omega | (simp only [ls] <;> omega)) rfl (by decide) rfl ?_)
    refine rw_nil ?_
    refine w_seq ?_
    refine w_region ?_
    refine rw_t 60 rfl rfl rfl (n_load_boxagg [_, _, _] rfl rfl (Nat.le_of_ble_eq_true rfl) rfl ?_)
    refine rw_u rfl rfl (n_store_whole rfl rfl rfl rfl rfl rfl ?_)
    refine rw_t 7 rfl rfl rfl (do_assign rfl ?_)
    refine rw_nil ?_
    have hsk : stuckP c p u := by simpa using hc2
    have hi' : i = manyOf c u := by omega
    subst hi'
    have e1 : liftR c p u = (⟨p.Res, p.Ex, p.H.set u.toNat (leastL c p u + 1)⟩, 0) := by unfold liftR; rw [if_pos hu, if_pos hsk]
    refine w_ret ?_
    exact ret_eq (.inl rfl) (.cons (res_agg rfl rfl (Nat.le_of_ble_eq_true rfl)) (.cons (res_tmp rfl) .nil)) [0, 1, 2, 3, 4, 5, 6, 7, 8, 16, 17, 18] (by rw [e1]; simp only [List.length_set]; try rfl) ⟨shR rfl, shR rfl, shR rfl, shR rfl, shR rfl, shR rfl, shR rfl, shR rfl, shR rfl, .inr ⟨_, rfl, .inl (congrArg (SO.ints true .i64) (by rw [e1]; try rfl))⟩, .inr ⟨_, rfl, .inl (congrArg (SO.ints true .i64) (by rw [e1]; try rfl))⟩, .inr ⟨_, rfl, .inl (congrArg (SO.ints true .i64) (by rw [e1]; try rfl))⟩, trivial⟩ rfl (pre_ok rfl)
  refine w_skip ?_
  refine w_seq ?_
  refine w_block ?_
  refine w_seq ?_
  refine w_region ?_
  refine rw_t 20 rfl rfl rfl (do_move rfl ?_)
  refine rw_t 21 rfl rfl rfl (do_move rfl ?_)
  refine rw_t 22 rfl rfl rfl (do_yieldQ [(34, .val (.int .i64 (c.First.getD u.toNat 0 + (i : Int)))), (2, .val (.int .i64 u)), (3, .ptr 9 0 0), (4, .ptr 10 0 0), (6, .ptr 11 0 0), (7, .val (.int .i64 0)), (8, .ptr 12 0 0)] hq1 rfl rfl rfl rfl rfl rfl (fun ρr2 wr2 lr2 hρ2 => ?_))
  refine w_region ?_
  refine rw_t 9 rfl rfl rfl (do_assign rfl ?_)
  refine rw_nil ?_
  refine asg_done rfl ?_
  refine w_block ?_
  refine w_seq ?_
  have hd8 := h.hd (c.First.getD u.toNat 0 + (i : Int)).toNat (by omega)
  have hl8 := lowL_in (c := c) hp.hi (c.First.getD u.toNat 0) (m := 2 * c.N) (by omega) i
  refine w_region ?_
  refine rw_t 35 rfl rfl rfl (do_fieldaddr rfl ?_)
  refine rw_t 36 rfl rfl rfl (do_load_box rfl rfl rfl ?_)
  refine rw_t 37 rfl rfl rfl (do_move rfl ?_)
  refine rw_t 38 rfl rfl rfl (do_ix0 rfl rfl rfl (by first | omega | (simp only [ls] <;> omega)) ?_)
  refine rw_t 39 rfl rfl rfl (do_load_arr rfl rfl (by first | omega | (simp only [ls] <;> omega)) rfl ?_)
  refine rw_t 40 rfl rfl rfl (do_bin rfl rfl rfl ?_)
  refine rw_nil ?_
  refine w_cond rfl (fun hc4 => ?_) (fun hc4 => ?_)
  all_goals try simp only [bs] at hc4
  · -- region 9
    refine w_draw mixed [0, 0, 2, 0, 8, 0, 56, 120, 254, 510] [1023, 2047] (by kernel_rfl) (by kernel_rfl) rfl rfl rfl (hle hρ2 rfl) ?_
    refine ra_q (j := 0) rfl rfl rfl rfl (do_load_box rfl rfl rfl ⟨rfl, rfl⟩) (by rfl) ?_
    refine ra_q (j := 1) rfl rfl rfl rfl (do_fieldaddr rfl ⟨rfl, rfl⟩) (by rfl) ?_
    refine ra_q (j := 2) rfl rfl rfl rfl (do_load_box rfl rfl rfl ⟨rfl, rfl⟩) (by rfl) ?_
    refine ra_q (j := 3) rfl rfl rfl rfl (do_fieldaddr rfl ⟨rfl, rfl⟩) (by rfl) ?_
    refine ra_q (j := 4) rfl rfl rfl rfl (do_load_box rfl rfl rfl ⟨rfl, rfl⟩) (by rfl) ?_
    refine ra_q (j := 5) rfl rfl rfl rfl (do_move rfl ⟨rfl, rfl⟩) (by rfl) ?_
    refine ra_q (j := 6) rfl rfl rfl rfl (do_ix0 rfl rfl rfl (by first | omega | (simp only [ls] <;> omega)) ⟨rfl, rfl⟩) (by rfl) ?_
    refine ra_q (j := 7) rfl rfl rfl rfl (do_load_arr rfl rfl (by first | omega | (simp only [ls] <;> omega)) rfl ⟨rfl, rfl⟩) (by rfl) ?_
    refine ra_q (j := 8) rfl rfl rfl rfl (do_ix0 rfl rfl rfl (by first | omega | (simp only [ls] <;> omega)) ⟨rfl, rfl⟩) (by rfl) ?_
    refine ra_q (j := 9) rfl rfl rfl rfl (do_load_arr rfl rfl (by first | omega | (simp only [ls] <;> omega)) rfl ⟨rfl, rfl⟩) (by rfl) ?_
    refine n_done ?_
    refine rw_t 51 rfl rfl rfl (do_min rfl rfl ?_)
    refine rw_u rfl rfl (n_store_box (f := 0) rfl rfl rfl (Nat.le_of_ble_eq_true rfl) rfl ?_)
    refine rw_nil ?_
    repeat (with_reducible first | refine bl_n ?_ | refine bl_r ?_ | refine nx_r ?_ | refine nx_e ?_ | refine bl_e rfl ?_)
    refine round_normal rfl ?_
    refine rw_t 23 rfl rfl rfl (do_not rfl ?_)
    refine rw_nil ?_
    refine w_cond rfl (fun hc5 => ?_) (fun hc5 => ?_)
    · exfalso; first | (cases hc5; done) | exact (hc5 trivial) | (try simp only [bs] at hc5; first | omega | (simp_all; done) | (simp_all; omega))
    refine w_skip ?_
    refine w_region ?_
    refine rw_t 18 rfl rfl rfl (do_move rfl ?_)
    refine rw_t 19 rfl rfl rfl (do_add rfl rfl (by omega) ?_)
    refine rw_t 4 rfl rfl rfl (do_assign rfl ?_)
    refine rw_nil ?_
    refine ⟨i + 1, [0, 1, 2, 3, 4, 5, 6, 7, 8, 9, 10, 11, 12, 13, 14, 15], by dsimp only; omega, by omega, ⟨shR rfl, shR rfl, shR rfl, shR rfl, shR rfl, shR rfl, shR rfl, shR rfl, shR rfl, shR rfl, shR rfl, shR rfl, .inr ⟨_, rfl, .inl (box_congr (cons_congr (val_congr (by simp only [lowL]; rw [if_pos hc4])) ((rfl : ([] : List SV) = []))))⟩, shR rfl, shR rfl, shR rfl, trivial⟩, rfl, pre_ok rfl, ⟨⟨_, rfl, rfl⟩, ⟨_, rfl, rfl⟩, ⟨_, rfl, rfl⟩, ⟨_, rfl, Eq.symm (val_congr (by omega))⟩, trivial⟩⟩
  · refine w_skip ?_
    repeat (with_reducible first | refine bl_n ?_ | refine bl_r ?_ | refine nx_r ?_ | refine nx_e ?_ | refine bl_e rfl ?_)
    refine round_normal rfl ?_
    refine rw_t 23 rfl rfl rfl (do_not rfl ?_)
    refine rw_nil ?_
    refine w_cond rfl (fun hc6 => ?_) (fun hc6 => ?_)
    · exfalso; first | (cases hc6; done) | exact (hc6 trivial) | (try simp only [bs] at hc6; first | omega | (simp_all; done) | (simp_all; omega))
    refine w_skip ?_
    refine w_region ?_
    refine rw_t 18 rfl rfl rfl (do_move rfl ?_)
    refine rw_t 19 rfl rfl rfl (do_add rfl rfl (by omega) ?_)
    refine rw_t 4 rfl rfl rfl (do_assign rfl ?_)
    refine rw_nil ?_
    refine ⟨i + 1, [0, 1, 2, 3, 4, 5, 6, 7, 8, 9, 10, 11, 12, 13, 14, 15], by dsimp only; omega, by omega, ⟨shR rfl, shR rfl, shR rfl, shR rfl, shR rfl, shR rfl, shR rfl, shR rfl, shR rfl, shR rfl, shR rfl, shR rfl, .inr ⟨_, rfl, .inl (box_congr (cons_congr (val_congr (by simp only [lowL]; rw [if_neg hc4])) ((rfl : ([] : List SV) = []))))⟩, shR rfl, shR rfl, shR rfl, trivial⟩, rfl, pre_ok rfl, ⟨⟨_, rfl, rfl⟩, ⟨_, rfl, rfl⟩, ⟨_, rfl, rfl⟩, ⟨_, rfl, Eq.symm (val_congr (by omega))⟩, trivial⟩⟩
end Go.Proofs.P7

set_option linter.unusedVariables false
set_option linter.unusedSimpArgs false
namespace Go.Proofs.P7
open Go Go.Sx Go.RowKit
def actQ (c : Csr) (p : Pre) (u : Int) : Bool := decide (activeP c p u)
def stuQ (c : Csr) (p : Pre) (u : Int) : Bool := decide (stuckP c p u)
def pusQ (c : Csr) (p : Pre) (a : Int) : Bool := decide (pushesP c p a)
def activeL (c : Csr) (p : Pre) : List Int := selK (actQ c p) c.N.toNat
def stuckL (c : Csr) (p : Pre) : List Int := selK (stuQ c p) c.N.toNat
/-- P7.4. -/
def pushL (c : Csr) (p : Pre) : List Int := selK (pusQ c p) c.Head.length
theorem selK_one {q : Int → Bool} {k : Nat} (h : q k = true) : selK q (k + 1) = selK q k ++ [(k : Int)] := by simp only [selK]; rw [if_pos h]
theorem selK_none {q : Int → Bool} {k : Nat} (h : ¬ q k = true) : selK q (k + 1) = selK q k := by simp only [selK]; rw [if_neg h]
set_option maxHeartbeats 8000000 in
set_option synthInstance.maxHeartbeats 400000 in
set_option synthInstance.maxSize 2000 in
theorem t_sel1M (c : Csr) (p : Pre) (h : CsrT c) (hp : PreIn c p) (u : Int) (hu : 0 ≤ u ∧ u < c.N) : Tri Try.prog 55 [.val (.int .i64 u), .ptr 9 0 0, .ptr 10 0 0] [SO.ints false .i64 c.First, SO.ints false .i64 c.Head, SO.ints false .i64 c.Rev, SO.ints false .i64 c.Cap, SO.ints false .i64 c.Arc, SO.bools false c.Back, SO.ints false .i64 p.Res, SO.ints false .i64 p.Ex, SO.ints false .i64 p.H, .box [.val (.int .i64 c.N), .val (.int .i64 c.S), .val (.int .i64 c.T), .slc 0 0 c.First.length none, .slc 1 0 c.Head.length none, .slc 2 0 c.Rev.length none, .slc 3 0 c.Cap.length none, .slc 4 0 c.Arc.length none, .slc 5 0 c.Back.length none], .box [.slc 6 0 p.Res.length none, .slc 7 0 p.Ex.length none, .slc 8 0 p.H.length none]] (fun s H => s = .val (.bool (decide (stuckP c p u))) ∧ H = [SO.ints false .i64 c.First, SO.ints false .i64 c.Head, SO.ints false .i64 c.Rev, SO.ints false .i64 c.Cap, SO.ints false .i64 c.Arc, SO.bools false c.Back, SO.ints false .i64 p.Res, SO.ints false .i64 p.Ex, SO.ints false .i64 p.H, .box [.val (.int .i64 c.N), .val (.int .i64 c.S), .val (.int .i64 c.T), .slc 0 0 c.First.length none, .slc 1 0 c.Head.length none, .slc 2 0 c.Rev.length none, .slc 3 0 c.Cap.length none, .slc 4 0 c.Arc.length none, .slc 5 0 c.Back.length none], .box [.slc 6 0 p.Res.length none, .slc 7 0 p.Ex.length none, .slc 8 0 p.H.length none]]) := by
  refine tri_of_w (fn := Try.f55) Try.func55 rfl (by simp [Try.f55]) ?_
  intro ρ w hρ
  refine w_seq ?_
  have hn := h.n
  have hf := h.first
  have hhd := h.head
  have hrl := h.rev
  have hcl := h.cap
  have hal := h.arc
  have hbl := h.back
  have hr := hp.res
  have hx := hp.ex
  have hh := hp.h
  refine w_region ?_
  refine rw_t 4 rfl rfl rfl (do_assign rfl ?_)
  refine rw_nil ?_
  refine w_seq ?_
  refine w_region ?_
  refine rw_t 5 rfl rfl rfl (n_load_boxagg [_, _, _, _, _, _, _, _, _] rfl rfl (Nat.le_of_ble_eq_true rfl) rfl ?_)
  refine rw_t 6 rfl rfl rfl (n_load_boxagg [_, _, _] rfl rfl (Nat.le_of_ble_eq_true rfl) rfl ?_)
  refine rw_t 7 rfl rfl rfl (do_move rfl ?_)
  refine rw_t 8 rfl rfl rfl (do_callR (X' := .val (.bool (decide (stuckP c p u)))) rfl rfl (t_stuck (c := c) (p := p) (u := u) (h) (hp) (hu)) [0, 1, 2, 3, 4, 5, 6, 7, 8] ⟨.inr ⟨_, rfl, srv⟩, .inr ⟨_, rfl, srv⟩, .inr ⟨_, rfl, srv⟩, .inr ⟨_, rfl, srv⟩, .inr ⟨_, rfl, srv⟩, .inr ⟨_, rfl, srv⟩, .inr ⟨_, rfl, srv⟩, .inr ⟨_, rfl, srv⟩, .inr ⟨_, rfl, srv⟩, trivial⟩ rfl rfl rfl ?_)
  refine rw_t 4 rfl rfl rfl (do_assign rfl ?_)
  refine rw_nil ?_
  refine w_ret ?_
  exact ret_eq (.inl rfl) (.cons (res_tmp rfl) .nil) [0, 1, 2, 3, 4, 5, 6, 7, 8, 9, 10] (rfl) ⟨shR rfl, shR rfl, shR rfl, shR rfl, shR rfl, shR rfl, shR rfl, shR rfl, shR rfl, shR rfl, shR rfl, trivial⟩ rfl (pre_ok rfl)
set_option maxHeartbeats 8000000 in
set_option synthInstance.maxHeartbeats 400000 in
set_option synthInstance.maxSize 2000 in
theorem t_allM (c : Csr) (p : Pre) (h : CsrT c) (hp : PreIn c p) : Tri Try.prog 54 [.agg [.val (.int .i64 c.N), .val (.int .i64 c.S), .val (.int .i64 c.T), .slc 0 0 c.First.length none, .slc 1 0 c.Head.length none, .slc 2 0 c.Rev.length none, .slc 3 0 c.Cap.length none, .slc 4 0 c.Arc.length none, .slc 5 0 c.Back.length none], .func 55 [] [.ptr 9 0 0, .ptr 10 0 0]] [SO.ints false .i64 c.First, SO.ints false .i64 c.Head, SO.ints false .i64 c.Rev, SO.ints false .i64 c.Cap, SO.ints false .i64 c.Arc, SO.bools false c.Back, SO.ints false .i64 p.Res, SO.ints false .i64 p.Ex, SO.ints false .i64 p.H, .box [.val (.int .i64 c.N), .val (.int .i64 c.S), .val (.int .i64 c.T), .slc 0 0 c.First.length none, .slc 1 0 c.Head.length none, .slc 2 0 c.Rev.length none, .slc 3 0 c.Cap.length none, .slc 4 0 c.Arc.length none, .slc 5 0 c.Back.length none], .box [.slc 6 0 p.Res.length none, .slc 7 0 p.Ex.length none, .slc 8 0 p.H.length none]] (fun s H => s = .slc 11 0 ((selK (stuQ c p) c.N.toNat).length) none ∧ H = [SO.ints false .i64 c.First, SO.ints false .i64 c.Head, SO.ints false .i64 c.Rev, SO.ints false .i64 c.Cap, SO.ints false .i64 c.Arc, SO.bools false c.Back, SO.ints false .i64 p.Res, SO.ints false .i64 p.Ex, SO.ints false .i64 p.H, .box [.val (.int .i64 c.N), .val (.int .i64 c.S), .val (.int .i64 c.T), .slc 0 0 c.First.length none, .slc 1 0 c.Head.length none, .slc 2 0 c.Rev.length none, .slc 3 0 c.Cap.length none, .slc 4 0 c.Arc.length none, .slc 5 0 c.Back.length none], .box [.slc 6 0 p.Res.length none, .slc 7 0 p.Ex.length none, .slc 8 0 p.H.length none], SO.ints true .i64 (selK (stuQ c p) c.N.toNat)]) := by
  refine tri_of_w (fn := Try.f54) Try.func54 rfl (by simp [Try.f54]) ?_
  intro ρ w hρ
  refine w_seq ?_
  have hn := h.n
  have hf := h.first
  have hhd := h.head
  have hrl := h.rev
  have hcl := h.cap
  have hal := h.arc
  have hbl := h.back
  have hr := hp.res
  have hx := hp.ex
  have hh := hp.h
  refine w_region ?_
  refine rw_t 2 rfl rfl rfl (n_box_agg (n := 11) rfl rfl ?_)
  refine rw_t 4 rfl rfl rfl (do_assign rfl ?_)
  refine rw_nil ?_
  refine w_seq ?_
  refine w_region ?_
  refine rw_t 5 rfl rfl rfl (do_assign rfl ?_)
  refine rw_nil ?_
  refine w_seq ?_
  refine w_seq ?_
  refine w_region ?_
  refine rw_t 7 rfl rfl rfl (do_fieldaddr rfl ?_)
  refine rw_t 8 rfl rfl rfl (do_load_box rfl rfl rfl ?_)
  refine rw_t 9 rfl rfl rfl (do_move rfl ?_)
  refine rw_nil ?_
  refine w_block ?_
  refine n_ghost Int 1 (encI .i64) 0 (fun _ => rfl) (fun _ _ h => by simp [encI] at h; subst h; rfl) ?_
  refine w_nilE 5 12 0 rfl ?_
  refine w_loopS (ι := Nat) (fun i => [(1, .func 55 [] [.ptr 9 0 0, .ptr 10 0 0]), (4, .val (.slice none 0 0)), (5, .slc 12 0 ((selK (stuQ c p) i).length) none), (8, .val (.int .i64 c.N)), (9, .val (.int .i64 ((i : Nat) : Int)))]) (fun i => [SO.ints false .i64 c.First, SO.ints false .i64 c.Head, SO.ints false .i64 c.Rev, SO.ints false .i64 c.Cap, SO.ints false .i64 c.Arc, SO.bools false c.Back, SO.ints false .i64 p.Res, SO.ints false .i64 p.Ex, SO.ints false .i64 p.H, .box [.val (.int .i64 c.N), .val (.int .i64 c.S), .val (.int .i64 c.T), .slc 0 0 c.First.length none, .slc 1 0 c.Head.length none, .slc 2 0 c.Rev.length none, .slc 3 0 c.Cap.length none, .slc 4 0 c.Arc.length none, .slc 5 0 c.Back.length none], .box [.slc 6 0 p.Res.length none, .slc 7 0 p.Ex.length none, .slc 8 0 p.H.length none], .box [.val (.int .i64 c.N), .val (.int .i64 c.S), .val (.int .i64 c.T), .slc 0 0 c.First.length none, .slc 1 0 c.Head.length none, .slc 2 0 c.Rev.length none, .slc 3 0 c.Cap.length none, .slc 4 0 c.Arc.length none, .slc 5 0 c.Back.length none], SO.ints true .i64 (selK (stuQ c p) i)]) (fun i => c.N.toNat - i) (fun i => i ≤ c.N.toNat) (0) [0, 1, 2, 3, 4, 5, 6, 7, 8, 9, 10, 11, 12] (by simp) ⟨shR rfl, shR rfl, shR rfl, shR rfl, shR rfl, shR rfl, shR rfl, shR rfl, shR rfl, shR rfl, shR rfl, shR rfl, shR rfl, trivial⟩ rfl (pre_ok rfl) hρ ⟨⟨_, rfl, rfl⟩, ⟨_, rfl, rfl⟩, ⟨_, rfl, rfl⟩, ⟨_, rfl, rfl⟩, ⟨_, rfl, rfl⟩, trivial⟩ ?_
  intro i hi
  have hsl := selK_len (stuQ c p) i
  refine w_seq ?_
  refine w_region ?_
  refine rw_t 10 rfl rfl rfl (do_bin rfl rfl rfl ?_)
  refine rw_nil ?_
  refine w_seq ?_
  refine w_cond rfl (fun hc1 => ?_) (fun hc1 => ?_)
  all_goals try simp only [bs] at hc1
  rotate_left
  · refine w_exit ?_
    refine w_seq ?_
    refine w_region ?_
    refine rw_t 20 rfl rfl rfl (do_move rfl ?_)
    refine rw_t 4 rfl rfl rfl (do_assign rfl ?_)
    refine rw_nil ?_
    have hi' : i = c.N.toNat := by omega
    subst hi'
    refine w_ret ?_
    exact ret_eq (.inl rfl) (.cons (res_tmp rfl) .nil) [0, 1, 2, 3, 4, 5, 6, 7, 8, 9, 10, 12] (rfl) ⟨shR rfl, shR rfl, shR rfl, shR rfl, shR rfl, shR rfl, shR rfl, shR rfl, shR rfl, shR rfl, shR rfl, shR rfl, trivial⟩ rfl (pre_ok rfl)
  refine w_skip ?_
  refine w_seq ?_
  refine w_block ?_
  refine w_seq ?_
  refine w_region ?_
  refine rw_t 11 rfl rfl rfl (do_move rfl ?_)
  refine rw_t 6 rfl rfl rfl (do_assign rfl ?_)
  refine rw_nil ?_
  refine w_seq ?_
  refine w_region ?_
  refine rw_t 12 rfl rfl rfl (do_move rfl ?_)
  refine rw_t 13 rfl rfl rfl (do_move rfl ?_)
  refine rw_t 14 rfl rfl rfl (n_callW (X' := .val (.bool (decide (stuckP c p ((i : Nat) : Int))))) (H' := [SO.ints false .i64 c.First, SO.ints false .i64 c.Head, SO.ints false .i64 c.Rev, SO.ints false .i64 c.Cap, SO.ints false .i64 c.Arc, SO.bools false c.Back, SO.ints false .i64 p.Res, SO.ints false .i64 p.Ex, SO.ints false .i64 p.H, .box [.val (.int .i64 c.N), .val (.int .i64 c.S), .val (.int .i64 c.T), .slc 0 0 c.First.length none, .slc 1 0 c.Head.length none, .slc 2 0 c.Rev.length none, .slc 3 0 c.Cap.length none, .slc 4 0 c.Arc.length none, .slc 5 0 c.Back.length none], .box [.slc 6 0 p.Res.length none, .slc 7 0 p.Ex.length none, .slc 8 0 p.H.length none], .box [.val (.int .i64 c.N), .val (.int .i64 c.S), .val (.int .i64 c.T), .slc 0 0 c.First.length none, .slc 1 0 c.Head.length none, .slc 2 0 c.Rev.length none, .slc 3 0 c.Cap.length none, .slc 4 0 c.Arc.length none, .slc 5 0 c.Back.length none], SO.ints true .i64 (selK (stuQ c p) i)]) rfl rfl (t_sel1M (c := c) (p := p) (u := ((i : Nat) : Int)) (h) (hp) (by omega)) [0, 1, 2, 3, 4, 5, 6, 7, 8, 9, 10] ⟨.inr ⟨_, rfl, srv⟩, .inr ⟨_, rfl, srv⟩, .inr ⟨_, rfl, srv⟩, .inr ⟨_, rfl, srv⟩, .inr ⟨_, rfl, srv⟩, .inr ⟨_, rfl, srv⟩, .inr ⟨_, rfl, srv⟩, .inr ⟨_, rfl, srv⟩, .inr ⟨_, rfl, srv⟩, shR rfl, shR rfl, trivial⟩ rfl rfl ⟨fun h => (by cases h), ⟨fun h => (by cases h), ⟨fun h => (by cases h), ⟨fun h => (by cases h), ⟨fun h => (by cases h), ⟨fun h => (by cases h), ⟨fun h => (by cases h), ⟨fun h => (by cases h), ⟨fun h => (by cases h), ⟨fun h => .inl rfl, ⟨fun h => .inl rfl, (fun y hy => by simp at hy)⟩⟩⟩⟩⟩⟩⟩⟩⟩⟩⟩ rfl rfl ?_)
  refine rw_nil ?_
  refine w_cond rfl (fun hc2 => ?_) (fun hc2 => ?_)
  all_goals try simp only [bs] at hc2
  · -- region 6
    refine w_region ?_
    refine rw_t 15 rfl rfl rfl (do_move rfl ?_)
    refine rw_t 16 rfl rfl rfl (do_move rfl ?_)
    refine rw_t 17 rfl rfl rfl (n_bs (nm := 13) Int (encI .i64) 0 [((i : Nat) : Int)] rfl rfl rfl rfl rfl (fun _ => rfl) (fun _ _ h => by simp [encI] at h; subst h; rfl) rfl ?_)
    refine rw_t 18 rfl rfl rfl (n_app_own (nm := 14) rfl rfl rfl rfl rfl (by first | omega | (simp only [ls] <;> omega)) (by first | omega | (simp only [ls] <;> omega)) (by omega) (by omega) rfl ?_)
    refine rw_t 5 rfl rfl rfl (do_assign rfl ?_)
    refine rw_nil ?_
    refine w_region ?_
    refine rw_t 19 rfl rfl rfl (do_add rfl rfl (by omega) ?_)
    refine rw_t 9 rfl rfl rfl (do_move rfl ?_)
    refine rw_nil ?_
    have hq : (stuQ c p) i = true := decide_eq_true hc2
    refine ⟨i + 1, [0, 1, 2, 3, 4, 5, 6, 7, 8, 9, 10, 11, 14], by dsimp only; omega, by omega, ⟨shR rfl, shR rfl, shR rfl, shR rfl, shR rfl, shR rfl, shR rfl, shR rfl, shR rfl, shR rfl, shR rfl, shR rfl, .inr ⟨_, rfl, .inl (congrArg (SO.ints true .i64) (selK_one hq))⟩, trivial⟩, rfl, pre_ok rfl, ⟨⟨_, rfl, rfl⟩, ⟨_, rfl, rfl⟩, ⟨_, rfl, (congrArg (fun n => SV.slc 14 0 n none) (by rw [selK_one hq, List.length_append]; rfl : (selK (stuQ c p) i).length + 1 = (selK (stuQ c p) (i + 1)).length)).trans rfl⟩, ⟨_, rfl, rfl⟩, ⟨_, rfl, rfl⟩, trivial⟩⟩
  · refine w_skip ?_
    refine w_region ?_
    refine rw_t 19 rfl rfl rfl (do_add rfl rfl (by omega) ?_)
    refine rw_t 9 rfl rfl rfl (do_move rfl ?_)
    refine rw_nil ?_
    have hq : ¬ (stuQ c p) i = true := fun q => hc2 (of_decide_eq_true q)
    refine ⟨i + 1, [0, 1, 2, 3, 4, 5, 6, 7, 8, 9, 10, 11, 12], by dsimp only; omega, by omega, ⟨shR rfl, shR rfl, shR rfl, shR rfl, shR rfl, shR rfl, shR rfl, shR rfl, shR rfl, shR rfl, shR rfl, shR rfl, .inr ⟨_, rfl, .inl (congrArg (SO.ints true .i64) (selK_none hq))⟩, trivial⟩, rfl, pre_ok rfl, ⟨⟨_, rfl, rfl⟩, ⟨_, rfl, rfl⟩, ⟨_, rfl, (congrArg (fun n => SV.slc 12 0 n none) (by rw [selK_none hq] : (selK (stuQ c p) i).length = (selK (stuQ c p) (i + 1)).length)).trans rfl⟩, ⟨_, rfl, rfl⟩, ⟨_, rfl, rfl⟩, trivial⟩⟩
end Go.Proofs.P7

set_option linter.unusedVariables false
set_option linter.unusedSimpArgs false
namespace Go.Proofs.P7
open Go Go.Sx Go.RowKit
theorem selK_push {q : Int → Bool} {k i : Nat} {z : Int} (h : q ((k + i : Nat) : Int) = true) (hz : z = ((k + i : Nat) : Int)) : selK q (k + (i + 1)) = selK q (k + i) ++ [z] := by rw [hz]; exact selK_one h
theorem selK_skip {q : Int → Bool} {k i : Nat} (h : ¬ q ((k + i : Nat) : Int) = true) : selK q (k + (i + 1)) = selK q (k + i) := selK_none h
set_option maxHeartbeats 8000000 in
set_option synthInstance.maxHeartbeats 400000 in
set_option synthInstance.maxSize 2000 in
theorem t_May (c : Csr) (p : Pre) (h : CsrT c) (hp : PreIn c p) : Tri Try.prog 25 [.agg [.val (.int .i64 c.N), .val (.int .i64 c.S), .val (.int .i64 c.T), .slc 0 0 c.First.length none, .slc 1 0 c.Head.length none, .slc 2 0 c.Rev.length none, .slc 3 0 c.Cap.length none, .slc 4 0 c.Arc.length none, .slc 5 0 c.Back.length none], .agg [.slc 6 0 p.Res.length none, .slc 7 0 p.Ex.length none, .slc 8 0 p.H.length none]] [SO.ints false .i64 c.First, SO.ints false .i64 c.Head, SO.ints false .i64 c.Rev, SO.ints false .i64 c.Cap, SO.ints false .i64 c.Arc, SO.bools false c.Back, SO.ints false .i64 p.Res, SO.ints false .i64 p.Ex, SO.ints false .i64 p.H] (fun s H => s = .tup [.slc 9 0 ((pushL c p).length) none, .slc 10 0 ((stuckL c p).length) none] ∧ H = [SO.ints false .i64 c.First, SO.ints false .i64 c.Head, SO.ints false .i64 c.Rev, SO.ints false .i64 c.Cap, SO.ints false .i64 c.Arc, SO.bools false c.Back, SO.ints false .i64 p.Res, SO.ints false .i64 p.Ex, SO.ints false .i64 p.H, SO.ints true .i64 (pushL c p), SO.ints true .i64 (stuckL c p)]) := by
  refine tri_of_w (fn := Try.f25) Try.func25 rfl (by simp [Try.f25]) ?_
  intro ρ w hρ
  refine w_seq ?_
  have hn := h.n
  have hf := h.first
  have hhd := h.head
  have hrl := h.rev
  have hcl := h.cap
  have hal := h.arc
  have hbl := h.back
  have hr := hp.res
  have hx := hp.ex
  have hh := hp.h
  have hsm := h.small
  have hf0 := h.f0
  have hfN := h.fN
  refine w_region ?_
  refine rw_t 2 rfl rfl rfl (n_box_agg (n := 9) rfl rfl ?_)
  refine rw_t 3 rfl rfl rfl (n_box_agg (n := 10) rfl rfl ?_)
  refine rw_t 4 rfl rfl rfl (do_assign rfl ?_)
  refine rw_t 5 rfl rfl rfl (do_assign rfl ?_)
  refine rw_nil ?_
  refine w_seq ?_
  refine w_region ?_
  refine rw_t 6 rfl rfl rfl (n_alloc (n := 11) rfl ?_)
  refine rw_nil ?_
  refine w_seq ?_
  refine w_seq ?_
  refine w_region ?_
  refine rw_t 9 rfl rfl rfl (do_fieldaddr rfl ?_)
  refine rw_t 10 rfl rfl rfl (do_load_box rfl rfl rfl ?_)
  refine rw_t 11 rfl rfl rfl (do_move rfl ?_)
  refine rw_nil ?_
  refine w_block ?_
  refine n_ghost Int 1 (encI .i64) 0 (fun _ => rfl) (fun _ _ h => by simp [encI] at h; subst h; rfl) ?_
  refine n_nilB 11 0 12 0 rfl rfl ?_
  refine w_loopS (ι := Nat) (fun v => [(2, .ptr 9 0 0), (3, .ptr 10 0 0), (4, .val (.slice none 0 0)), (5, .val (.slice none 0 0)), (6, .ptr 11 0 0), (10, .val (.int .i64 c.N)), (11, .val (.int .i64 ((v : Nat) : Int)))]) (fun v => [SO.ints false .i64 c.First, SO.ints false .i64 c.Head, SO.ints false .i64 c.Rev, SO.ints false .i64 c.Cap, SO.ints false .i64 c.Arc, SO.bools false c.Back, SO.ints false .i64 p.Res, SO.ints false .i64 p.Ex, SO.ints false .i64 p.H, .box [.val (.int .i64 c.N), .val (.int .i64 c.S), .val (.int .i64 c.T), .slc 0 0 c.First.length none, .slc 1 0 c.Head.length none, .slc 2 0 c.Rev.length none, .slc 3 0 c.Cap.length none, .slc 4 0 c.Arc.length none, .slc 5 0 c.Back.length none], .box [.slc 6 0 p.Res.length none, .slc 7 0 p.Ex.length none, .slc 8 0 p.H.length none], .box [.slc 12 0 ((selK (pusQ c p) (c.First.getD v 0).toNat).length) none], SO.ints true .i64 (selK (pusQ c p) (c.First.getD v 0).toNat)]) (fun v => c.N.toNat - v) (fun v => v ≤ c.N.toNat) (0) [0, 1, 2, 3, 4, 5, 6, 7, 8, 9, 10, 11, 12] (by simp) ⟨shR rfl, shR rfl, shR rfl, shR rfl, shR rfl, shR rfl, shR rfl, shR rfl, shR rfl, shR rfl, shR rfl, .inr ⟨_, rfl, .inl (box_congr (cons_congr (congrArg (fun n => SV.slc 12 0 n none) (by rw [hf0]; rfl)) ((rfl : ([] : List SV) = []))))⟩, .inr ⟨_, rfl, .inl (congrArg (SO.ints true .i64) (by rw [hf0]; rfl))⟩, trivial⟩ rfl (pre_ok rfl) hρ ⟨⟨_, rfl, rfl⟩, ⟨_, rfl, rfl⟩, ⟨_, rfl, rfl⟩, ⟨_, rfl, rfl⟩, ⟨_, rfl, rfl⟩, ⟨_, rfl, rfl⟩, ⟨_, rfl, rfl⟩, trivial⟩ ?_
  intro v hv
  refine w_seq ?_
  refine w_region ?_
  refine rw_t 12 rfl rfl rfl (do_bin rfl rfl rfl ?_)
  refine rw_nil ?_
  refine w_seq ?_
  refine w_cond rfl (fun hc1 => ?_) (fun hc1 => ?_)
  all_goals try simp only [bs] at hc1
  rotate_left
  · refine w_exit ?_
    refine w_seq ?_
    refine w_env [(2, .ptr 9 0 0), (3, .ptr 10 0 0), (6, .ptr 11 0 0)] ⟨⟨_, rfl, rfl⟩, ⟨_, rfl, rfl⟩, ⟨_, rfl, rfl⟩, trivial⟩ ?_
    refine w_draw mixed [0, 0, 0, 6] [15, 31] (by kernel_rfl) (by kernel_rfl) rfl rfl rfl (hle hρ rfl) ?_
    refine ra_q (j := 0) rfl rfl rfl rfl (do_load_box rfl rfl rfl ⟨rfl, rfl⟩) (by rfl) ?_
    refine ra_q (j := 1) rfl rfl rfl rfl (n_load_boxagg [_, _, _, _, _, _, _, _, _] rfl rfl (Nat.le_of_ble_eq_true rfl) rfl ⟨rfl, rfl⟩) (by rfl) ?_
    refine ra_q (j := 2) rfl rfl rfl rfl (do_makefunc rfl rfl ⟨rfl, rfl⟩) (by rfl) ?_
    refine ra_n (j := 3) rfl rfl rfl rfl (n_callW (X' := .slc 13 0 ((selK (stuQ c p) c.N.toNat).length) none) (H' := [SO.ints false .i64 c.First, SO.ints false .i64 c.Head, SO.ints false .i64 c.Rev, SO.ints false .i64 c.Cap, SO.ints false .i64 c.Arc, SO.bools false c.Back, SO.ints false .i64 p.Res, SO.ints false .i64 p.Ex, SO.ints false .i64 p.H, .box [.val (.int .i64 c.N), .val (.int .i64 c.S), .val (.int .i64 c.T), .slc 0 0 c.First.length none, .slc 1 0 c.Head.length none, .slc 2 0 c.Rev.length none, .slc 3 0 c.Cap.length none, .slc 4 0 c.Arc.length none, .slc 5 0 c.Back.length none], .box [.slc 6 0 p.Res.length none, .slc 7 0 p.Ex.length none, .slc 8 0 p.H.length none], .box [.slc 12 0 ((selK (pusQ c p) (c.First.getD v 0).toNat).length) none], SO.ints true .i64 (selK (pusQ c p) (c.First.getD v 0).toNat), SO.ints true .i64 (selK (stuQ c p) c.N.toNat)]) rfl rfl (t_allM (c := c) (p := p) (h) (hp)) [0, 1, 2, 3, 4, 5, 6, 7, 8, 9, 10] ⟨.inr ⟨_, rfl, srv⟩, .inr ⟨_, rfl, srv⟩, .inr ⟨_, rfl, srv⟩, .inr ⟨_, rfl, srv⟩, .inr ⟨_, rfl, srv⟩, .inr ⟨_, rfl, srv⟩, .inr ⟨_, rfl, srv⟩, .inr ⟨_, rfl, srv⟩, .inr ⟨_, rfl, srv⟩, shR rfl, shR rfl, trivial⟩ rfl rfl ⟨fun h => (by cases h), ⟨fun h => (by cases h), ⟨fun h => (by cases h), ⟨fun h => (by cases h), ⟨fun h => (by cases h), ⟨fun h => (by cases h), ⟨fun h => (by cases h), ⟨fun h => (by cases h), ⟨fun h => (by cases h), ⟨fun h => .inl rfl, ⟨fun h => .inl rfl, (okNew_tail rfl)⟩⟩⟩⟩⟩⟩⟩⟩⟩⟩⟩ rfl rfl ⟨rfl, rfl⟩) (by rfl) (by rfl) (by rfl) ?_
    refine n_done ?_
    refine rw_t 4 rfl rfl rfl (do_assign rfl ?_)
    refine rw_t 5 rfl rfl rfl (do_assign rfl ?_)
    refine rw_nil ?_
    have hv' : v = c.N.toNat := by omega
    subst hv'
    have hend : (c.First.getD c.N.toNat 0).toNat = c.Head.length := by omega
    refine w_ret ?_
    exact ret_eq (.inl rfl) (.cons (res_tmp rfl) (.cons (res_tmp rfl) .nil)) [0, 1, 2, 3, 4, 5, 6, 7, 8, 12, 13] (by unfold pushL stuckL; rw [← hend]; rfl) ⟨shR rfl, shR rfl, shR rfl, shR rfl, shR rfl, shR rfl, shR rfl, shR rfl, shR rfl, .inr ⟨_, rfl, .inl (congrArg (SO.ints true .i64) (by unfold pushL; rw [← hend]))⟩, shR rfl, trivial⟩ rfl (pre_ok rfl)
  refine w_skip ?_
  refine w_seq ?_
  refine w_block ?_
  refine w_seq ?_
  have hu : 0 ≤ ((v : Nat) : Int) ∧ ((v : Nat) : Int) < c.N := by omega
  have hm := h.mono v (by omega)
  have hv1 : ((v : Nat) : Int).toNat = v := Int.toNat_natCast v
  have hv2 : (((v : Nat) : Int) + 1).toNat = v + 1 := by omega
  have hsl := selK_len (pusQ c p) (c.First.getD v 0).toNat
  refine w_region ?_
  refine rw_t 13 rfl rfl rfl (do_move rfl ?_)
  refine rw_t 7 rfl rfl rfl (n_alloc (n := 13) rfl ?_)
  refine rw_u rfl rfl (n_store_box (f := 0) rfl rfl rfl (Nat.le_of_ble_eq_true rfl) rfl ?_)
  refine rw_nil ?_
  refine w_seq ?_
  refine w_region ?_
  refine rw_t 14 rfl rfl rfl (n_load_boxagg [_, _, _, _, _, _, _, _, _] rfl rfl (Nat.le_of_ble_eq_true rfl) rfl ?_)
  refine rw_t 15 rfl rfl rfl (do_load_box rfl rfl rfl ?_)
  refine rw_t 16 rfl rfl rfl (n_callN (X' := .func 67 [] [.ptr 14 0 0, .ptr 15 0 0]) (N' := [.box [.val (.int .i64 c.N), .val (.int .i64 c.S), .val (.int .i64 c.T), .slc 0 0 c.First.length none, .slc 1 0 c.Head.length none, .slc 2 0 c.Rev.length none, .slc 3 0 c.Cap.length none, .slc 4 0 c.Arc.length none, .slc 5 0 c.Back.length none], .box [.val (.int .i64 ((v : Nat) : Int))]]) rfl rfl (t_arcs (c := c) (u := ((v : Nat) : Int))) [0, 1, 2, 3, 4, 5] ⟨.inr ⟨_, rfl, srv⟩, .inr ⟨_, rfl, srv⟩, .inr ⟨_, rfl, srv⟩, .inr ⟨_, rfl, srv⟩, .inr ⟨_, rfl, srv⟩, .inr ⟨_, rfl, srv⟩, trivial⟩ rfl rfl rfl rfl rfl ?_)
  refine rw_nil ?_
  refine w_block ?_
  refine w_rf [(2, .ptr 9 0 0), (3, .ptr 10 0 0), (4, .val (.slice none 0 0)), (5, .val (.slice none 0 0)), (6, .ptr 11 0 0), (7, .ptr 13 0 0), (10, .val (.int .i64 c.N)), (11, .val (.int .i64 ((v : Nat) : Int))), (12, .val (.bool (decide (((v : Nat) : Int) < c.N)))), (13, .val (.int .i64 ((v : Nat) : Int))), (14, .agg [.val (.int .i64 c.N), .val (.int .i64 c.S), .val (.int .i64 c.T), .slc 0 0 c.First.length none, .slc 1 0 c.Head.length none, .slc 2 0 c.Rev.length none, .slc 3 0 c.Cap.length none, .slc 4 0 c.Arc.length none, .slc 5 0 c.Back.length none]), (15, .val (.int .i64 ((v : Nat) : Int))), (16, .func 67 [] [.ptr 14 0 0, .ptr 15 0 0])] 16 [.yield 16, .ptr 14 0 0, .ptr 15 0 0] (fun q1 => [SO.ints false .i64 c.First, SO.ints false .i64 c.Head, SO.ints false .i64 c.Rev, SO.ints false .i64 c.Cap, SO.ints false .i64 c.Arc, SO.bools false c.Back, SO.ints false .i64 p.Res, SO.ints false .i64 p.Ex, SO.ints false .i64 p.H, .box [.val (.int .i64 c.N), .val (.int .i64 c.S), .val (.int .i64 c.T), .slc 0 0 c.First.length none, .slc 1 0 c.Head.length none, .slc 2 0 c.Rev.length none, .slc 3 0 c.Cap.length none, .slc 4 0 c.Arc.length none, .slc 5 0 c.Back.length none], .box [.slc 6 0 p.Res.length none, .slc 7 0 p.Ex.length none, .slc 8 0 p.H.length none], .box [.slc 12 0 ((selK (pusQ c p) (c.First.getD v 0).toNat).length) none], SO.ints true .i64 (selK (pusQ c p) (c.First.getD v 0).toNat), .box [.val (.int .i64 ((v : Nat) : Int))], .box [.val (.int .i64 c.N), .val (.int .i64 c.S), .val (.int .i64 c.T), .slc 0 0 c.First.length none, .slc 1 0 c.Head.length none, .slc 2 0 c.Rev.length none, .slc 3 0 c.Cap.length none, .slc 4 0 c.Arc.length none, .slc 5 0 c.Back.length none], .box [.val (.int .i64 ((v : Nat) : Int))], .gen [.ptr 9 0 0, .ptr 10 0 0, .val (.slice none 0 0), .val (.slice none 0 0), .ptr 11 0 0, .ptr 13 0 0, .val (.int .i64 c.N), .val (.int .i64 ((v : Nat) : Int)), .val (.bool (decide (((v : Nat) : Int) < c.N))), .val (.int .i64 ((v : Nat) : Int)), .agg [.val (.int .i64 c.N), .val (.int .i64 c.S), .val (.int .i64 c.T), .slc 0 0 c.First.length none, .slc 1 0 c.Head.length none, .slc 2 0 c.Rev.length none, .slc 3 0 c.Cap.length none, .slc 4 0 c.Arc.length none, .slc 5 0 c.Back.length none], .val (.int .i64 ((v : Nat) : Int)), .func 67 [] [.ptr 14 0 0, .ptr 15 0 0]] (q1 .ready none)]) rfl rfl rfl rfl (fun _ => rfl) ⟨⟨_, rfl, rfl⟩, ⟨_, rfl, rfl⟩, ⟨_, rfl, rfl⟩, ⟨_, rfl, rfl⟩, ⟨_, rfl, rfl⟩, ⟨_, rfl, rfl⟩, ⟨_, rfl, rfl⟩, ⟨_, rfl, rfl⟩, ⟨_, rfl, rfl⟩, ⟨_, rfl, rfl⟩, ⟨_, rfl, rfl⟩, ⟨_, rfl, rfl⟩, ⟨_, rfl, rfl⟩, trivial⟩ (fun q1 hq1 => ?_)
  refine tri_of_w (fn := Try.f67) Try.func67 rfl (by simp [Try.f67]) ?_
  intro ρr1 wr1 hρ1
  refine w_seq ?_
  refine w_region ?_
  refine rw_t 5 rfl rfl rfl (do_fieldaddr rfl ?_)
  refine rw_t 6 rfl rfl rfl (do_load_box rfl rfl rfl ?_)
  refine rw_t 7 rfl rfl rfl (do_load_box rfl rfl rfl ?_)
  refine rw_t 8 rfl rfl rfl (do_ix0 rfl rfl rfl (by first | omega | (simp only [ls] <;> omega)) ?_)
  refine rw_t 9 rfl rfl rfl (do_load_arr rfl rfl (by first | omega | (simp only [ls] <;> omega)) rfl ?_)
  refine rw_t 4 rfl rfl rfl (do_assign rfl ?_)
  refine rw_nil ?_
  refine w_block ?_
  refine w_loopS (ι := Nat) (fun i => [(0, .yield 16), (1, .ptr 14 0 0), (2, .ptr 15 0 0), (4, .val (.int .i64 (c.First.getD ((v : Nat) : Int).toNat 0 + (i : Int))))]) (fun i => [SO.ints false .i64 c.First, SO.ints false .i64 c.Head, SO.ints false .i64 c.Rev, SO.ints false .i64 c.Cap, SO.ints false .i64 c.Arc, SO.bools false c.Back, SO.ints false .i64 p.Res, SO.ints false .i64 p.Ex, SO.ints false .i64 p.H, .box [.val (.int .i64 c.N), .val (.int .i64 c.S), .val (.int .i64 c.T), .slc 0 0 c.First.length none, .slc 1 0 c.Head.length none, .slc 2 0 c.Rev.length none, .slc 3 0 c.Cap.length none, .slc 4 0 c.Arc.length none, .slc 5 0 c.Back.length none], .box [.slc 6 0 p.Res.length none, .slc 7 0 p.Ex.length none, .slc 8 0 p.H.length none], .box [.slc 17 0 ((selK (pusQ c p) ((c.First.getD v 0).toNat + i)).length) none], .dead, .box [.val (.int .i64 ((v : Nat) : Int))], .box [.val (.int .i64 c.N), .val (.int .i64 c.S), .val (.int .i64 c.T), .slc 0 0 c.First.length none, .slc 1 0 c.Head.length none, .slc 2 0 c.Rev.length none, .slc 3 0 c.Cap.length none, .slc 4 0 c.Arc.length none, .slc 5 0 c.Back.length none], .box [.val (.int .i64 ((v : Nat) : Int))], .gen [.ptr 9 0 0, .ptr 10 0 0, .val (.slice none 0 0), .val (.slice none 0 0), .ptr 11 0 0, .ptr 13 0 0, .val (.int .i64 c.N), .val (.int .i64 ((v : Nat) : Int)), .val (.bool (decide (((v : Nat) : Int) < c.N))), .val (.int .i64 ((v : Nat) : Int)), .agg [.val (.int .i64 c.N), .val (.int .i64 c.S), .val (.int .i64 c.T), .slc 0 0 c.First.length none, .slc 1 0 c.Head.length none, .slc 2 0 c.Rev.length none, .slc 3 0 c.Cap.length none, .slc 4 0 c.Arc.length none, .slc 5 0 c.Back.length none], .val (.int .i64 ((v : Nat) : Int)), .func 67 [] [.ptr 14 0 0, .ptr 15 0 0]] (q1 .ready none), SO.ints true .i64 (selK (pusQ c p) ((c.First.getD v 0).toNat + i))]) (fun i => (c.First.getD (v + 1) 0 - c.First.getD v 0).toNat - i) (fun i => i ≤ (c.First.getD (v + 1) 0 - c.First.getD v 0).toNat) (0) [0, 1, 2, 3, 4, 5, 6, 7, 8, 9, 10, 11, 12, 13, 14, 15, 16, 12] (by simp) ⟨shR rfl, shR rfl, shR rfl, shR rfl, shR rfl, shR rfl, shR rfl, shR rfl, shR rfl, shR rfl, shR rfl, shR rfl, .inl rfl, shR rfl, shR rfl, shR rfl, shR rfl, shR rfl, trivial⟩ rfl (pre_ok rfl) hρ1 ⟨⟨_, rfl, rfl⟩, ⟨_, rfl, rfl⟩, ⟨_, rfl, rfl⟩, ⟨_, rfl, Eq.symm (val_congr (by simp))⟩, trivial⟩ ?_
  intro i hi
  refine w_seq ?_
  refine w_seq ?_
  refine w_region ?_
  refine rw_t 10 rfl rfl rfl (do_move rfl ?_)
  refine rw_t 11 rfl rfl rfl (do_fieldaddr rfl ?_)
  refine rw_t 12 rfl rfl rfl (do_load_box rfl rfl rfl ?_)
  refine rw_t 13 rfl rfl rfl (do_load_box rfl rfl rfl ?_)
  refine rw_t 14 rfl rfl rfl (do_add rfl rfl (by omega) ?_)
  refine rw_t 15 rfl rfl rfl (do_ix0 rfl rfl rfl (by first | omega | (simp only [ls] <;> omega)) ?_)
  refine rw_t 16 rfl rfl rfl (do_load_arr rfl rfl (by first | omega | (simp only [ls] <;> omega)) rfl ?_)
  refine rw_t 17 rfl rfl rfl (do_bin rfl rfl rfl ?_)
  refine rw_nil ?_
  refine w_cond rfl (fun hc2 => ?_) (fun hc2 => ?_)
  all_goals try simp only [bs] at hc2
  rotate_left
  · refine w_exit ?_
    refine ret_iter (.inr rfl) rfl (Y := [SO.ints false .i64 c.First, SO.ints false .i64 c.Head, SO.ints false .i64 c.Rev, SO.ints false .i64 c.Cap, SO.ints false .i64 c.Arc, SO.bools false c.Back, SO.ints false .i64 p.Res, SO.ints false .i64 p.Ex, SO.ints false .i64 p.H, .box [.val (.int .i64 c.N), .val (.int .i64 c.S), .val (.int .i64 c.T), .slc 0 0 c.First.length none, .slc 1 0 c.Head.length none, .slc 2 0 c.Rev.length none, .slc 3 0 c.Cap.length none, .slc 4 0 c.Arc.length none, .slc 5 0 c.Back.length none], .box [.slc 6 0 p.Res.length none, .slc 7 0 p.Ex.length none, .slc 8 0 p.H.length none], .box [.slc 17 0 ((selK (pusQ c p) ((c.First.getD v 0).toNat + i)).length) none], .dead, .box [.val (.int .i64 ((v : Nat) : Int))], .box [.val (.int .i64 c.N), .val (.int .i64 c.S), .val (.int .i64 c.T), .slc 0 0 c.First.length none, .slc 1 0 c.Head.length none, .slc 2 0 c.Rev.length none, .slc 3 0 c.Cap.length none, .slc 4 0 c.Arc.length none, .slc 5 0 c.Back.length none], .box [.val (.int .i64 ((v : Nat) : Int))], .gen [.ptr 9 0 0, .ptr 10 0 0, .val (.slice none 0 0), .val (.slice none 0 0), .ptr 11 0 0, .ptr 13 0 0, .val (.int .i64 c.N), .val (.int .i64 ((v : Nat) : Int)), .val (.bool (decide (((v : Nat) : Int) < c.N))), .val (.int .i64 ((v : Nat) : Int)), .agg [.val (.int .i64 c.N), .val (.int .i64 c.S), .val (.int .i64 c.T), .slc 0 0 c.First.length none, .slc 1 0 c.Head.length none, .slc 2 0 c.Rev.length none, .slc 3 0 c.Cap.length none, .slc 4 0 c.Arc.length none, .slc 5 0 c.Back.length none], .val (.int .i64 ((v : Nat) : Int)), .func 67 [] [.ptr 14 0 0, .ptr 15 0 0]] (q1 .ready none), SO.ints true .i64 (selK (pusQ c p) ((c.First.getD v 0).toNat + i))]) [0, 1, 2, 3, 4, 5, 6, 7, 8, 9, 10, 11, 12, 13, 14, 15, 16, 17] ⟨shR rfl, shR rfl, shR rfl, shR rfl, shR rfl, shR rfl, shR rfl, shR rfl, shR rfl, shR rfl, shR rfl, shR rfl, .inl rfl, shR rfl, shR rfl, shR rfl, shR rfl, shR rfl, trivial⟩ rfl (pre_ok rfl) ?_
    refine iter_none rfl ?_
    refine w_region ?_
    refine rw_t 33 rfl rfl rfl (do_add rfl rfl (by omega) ?_)
    refine rw_t 11 rfl rfl rfl (do_move rfl ?_)
    refine rw_nil ?_
    rw [hv1, hv2] at hc2
    have hend : (c.First.getD v 0).toNat + i = (c.First.getD (v + 1) 0).toNat := by omega
    refine ⟨v + 1, [0, 1, 2, 3, 4, 5, 6, 7, 8, 9, 10, 11, 17], by dsimp only; omega, by omega, ⟨shR rfl, shR rfl, shR rfl, shR rfl, shR rfl, shR rfl, shR rfl, shR rfl, shR rfl, shR rfl, shR rfl, .inr ⟨_, rfl, .inl (box_congr (cons_congr (congrArg (fun n => SV.slc 17 0 n none) (by rw [hend])) ((rfl : ([] : List SV) = []))))⟩, .inr ⟨_, rfl, .inl (congrArg (SO.ints true .i64) (by rw [hend]))⟩, trivial⟩, rfl, pre_ok rfl, ⟨⟨_, rfl, rfl⟩, ⟨_, rfl, rfl⟩, ⟨_, rfl, rfl⟩, ⟨_, rfl, rfl⟩, ⟨_, rfl, rfl⟩, ⟨_, rfl, rfl⟩, ⟨_, rfl, rfl⟩, trivial⟩⟩
  refine w_skip ?_
  refine w_seq ?_
  refine w_block ?_
  refine w_seq ?_
  refine w_region ?_
  refine rw_t 20 rfl rfl rfl (do_move rfl ?_)
  refine rw_t 21 rfl rfl rfl (do_move rfl ?_)
  refine rw_t 22 rfl rfl rfl (do_yieldQ [(17, .val (.int .i64 (c.First.getD ((v : Nat) : Int).toNat 0 + (i : Int)))), (2, .ptr 9 0 0), (3, .ptr 10 0 0), (4, .val (.slice none 0 0)), (5, .val (.slice none 0 0)), (6, .ptr 11 0 0), (7, .ptr 13 0 0), (10, .val (.int .i64 c.N)), (11, .val (.int .i64 ((v : Nat) : Int))), (12, .val (.bool (decide (((v : Nat) : Int) < c.N)))), (13, .val (.int .i64 ((v : Nat) : Int))), (14, .agg [.val (.int .i64 c.N), .val (.int .i64 c.S), .val (.int .i64 c.T), .slc 0 0 c.First.length none, .slc 1 0 c.Head.length none, .slc 2 0 c.Rev.length none, .slc 3 0 c.Cap.length none, .slc 4 0 c.Arc.length none, .slc 5 0 c.Back.length none]), (15, .val (.int .i64 ((v : Nat) : Int))), (16, .func 67 [] [.ptr 14 0 0, .ptr 15 0 0])] hq1 rfl rfl rfl rfl rfl rfl (fun ρr2 wr2 lr2 hρ2 => ?_))
  refine w_region ?_
  refine rw_t 8 rfl rfl rfl (do_assign rfl ?_)
  refine rw_nil ?_
  refine asg_done rfl ?_
  refine w_block ?_
  rw [hv1, hv2] at hc2
  have ht7 := tail_of_arc h (u := ((v : Nat) : Int)) (a := c.First.getD ((v : Nat) : Int).toNat 0 + (i : Int)) hu (by omega) (by rw [hv1]; omega)
  have hk7 : (((c.First.getD v 0).toNat + i : Nat) : Int) = c.First.getD ((v : Nat) : Int).toNat 0 + (i : Int) := by rw [hv1]; omega
  have hsi := selK_len (pusQ c p) ((c.First.getD v 0).toNat + i)
  refine w_seqB 28 ((activeP c p ((v : Nat) : Int) ∧ admP c p ((v : Nat) : Int) (c.First.getD ((v : Nat) : Int).toNat 0 + (i : Int)))) ?_ ?_
  · -- region 7
    refine w_region ?_
    refine rw_t 18 rfl rfl rfl (n_load_boxagg [_, _, _, _, _, _, _, _, _] rfl rfl (Nat.le_of_ble_eq_true rfl) rfl ?_)
    refine rw_t 19 rfl rfl rfl (n_load_boxagg [_, _, _] rfl rfl (Nat.le_of_ble_eq_true rfl) rfl ?_)
    refine rw_t 20 rfl rfl rfl (do_load_box rfl rfl rfl ?_)
    refine rw_t 21 rfl rfl rfl (do_callR (X' := .val (.bool (decide (activeP c p ((v : Nat) : Int))))) rfl rfl (t_active (c := c) (p := p) (u := ((v : Nat) : Int)) (h) (hp) (hu)) [0, 1, 2, 3, 4, 5, 6, 7, 8] ⟨.inr ⟨_, rfl, srv⟩, .inr ⟨_, rfl, srv⟩, .inr ⟨_, rfl, srv⟩, .inr ⟨_, rfl, srv⟩, .inr ⟨_, rfl, srv⟩, .inr ⟨_, rfl, srv⟩, .inr ⟨_, rfl, srv⟩, .inr ⟨_, rfl, srv⟩, .inr ⟨_, rfl, srv⟩, trivial⟩ rfl rfl rfl ?_)
    refine rw_t 22 rfl rfl rfl (do_move rfl ?_)
    refine rw_case 22 rfl (fun g1 => ?_) (fun g1 => ?_)
    · have kg1 := g1
      try simp only [bs] at kg1
      refine rw_gt 23 4 22 true rfl rfl rfl rfl rfl rfl g1 (n_load_boxagg [_, _, _, _, _, _, _, _, _] rfl rfl (Nat.le_of_ble_eq_true rfl) rfl ?_)
      refine rw_gt 24 4 22 true rfl rfl rfl rfl rfl rfl g1 (n_load_boxagg [_, _, _] rfl rfl (Nat.le_of_ble_eq_true rfl) rfl ?_)
      refine rw_gt 25 4 22 true rfl rfl rfl rfl rfl rfl g1 (do_load_box rfl rfl rfl ?_)
      refine rw_gt 26 4 22 true rfl rfl rfl rfl rfl rfl g1 (do_move rfl ?_)
      refine rw_gt 27 4 22 true rfl rfl rfl rfl rfl rfl g1 (do_callR (X' := .val (.bool (decide (admP c p ((v : Nat) : Int) (c.First.getD ((v : Nat) : Int).toNat 0 + (i : Int)))))) rfl rfl (t_adm (c := c) (p := p) (u := ((v : Nat) : Int)) (a := (c.First.getD ((v : Nat) : Int).toNat 0 + (i : Int))) (h) (hp) (hu) (⟨ht7.1, ht7.2.1⟩)) [0, 1, 2, 3, 4, 5, 6, 7, 8] ⟨.inr ⟨_, rfl, srv⟩, .inr ⟨_, rfl, srv⟩, .inr ⟨_, rfl, srv⟩, .inr ⟨_, rfl, srv⟩, .inr ⟨_, rfl, srv⟩, .inr ⟨_, rfl, srv⟩, .inr ⟨_, rfl, srv⟩, .inr ⟨_, rfl, srv⟩, .inr ⟨_, rfl, srv⟩, trivial⟩ rfl rfl rfl ?_)
      refine rw_t 28 rfl rfl rfl (do_pick_t rfl g1 rfl ?_)
      refine rw_nil ?_
      refine ⟨rfl, ⟨_, rfl, by first | (simp; done) | (simp only [bs]; omega) | (simp [*]; done) | (simp; omega) | (constructor <;> intro h <;> simp_all <;> omega)⟩, ?_⟩
      repeat (refine ⟨⟨_, rfl, rfl⟩, ?_⟩)
      exact trivial
    · have kg1 := g1
      try simp only [bs] at kg1
      refine rw_gf 23 4 22 true rfl rfl rfl rfl rfl rfl (by rw [g1]; decide) ?_
      refine rw_gf 24 4 22 true rfl rfl rfl rfl rfl rfl (by rw [g1]; decide) ?_
      refine rw_gf 25 4 22 true rfl rfl rfl rfl rfl rfl (by rw [g1]; decide) ?_
      refine rw_gf 26 4 22 true rfl rfl rfl rfl rfl rfl (by rw [g1]; decide) ?_
      refine rw_gf 27 4 22 true rfl rfl rfl rfl rfl rfl (by rw [g1]; decide) ?_
      refine rw_t 28 rfl rfl rfl (do_pick_f rfl g1 rfl ?_)
      refine rw_nil ?_
      refine ⟨rfl, ⟨_, rfl, by first | (simp; done) | (simp only [bs]; omega) | (simp [*]; done) | (simp; omega) | (constructor <;> intro h <;> simp_all <;> omega)⟩, ?_⟩
      repeat (refine ⟨⟨_, rfl, rfl⟩, ?_⟩)
      exact trivial
  intro b1 hb1
  refine w_condP hb1 rfl (fun hc3 => ?_) (fun hc3 => ?_)
  · -- region 8
    refine w_region ?_
    refine rw_t 29 rfl rfl rfl (do_load_box rfl rfl rfl ?_)
    refine rw_t 30 rfl rfl rfl (do_move rfl ?_)
    refine rw_t 31 rfl rfl rfl (n_bs (nm := 18) Int (encI .i64) 0 [(c.First.getD ((v : Nat) : Int).toNat 0 + (i : Int))] rfl rfl rfl rfl rfl (fun _ => rfl) (fun _ _ h => by simp [encI] at h; subst h; rfl) rfl ?_)
    refine rw_t 32 rfl rfl rfl (n_app_own (nm := 19) rfl rfl rfl rfl rfl (by first | omega | (simp only [ls] <;> omega)) (by first | omega | (simp only [ls] <;> omega)) (by omega) (by omega) rfl ?_)
    refine rw_u rfl rfl (n_store_box (f := 0) rfl rfl rfl (Nat.le_of_ble_eq_true rfl) rfl ?_)
    refine rw_nil ?_
    repeat (with_reducible first | refine bl_n ?_ | refine bl_r ?_ | refine nx_r ?_ | refine nx_e ?_ | refine bl_e rfl ?_)
    refine round_normal rfl ?_
    refine rw_t 23 rfl rfl rfl (do_not rfl ?_)
    refine rw_nil ?_
    refine w_cond rfl (fun hc4 => ?_) (fun hc4 => ?_)
    · exfalso; first | (cases hc4; done) | exact (hc4 trivial) | (try simp only [bs] at hc4; first | omega | (simp_all; done) | (simp_all; omega))
    refine w_skip ?_
    refine w_region ?_
    refine rw_t 18 rfl rfl rfl (do_move rfl ?_)
    refine rw_t 19 rfl rfl rfl (do_add rfl rfl (by omega) ?_)
    refine rw_t 4 rfl rfl rfl (do_assign rfl ?_)
    refine rw_nil ?_
    have hq : pusQ c p (((c.First.getD v 0).toNat + i : Nat) : Int) = true := decide_eq_true (by rw [hk7]; exact ⟨by rw [ht7.2.2]; exact hc3.1, by rw [ht7.2.2]; exact hc3.2⟩)
    refine ⟨i + 1, [0, 1, 2, 3, 4, 5, 6, 7, 8, 9, 10, 11, 12, 13, 14, 15, 16, 19], by dsimp only; omega, by omega, ⟨shR rfl, shR rfl, shR rfl, shR rfl, shR rfl, shR rfl, shR rfl, shR rfl, shR rfl, shR rfl, shR rfl, .inr ⟨_, rfl, .inl (box_congr (cons_congr (congrArg (fun n => SV.slc 19 0 n none) (by rw [selK_push hq hk7.symm, List.length_append]; rfl)) ((rfl : ([] : List SV) = []))))⟩, .inl rfl, shR rfl, shR rfl, shR rfl, shR rfl, .inr ⟨_, rfl, .inl (congrArg (SO.ints true .i64) (selK_push hq hk7.symm))⟩, trivial⟩, rfl, pre_ok rfl, ⟨⟨_, rfl, rfl⟩, ⟨_, rfl, rfl⟩, ⟨_, rfl, rfl⟩, ⟨_, rfl, Eq.symm (val_congr (by omega))⟩, trivial⟩⟩
  · refine w_skip ?_
    repeat (with_reducible first | refine bl_n ?_ | refine bl_r ?_ | refine nx_r ?_ | refine nx_e ?_ | refine bl_e rfl ?_)
    refine round_normal rfl ?_
    refine rw_t 23 rfl rfl rfl (do_not rfl ?_)
    refine rw_nil ?_
    refine w_cond rfl (fun hc5 => ?_) (fun hc5 => ?_)
    · exfalso; first | (cases hc5; done) | exact (hc5 trivial) | (try simp only [bs] at hc5; first | omega | (simp_all; done) | (simp_all; omega))
    refine w_skip ?_
    refine w_region ?_
    refine rw_t 18 rfl rfl rfl (do_move rfl ?_)
    refine rw_t 19 rfl rfl rfl (do_add rfl rfl (by omega) ?_)
    refine rw_t 4 rfl rfl rfl (do_assign rfl ?_)
    refine rw_nil ?_
    have hq : ¬ pusQ c p (((c.First.getD v 0).toNat + i : Nat) : Int) = true := fun q => hc3 (by have q' := of_decide_eq_true q; rw [hk7] at q'; obtain ⟨q1, q2⟩ := q'; rw [ht7.2.2] at q1 q2; exact ⟨q1, q2⟩)
    refine ⟨i + 1, [0, 1, 2, 3, 4, 5, 6, 7, 8, 9, 10, 11, 12, 13, 14, 15, 16, 17], by dsimp only; omega, by omega, ⟨shR rfl, shR rfl, shR rfl, shR rfl, shR rfl, shR rfl, shR rfl, shR rfl, shR rfl, shR rfl, shR rfl, .inr ⟨_, rfl, .inl (box_congr (cons_congr (congrArg (fun n => SV.slc 17 0 n none) (by rw [selK_skip hq])) ((rfl : ([] : List SV) = []))))⟩, .inl rfl, shR rfl, shR rfl, shR rfl, shR rfl, .inr ⟨_, rfl, .inl (congrArg (SO.ints true .i64) (selK_skip hq))⟩, trivial⟩, rfl, pre_ok rfl, ⟨⟨_, rfl, rfl⟩, ⟨_, rfl, rfl⟩, ⟨_, rfl, rfl⟩, ⟨_, rfl, Eq.symm (val_congr (by omega))⟩, trivial⟩⟩
end Go.Proofs.P7

set_option linter.unusedVariables false
set_option linter.unusedSimpArgs false
namespace Go.Proofs.P7
open Go Go.Sx Go.RowKit
theorem G_tail {c : Csr} (h : CsrG c) {a : Int} (ha : 0 ≤ a ∧ a < c.Head.length) : tailOf c a = c.Head.getD (c.Rev.getD a.toNat 0).toNat 0 := by
  have := h.rtl a.toNat (by omega)
  rwa [show ((a.toNat : Nat) : Int) = a by omega] at this
end Go.Proofs.P7

set_option linter.unusedVariables false
set_option linter.unusedSimpArgs false
namespace Go.Proofs.P7
open Go Go.Sx Go.RowKit
end Go.Proofs.P7

set_option linter.unusedVariables false
set_option linter.unusedSimpArgs false
namespace Go.Proofs.P7
open Go Go.Sx Go.RowKit
end Go.Proofs.P7

set_option linter.unusedVariables false
set_option linter.unusedSimpArgs false
namespace Go.Proofs.P7
open Go Go.Sx Go.RowKit
def sameP (a b : Pre) : Prop := a.Res = b.Res ∧ a.Ex = b.Ex ∧ a.H = b.H
instance (a b : Pre) : Decidable (sameP a b) := by unfold sameP; infer_instance
def cntS (c : Csr) (i : Nat) : Nat := min (i - (c.First.getD c.S.toNat 0).toNat) (manyOf c c.S)
end Go.Proofs.P7

set_option linter.unusedVariables false
set_option linter.unusedSimpArgs false
namespace Go.Proofs.P7
open Go Go.Sx Go.RowKit
def idxI (q : Int → Bool) (xs : List Int) : Int := match (List.range xs.length).find? (fun i => q (xs.getD i 0)) with
  | some i => (i : Int)
  | none => -1
theorem idx_at {q : Int → Bool} {xs : List Int} {i : Nat} (hi : i < xs.length) (h : q (xs.getD i 0) = true) (hno : ∀ k, k < i → q (xs.getD k 0) = false) : idxI q xs = i := by
  unfold idxI
  have : (List.range xs.length).find? (fun i => q (xs.getD i 0)) = some i := by
    rw [List.find?_range_eq_some]
    exact ⟨h, by simpa using hi, fun j hj => by rw [hno j hj]; rfl⟩
  rw [this]
theorem idx_none {q : Int → Bool} {xs : List Int} (hno : ∀ k, k < xs.length → q (xs.getD k 0) = false) : idxI q xs = -1 := by
  unfold idxI
  have : (List.range xs.length).find? (fun i => q (xs.getD i 0)) = none := by
    rw [List.find?_range_eq_none]
    exact fun i hi => by rw [hno i hi]; rfl
  rw [this]
theorem idx_neg {q : Int → Bool} {xs : List Int} : ¬ (idxI q xs ≥ 0) ↔ ∀ k, k < xs.length → q (xs.getD k 0) = false := by
  constructor
  · intro hn k hk
    cases hf : (List.range xs.length).find? (fun i => q (xs.getD i 0)) with
    | some i => exact (hn (by unfold idxI; rw [hf]; exact Int.natCast_nonneg i)).elim
    | none =>
      rw [List.find?_range_eq_none] at hf
      have := hf k hk
      simpa using this
  · intro hno
    rw [idx_none hno]; decide
def heiQ (N x : Int) : Bool := decide (x < 0 ∨ x ≥ 2 * N)
def geQ (m x : Int) : Bool := decide (x ≥ m)
/-- P7.1: heights that may be. -/
def heiP (c : Csr) (hh : List Int) : Prop := ((((hh.length : Nat) : Int) = c.N ∧ hh.getD c.S.toNat 0 = c.N) ∧ hh.getD c.T.toNat 0 = 0) ∧ ∀ v : Nat, v < hh.length → 0 ≤ hh.getD v 0 ∧ hh.getD v 0 < 2 * c.N
instance (c : Csr) (hh : List Int) : Decidable (heiP c hh) := by unfold heiP; infer_instance
theorem idx_hei {N : Int} {hh : List Int} : ¬ (idxI (heiQ N) hh ≥ 0) ↔ ∀ v : Nat, v < hh.length → 0 ≤ hh.getD v 0 ∧ hh.getD v 0 < 2 * N := by
  rw [idx_neg]
  refine forall_congr' fun k => forall_congr' fun hk => ?_
  rw [heiQ, decide_eq_false_iff_not]
  omega
theorem idx_ge {m : Int} {xs : List Int} : ¬ (idxI (geQ m) xs ≥ 0) ↔ ∀ v : Nat, v < xs.length → xs.getD v 0 < m := by
  rw [idx_neg]
  refine forall_congr' fun k => forall_congr' fun hk => ?_
  rw [geQ, decide_eq_false_iff_not]
  omega
/-- One of an arc and its reverse has no capacity. -/
def CapOne (c : Csr) : Prop := ∀ a : Nat, a < c.Head.length → c.Cap.getD a 0 = 0 ∨ c.Cap.getD (c.Rev.getD a 0).toNat 0 = 0
def flowL (c : Csr) (f : List Int) (m : Int) : Nat → List Int
  | 0 => List.replicate m.toNat 0
  | k + 1 => if c.Back.getD k false = true then (flowL c f m k).set (c.Arc.getD k 0).toNat (f.getD k 0) else flowL c f m k
def flowR (c : Csr) (f : List Int) (m : Int) : List Int × Int :=
  if f.length = c.Head.length then (if pairsP c f then (flowL c f m c.Head.length, 0) else ([], 20)) else ([], 2)
theorem flowL_len (c : Csr) (f : List Int) (m : Int) : ∀ k, (flowL c f m k).length = m.toNat
  | 0 => by simp [flowL]
  | k + 1 => by
    unfold flowL
    split
    · rw [List.length_set]; exact flowL_len c f m k
    · exact flowL_len c f m k
set_option maxHeartbeats 8000000 in
set_option synthInstance.maxHeartbeats 400000 in
set_option synthInstance.maxSize 2000 in
theorem t_hwrong (c : Csr) (h : CsrT c) (x : Int) : Tri Try.prog 69 [.val (.int .i64 x), .ptr 6 0 0] [SO.ints false .i64 c.First, SO.ints false .i64 c.Head, SO.ints false .i64 c.Rev, SO.ints false .i64 c.Cap, SO.ints false .i64 c.Arc, SO.bools false c.Back, .box [.val (.int .i64 c.N), .val (.int .i64 c.S), .val (.int .i64 c.T), .slc 0 0 c.First.length none, .slc 1 0 c.Head.length none, .slc 2 0 c.Rev.length none, .slc 3 0 c.Cap.length none, .slc 4 0 c.Arc.length none, .slc 5 0 c.Back.length none]] (fun s H => s = .val (.bool (decide (x < 0 ∨ x ≥ 2 * c.N))) ∧ H = [SO.ints false .i64 c.First, SO.ints false .i64 c.Head, SO.ints false .i64 c.Rev, SO.ints false .i64 c.Cap, SO.ints false .i64 c.Arc, SO.bools false c.Back, .box [.val (.int .i64 c.N), .val (.int .i64 c.S), .val (.int .i64 c.T), .slc 0 0 c.First.length none, .slc 1 0 c.Head.length none, .slc 2 0 c.Rev.length none, .slc 3 0 c.Cap.length none, .slc 4 0 c.Arc.length none, .slc 5 0 c.Back.length none]]) := by
  refine tri_of_w (fn := Try.f69) Try.func69 rfl (by simp [Try.f69]) ?_
  intro ρ w hρ
  refine w_seq ?_
  have hn := h.n
  refine w_region ?_
  refine rw_t 3 rfl rfl rfl (do_assign rfl ?_)
  refine rw_nil ?_
  refine w_env [(0, .val (.int .i64 x)), (1, .ptr 6 0 0)] ⟨⟨_, rfl, rfl⟩, ⟨_, rfl, rfl⟩, trivial⟩ ?_
  refine w_seqB 3 ((x < 0 ∨ x ≥ (2 * c.N))) ?_ ?_
  · -- region 1
    refine w_region ?_
    refine rw_t 4 rfl rfl rfl (do_move rfl ?_)
    refine rw_t 5 rfl rfl rfl (do_bin rfl rfl rfl ?_)
    refine rw_t 6 rfl rfl rfl (do_move rfl ?_)
    refine rw_case 6 rfl (fun g1 => ?_) (fun g1 => ?_)
    · have kg1 := g1
      try simp only [bs] at kg1
      refine rw_gf 7 2 6 false rfl rfl rfl rfl rfl rfl (by rw [g1]; decide) ?_
      refine rw_gf 8 2 6 false rfl rfl rfl rfl rfl rfl (by rw [g1]; decide) ?_
      refine rw_gf 9 2 6 false rfl rfl rfl rfl rfl rfl (by rw [g1]; decide) ?_
      refine rw_gf 10 2 6 false rfl rfl rfl rfl rfl rfl (by rw [g1]; decide) ?_
      refine rw_gf 11 2 6 false rfl rfl rfl rfl rfl rfl (by rw [g1]; decide) ?_
      refine rw_t 12 rfl rfl rfl (do_pick_t rfl g1 rfl ?_)
      refine rw_t 3 rfl rfl rfl (do_assign rfl ?_)
      refine rw_nil ?_
      refine ⟨rfl, ⟨_, rfl, by first | (simp; done) | (simp only [bs]; omega) | (simp [*]; done) | (simp; omega) | (constructor <;> intro h <;> simp_all <;> omega)⟩, ?_⟩
      repeat (refine ⟨⟨_, rfl, rfl⟩, ?_⟩)
      exact trivial
    · have kg1 := g1
      try simp only [bs] at kg1
      refine rw_gt 7 2 6 false rfl rfl rfl rfl rfl rfl g1 (do_move rfl ?_)
      refine rw_gt 8 2 6 false rfl rfl rfl rfl rfl rfl g1 (do_fieldaddr rfl ?_)
      refine rw_gt 9 2 6 false rfl rfl rfl rfl rfl rfl g1 (do_load_box rfl rfl rfl ?_)
      refine rw_gt 10 2 6 false rfl rfl rfl rfl rfl rfl g1 (do_mul rfl rfl (by omega) ?_)
      refine rw_gt 11 2 6 false rfl rfl rfl rfl rfl rfl g1 (do_bin rfl rfl rfl ?_)
      refine rw_t 12 rfl rfl rfl (do_pick_f rfl g1 rfl ?_)
      refine rw_t 3 rfl rfl rfl (do_assign rfl ?_)
      refine rw_nil ?_
      refine ⟨rfl, ⟨_, rfl, by first | (simp; done) | (simp only [bs]; omega) | (simp [*]; done) | (simp; omega) | (constructor <;> intro h <;> simp_all <;> omega)⟩, ?_⟩
      repeat (refine ⟨⟨_, rfl, rfl⟩, ?_⟩)
      exact trivial
  intro b1 hb1
  refine w_ret ?_
  exact ret_eq (.inl rfl) (.cons (res_tmp rfl) .nil) [0, 1, 2, 3, 4, 5, 6] (Eq.symm (bool_congr (dec_of hb1 Iff.rfl))) ⟨shR rfl, shR rfl, shR rfl, shR rfl, shR rfl, shR rfl, shR rfl, trivial⟩ rfl (pre_ok rfl)
set_option maxHeartbeats 8000000 in
set_option synthInstance.maxHeartbeats 400000 in
set_option synthInstance.maxSize 2000 in
theorem t_hIndex (c : Csr) (hh : List Int) (h : CsrT c) (hl : hh.length < 1073741824) : Tri Try.prog 73 [.slc 6 0 hh.length none, .func 69 [] [.ptr 7 0 0]] [SO.ints false .i64 c.First, SO.ints false .i64 c.Head, SO.ints false .i64 c.Rev, SO.ints false .i64 c.Cap, SO.ints false .i64 c.Arc, SO.bools false c.Back, SO.ints false .i64 hh, .box [.val (.int .i64 c.N), .val (.int .i64 c.S), .val (.int .i64 c.T), .slc 0 0 c.First.length none, .slc 1 0 c.Head.length none, .slc 2 0 c.Rev.length none, .slc 3 0 c.Cap.length none, .slc 4 0 c.Arc.length none, .slc 5 0 c.Back.length none]] (fun s H => s = .val (.int .i64 (idxI (heiQ c.N) hh)) ∧ H = [SO.ints false .i64 c.First, SO.ints false .i64 c.Head, SO.ints false .i64 c.Rev, SO.ints false .i64 c.Cap, SO.ints false .i64 c.Arc, SO.bools false c.Back, SO.ints false .i64 hh, .box [.val (.int .i64 c.N), .val (.int .i64 c.S), .val (.int .i64 c.T), .slc 0 0 c.First.length none, .slc 1 0 c.Head.length none, .slc 2 0 c.Rev.length none, .slc 3 0 c.Cap.length none, .slc 4 0 c.Arc.length none, .slc 5 0 c.Back.length none]]) := by
  refine tri_of_w (fn := Try.f73) Try.func73 rfl (by simp [Try.f73]) ?_
  intro ρ w hρ
  refine w_seq ?_
  have hn := h.n
  have hS := h.s
  have hT := h.t
  have hsm := h.small
  refine w_region ?_
  refine rw_t 4 rfl rfl rfl (do_assign rfl ?_)
  refine rw_nil ?_
  refine w_seq ?_
  refine w_seq ?_
  refine w_region ?_
  refine rw_t 6 rfl rfl rfl (do_move rfl ?_)
  refine rw_t 7 rfl rfl rfl (do_len rfl ?_)
  refine rw_t 8 rfl rfl rfl (do_move rfl ?_)
  refine rw_nil ?_
  refine w_block ?_
  refine w_loopS (ι := Nat) (fun i => [(0, .slc 6 0 hh.length none), (1, .func 69 [] [.ptr 7 0 0]), (7, .val (.int .i64 ((hh.length : Nat) : Int))), (8, .val (.int .i64 ((i : Nat) : Int)))]) (fun i => [SO.ints false .i64 c.First, SO.ints false .i64 c.Head, SO.ints false .i64 c.Rev, SO.ints false .i64 c.Cap, SO.ints false .i64 c.Arc, SO.bools false c.Back, SO.ints false .i64 hh, .box [.val (.int .i64 c.N), .val (.int .i64 c.S), .val (.int .i64 c.T), .slc 0 0 c.First.length none, .slc 1 0 c.Head.length none, .slc 2 0 c.Rev.length none, .slc 3 0 c.Cap.length none, .slc 4 0 c.Arc.length none, .slc 5 0 c.Back.length none]]) (fun i => hh.length - i) (fun i => i ≤ hh.length ∧ ∀ k, k < i → ¬ (hh.getD k 0 < 0 ∨ hh.getD k 0 ≥ 2 * c.N)) (0) [0, 1, 2, 3, 4, 5, 6, 7] (⟨by simp, fun k hk => by omega⟩) ⟨shR rfl, shR rfl, shR rfl, shR rfl, shR rfl, shR rfl, shR rfl, shR rfl, trivial⟩ rfl (pre_ok rfl) hρ ⟨⟨_, rfl, rfl⟩, ⟨_, rfl, rfl⟩, ⟨_, rfl, rfl⟩, ⟨_, rfl, rfl⟩, trivial⟩ ?_
  rintro i ⟨g1, g2⟩
  refine w_seq ?_
  refine w_region ?_
  refine rw_t 9 rfl rfl rfl (do_bin rfl rfl rfl ?_)
  refine rw_nil ?_
  refine w_seq ?_
  refine w_cond rfl (fun hc1 => ?_) (fun hc1 => ?_)
  all_goals try simp only [bs] at hc1
  rotate_left
  · refine w_exit ?_
    refine w_seq ?_
    refine w_region ?_
    refine rw_t 4 rfl rfl rfl (do_assign rfl ?_)
    refine rw_nil ?_
    refine w_ret ?_
    exact ret_eq (.inl rfl) (.cons (res_tmp rfl) .nil) [0, 1, 2, 3, 4, 5, 6, 7] (Eq.symm (val_congr (by rw [idx_none (fun k hk => decide_eq_false (g2 k (by omega)))]))) ⟨shR rfl, shR rfl, shR rfl, shR rfl, shR rfl, shR rfl, shR rfl, shR rfl, trivial⟩ rfl (pre_ok rfl)
  refine w_skip ?_
  refine w_seq ?_
  refine w_block ?_
  refine w_seq ?_
  refine w_region ?_
  refine rw_t 10 rfl rfl rfl (do_move rfl ?_)
  refine rw_t 5 rfl rfl rfl (do_assign rfl ?_)
  refine rw_nil ?_
  refine w_seq ?_
  refine w_region ?_
  refine rw_t 11 rfl rfl rfl (do_move rfl ?_)
  refine rw_t 12 rfl rfl rfl (do_move rfl ?_)
  refine rw_t 13 rfl rfl rfl (do_move rfl ?_)
  refine rw_t 14 rfl rfl rfl (do_ixn rfl rfl rfl (by first | omega | (simp only [ls] <;> omega)) ?_)
  refine rw_t 15 rfl rfl rfl (do_load_arr rfl rfl (by first | omega | (simp only [ls] <;> omega)) rfl ?_)
  refine rw_t 16 rfl rfl rfl (n_callW (X' := .val (.bool (decide ((hh.getD i 0) < 0 ∨ (hh.getD i 0) ≥ 2 * c.N)))) (H' := [SO.ints false .i64 c.First, SO.ints false .i64 c.Head, SO.ints false .i64 c.Rev, SO.ints false .i64 c.Cap, SO.ints false .i64 c.Arc, SO.bools false c.Back, SO.ints false .i64 hh, .box [.val (.int .i64 c.N), .val (.int .i64 c.S), .val (.int .i64 c.T), .slc 0 0 c.First.length none, .slc 1 0 c.Head.length none, .slc 2 0 c.Rev.length none, .slc 3 0 c.Cap.length none, .slc 4 0 c.Arc.length none, .slc 5 0 c.Back.length none]]) rfl rfl (t_hwrong (c := c) (x := (hh.getD i 0)) (h)) [0, 1, 2, 3, 4, 5, 7] ⟨.inr ⟨_, rfl, srv⟩, .inr ⟨_, rfl, srv⟩, .inr ⟨_, rfl, srv⟩, .inr ⟨_, rfl, srv⟩, .inr ⟨_, rfl, srv⟩, .inr ⟨_, rfl, srv⟩, shR rfl, trivial⟩ rfl rfl ⟨fun h => (by cases h), ⟨fun h => (by cases h), ⟨fun h => (by cases h), ⟨fun h => (by cases h), ⟨fun h => (by cases h), ⟨fun h => (by cases h), ⟨fun h => .inl rfl, (fun y hy => by simp at hy)⟩⟩⟩⟩⟩⟩⟩ rfl rfl ?_)
  refine rw_nil ?_
  refine w_cond rfl (fun hc2 => ?_) (fun hc2 => ?_)
  all_goals try simp only [bs] at hc2
  · refine w_seq ?_
    refine w_region ?_
    refine rw_t 17 rfl rfl rfl (do_move rfl ?_)
    refine rw_t 4 rfl rfl rfl (do_assign rfl ?_)
    refine rw_nil ?_
    refine w_ret ?_
    exact ret_eq (.inl rfl) (.cons (res_tmp rfl) .nil) [0, 1, 2, 3, 4, 5, 6, 7] (Eq.symm (val_congr (by rw [idx_at (by omega) (decide_eq_true hc2) (fun k hk => decide_eq_false (g2 k hk))]))) ⟨shR rfl, shR rfl, shR rfl, shR rfl, shR rfl, shR rfl, shR rfl, shR rfl, trivial⟩ rfl (pre_ok rfl)
  refine w_skip ?_
  refine w_region ?_
  refine rw_t 18 rfl rfl rfl (do_add rfl rfl (by omega) ?_)
  refine rw_t 8 rfl rfl rfl (do_move rfl ?_)
  refine rw_nil ?_
  refine ⟨i + 1, [0, 1, 2, 3, 4, 5, 6, 7], by dsimp only; omega, ⟨by omega, fun k hk => by rcases Nat.lt_or_ge k i with hki | hki; exact g2 k hki; have : k = i := (by omega); subst this; exact hc2⟩, ⟨shR rfl, shR rfl, shR rfl, shR rfl, shR rfl, shR rfl, shR rfl, shR rfl, trivial⟩, rfl, pre_ok rfl, ⟨⟨_, rfl, rfl⟩, ⟨_, rfl, rfl⟩, ⟨_, rfl, rfl⟩, ⟨_, rfl, rfl⟩, trivial⟩⟩
set_option maxHeartbeats 8000000 in
set_option synthInstance.maxHeartbeats 400000 in
set_option synthInstance.maxSize 2000 in
theorem t_hContains (c : Csr) (hh : List Int) (h : CsrT c) (hl : hh.length < 1073741824) : Tri Try.prog 61 [.slc 6 0 hh.length none, .func 69 [] [.ptr 7 0 0]] [SO.ints false .i64 c.First, SO.ints false .i64 c.Head, SO.ints false .i64 c.Rev, SO.ints false .i64 c.Cap, SO.ints false .i64 c.Arc, SO.bools false c.Back, SO.ints false .i64 hh, .box [.val (.int .i64 c.N), .val (.int .i64 c.S), .val (.int .i64 c.T), .slc 0 0 c.First.length none, .slc 1 0 c.Head.length none, .slc 2 0 c.Rev.length none, .slc 3 0 c.Cap.length none, .slc 4 0 c.Arc.length none, .slc 5 0 c.Back.length none]] (fun s H => s = .val (.bool (decide (idxI (heiQ c.N) hh ≥ 0))) ∧ H = [SO.ints false .i64 c.First, SO.ints false .i64 c.Head, SO.ints false .i64 c.Rev, SO.ints false .i64 c.Cap, SO.ints false .i64 c.Arc, SO.bools false c.Back, SO.ints false .i64 hh, .box [.val (.int .i64 c.N), .val (.int .i64 c.S), .val (.int .i64 c.T), .slc 0 0 c.First.length none, .slc 1 0 c.Head.length none, .slc 2 0 c.Rev.length none, .slc 3 0 c.Cap.length none, .slc 4 0 c.Arc.length none, .slc 5 0 c.Back.length none]]) := by
  refine tri_of_w (fn := Try.f61) Try.func61 rfl (by simp [Try.f61]) ?_
  intro ρ w hρ
  refine w_seq ?_
  refine w_region ?_
  refine rw_t 4 rfl rfl rfl (do_assign rfl ?_)
  refine rw_nil ?_
  refine w_seq ?_
  refine w_region ?_
  refine rw_t 5 rfl rfl rfl (do_move rfl ?_)
  refine rw_t 6 rfl rfl rfl (do_move rfl ?_)
  refine rw_t 7 rfl rfl rfl (n_callW (X' := .val (.int .i64 (idxI (heiQ c.N) hh))) (H' := [SO.ints false .i64 c.First, SO.ints false .i64 c.Head, SO.ints false .i64 c.Rev, SO.ints false .i64 c.Cap, SO.ints false .i64 c.Arc, SO.bools false c.Back, SO.ints false .i64 hh, .box [.val (.int .i64 c.N), .val (.int .i64 c.S), .val (.int .i64 c.T), .slc 0 0 c.First.length none, .slc 1 0 c.Head.length none, .slc 2 0 c.Rev.length none, .slc 3 0 c.Cap.length none, .slc 4 0 c.Arc.length none, .slc 5 0 c.Back.length none]]) rfl rfl (t_hIndex (c := c) (hh := hh) (h) (hl)) [0, 1, 2, 3, 4, 5, 6, 7] ⟨.inr ⟨_, rfl, srv⟩, .inr ⟨_, rfl, srv⟩, .inr ⟨_, rfl, srv⟩, .inr ⟨_, rfl, srv⟩, .inr ⟨_, rfl, srv⟩, .inr ⟨_, rfl, srv⟩, .inr ⟨_, rfl, srv⟩, shR rfl, trivial⟩ rfl rfl ⟨fun h => (by cases h), ⟨fun h => (by cases h), ⟨fun h => (by cases h), ⟨fun h => (by cases h), ⟨fun h => (by cases h), ⟨fun h => (by cases h), ⟨fun h => (by cases h), ⟨fun h => .inl rfl, (fun y hy => by simp at hy)⟩⟩⟩⟩⟩⟩⟩⟩ rfl rfl ?_)
  refine rw_t 8 rfl rfl rfl (do_bin rfl rfl rfl ?_)
  refine rw_t 4 rfl rfl rfl (do_assign rfl ?_)
  refine rw_nil ?_
  refine w_ret ?_
  exact ret_eq (.inl rfl) (.cons (res_tmp rfl) .nil) [0, 1, 2, 3, 4, 5, 6, 7] (rfl) ⟨shR rfl, shR rfl, shR rfl, shR rfl, shR rfl, shR rfl, shR rfl, shR rfl, trivial⟩ rfl (pre_ok rfl)
set_option maxHeartbeats 8000000 in
set_option synthInstance.maxHeartbeats 400000 in
set_option synthInstance.maxSize 2000 in
theorem t_heights (c : Csr) (hh : List Int) (h : CsrT c) : Tri Try.prog 51 [.agg [.val (.int .i64 c.N), .val (.int .i64 c.S), .val (.int .i64 c.T), .slc 0 0 c.First.length none, .slc 1 0 c.Head.length none, .slc 2 0 c.Rev.length none, .slc 3 0 c.Cap.length none, .slc 4 0 c.Arc.length none, .slc 5 0 c.Back.length none], .slc 6 0 hh.length none] [SO.ints false .i64 c.First, SO.ints false .i64 c.Head, SO.ints false .i64 c.Rev, SO.ints false .i64 c.Cap, SO.ints false .i64 c.Arc, SO.bools false c.Back, SO.ints false .i64 hh] (fun s H => s = .val (.bool (decide (heiP c hh))) ∧ H = [SO.ints false .i64 c.First, SO.ints false .i64 c.Head, SO.ints false .i64 c.Rev, SO.ints false .i64 c.Cap, SO.ints false .i64 c.Arc, SO.bools false c.Back, SO.ints false .i64 hh]) := by
  refine tri_of_w (fn := Try.f51) Try.func51 rfl (by simp [Try.f51]) ?_
  intro ρ w hρ
  refine w_seq ?_
  have hn := h.n
  have hS := h.s
  have hT := h.t
  have hsm := h.small
  refine w_region ?_
  refine rw_t 2 rfl rfl rfl (n_box_agg (n := 7) rfl rfl ?_)
  refine rw_t 4 rfl rfl rfl (do_assign rfl ?_)
  refine rw_nil ?_
  refine w_seq ?_
  refine w_seqB 27 (((((hh.length : Nat) : Int) ≠ c.N ∨ (hh.getD c.S.toNat 0) ≠ c.N) ∨ (hh.getD c.T.toNat 0) ≠ 0)) ?_ ?_
  · -- region 1
    refine w_draw mixed [0, 1, 0, 4, 15, 31, 63, 63, 191, 511, 1023, 63, 2111, 8191, 16383, 32767, 65535, 65535, 196607] [524287, 1048575, 2097151, 4194303] (by kernel_rfl) (by kernel_rfl) rfl rfl rfl (hle hρ rfl) ?_
    refine ra_q (j := 0) rfl rfl rfl rfl (do_move rfl ⟨rfl, rfl⟩) (by rfl) ?_
    refine ra_q (j := 1) rfl rfl rfl rfl (do_len rfl ⟨rfl, rfl⟩) (by rfl) ?_
    refine ra_q (j := 2) rfl rfl rfl rfl (do_fieldaddr rfl ⟨rfl, rfl⟩) (by rfl) ?_
    refine ra_q (j := 3) rfl rfl rfl rfl (do_load_box rfl rfl rfl ⟨rfl, rfl⟩) (by rfl) ?_
    refine ra_q (j := 4) rfl rfl rfl rfl (do_bin rfl rfl rfl ⟨rfl, rfl⟩) (by rfl) ?_
    refine ra_q (j := 5) rfl rfl rfl rfl (do_move rfl ⟨rfl, rfl⟩) (by rfl) ?_
    refine ra_case 10 rfl (fun g1 => ?_) (fun g1 => ?_)
    · have kg1 := g1
      try simp only [bs] at kg1
      refine ra_gf (j := 6) rfl rfl rfl rfl (by rw [g1]; decide) rfl rfl rfl ?_
      refine ra_gf (j := 7) rfl rfl rfl rfl (by rw [g1]; decide) rfl rfl rfl ?_
      refine ra_gf (j := 8) rfl rfl rfl rfl (by rw [g1]; decide) rfl rfl rfl ?_
      refine ra_gf (j := 9) rfl rfl rfl rfl (by rw [g1]; decide) rfl rfl rfl ?_
      refine ra_gf (j := 10) rfl rfl rfl rfl (by rw [g1]; decide) rfl rfl rfl ?_
      refine ra_gf (j := 11) rfl rfl rfl rfl (by rw [g1]; decide) rfl rfl rfl ?_
      refine ra_gf (j := 12) rfl rfl rfl rfl (by rw [g1]; decide) rfl rfl rfl ?_
      refine ra_gf (j := 13) rfl rfl rfl rfl (by rw [g1]; decide) rfl rfl rfl ?_
      refine ra_q (j := 14) rfl rfl rfl rfl (do_pick_t rfl g1 rfl ⟨rfl, rfl⟩) (by rfl) ?_
      refine ra_q (j := 15) rfl rfl rfl rfl (do_move rfl ⟨rfl, rfl⟩) (by rfl) ?_
      refine ra_gf (j := 16) rfl rfl rfl rfl (by decide) rfl rfl rfl ?_
      refine ra_gf (j := 17) rfl rfl rfl rfl (by decide) rfl rfl rfl ?_
      refine ra_gf (j := 18) rfl rfl rfl rfl (by decide) rfl rfl rfl ?_
      refine n_done ?_
      refine rw_gf 24 15 20 false rfl rfl rfl rfl rfl rfl (by decide) ?_
      refine rw_gf 25 15 20 false rfl rfl rfl rfl rfl rfl (by decide) ?_
      refine rw_gf 26 15 20 false rfl rfl rfl rfl rfl rfl (by decide) ?_
      refine rw_t 27 rfl rfl rfl (do_pick_t rfl rfl rfl ?_)
      refine rw_nil ?_
      refine ⟨rfl, ⟨_, rfl, by first | (simp; done) | (simp only [bs]; omega) | (simp [*]; done) | (simp; omega) | (constructor <;> intro h <;> simp_all <;> omega)⟩, ?_⟩
      repeat (refine ⟨⟨_, rfl, rfl⟩, ?_⟩)
      exact trivial
    · have kg1 := g1
      try simp only [bs] at kg1
      refine ra_gt (j := 6) rfl rfl rfl rfl g1 rfl rfl rfl (do_move rfl ⟨rfl, rfl⟩) (by rfl) ?_
      refine ra_gt (j := 7) rfl rfl rfl rfl g1 rfl rfl rfl (do_fieldaddr rfl ⟨rfl, rfl⟩) (by rfl) ?_
      refine ra_gt (j := 8) rfl rfl rfl rfl g1 rfl rfl rfl (do_load_box rfl rfl rfl ⟨rfl, rfl⟩) (by rfl) ?_
      refine ra_gt (j := 9) rfl rfl rfl rfl g1 rfl rfl rfl (do_ix0 rfl rfl rfl (by first | omega | (simp only [ls] <;> omega)) ⟨rfl, rfl⟩) (by rfl) ?_
      refine ra_gt (j := 10) rfl rfl rfl rfl g1 rfl rfl rfl (do_load_arr rfl rfl (by first | omega | (simp only [ls] <;> omega)) rfl ⟨rfl, rfl⟩) (by rfl) ?_
      refine ra_gt (j := 11) rfl rfl rfl rfl g1 rfl rfl rfl (do_fieldaddr rfl ⟨rfl, rfl⟩) (by rfl) ?_
      refine ra_gt (j := 12) rfl rfl rfl rfl g1 rfl rfl rfl (do_load_box rfl rfl rfl ⟨rfl, rfl⟩) (by rfl) ?_
      refine ra_gt (j := 13) rfl rfl rfl rfl g1 rfl rfl rfl (do_bin rfl rfl rfl ⟨rfl, rfl⟩) (by rfl) ?_
      refine ra_q (j := 14) rfl rfl rfl rfl (do_pick_f rfl g1 rfl ⟨rfl, rfl⟩) (by rfl) ?_
      refine ra_q (j := 15) rfl rfl rfl rfl (do_move rfl ⟨rfl, rfl⟩) (by rfl) ?_
      refine ra_case 20 rfl (fun g2 => ?_) (fun g2 => ?_)
      · have kg2 := g2
        try simp only [bs] at kg2
        refine ra_gf (j := 16) rfl rfl rfl rfl (by rw [g2]; decide) rfl rfl rfl ?_
        refine ra_gf (j := 17) rfl rfl rfl rfl (by rw [g2]; decide) rfl rfl rfl ?_
        refine ra_gf (j := 18) rfl rfl rfl rfl (by rw [g2]; decide) rfl rfl rfl ?_
        refine n_done ?_
        refine rw_gf 24 15 20 false rfl rfl rfl rfl rfl rfl (by rw [g2]; decide) ?_
        refine rw_gf 25 15 20 false rfl rfl rfl rfl rfl rfl (by rw [g2]; decide) ?_
        refine rw_gf 26 15 20 false rfl rfl rfl rfl rfl rfl (by rw [g2]; decide) ?_
        refine rw_t 27 rfl rfl rfl (do_pick_t rfl g2 rfl ?_)
        refine rw_nil ?_
        refine ⟨rfl, ⟨_, rfl, by first | (simp; done) | (simp only [bs]; omega) | (simp [*]; done) | (simp; omega) | (constructor <;> intro h <;> simp_all <;> omega)⟩, ?_⟩
        repeat (refine ⟨⟨_, rfl, rfl⟩, ?_⟩)
        exact trivial
      · have kg2 := g2
        try simp only [bs] at kg2
        refine ra_gt (j := 16) rfl rfl rfl rfl g2 rfl rfl rfl (do_move rfl ⟨rfl, rfl⟩) (by rfl) ?_
        refine ra_gt (j := 17) rfl rfl rfl rfl g2 rfl rfl rfl (do_fieldaddr rfl ⟨rfl, rfl⟩) (by rfl) ?_
        refine ra_gt (j := 18) rfl rfl rfl rfl g2 rfl rfl rfl (do_load_box rfl rfl rfl ⟨rfl, rfl⟩) (by rfl) ?_
        refine n_done ?_
        refine rw_gt 24 15 20 false rfl rfl rfl rfl rfl rfl g2 (do_ix0 rfl rfl rfl (by first | omega | (simp only [ls] <;> omega)) ?_)
        refine rw_gt 25 15 20 false rfl rfl rfl rfl rfl rfl g2 (do_load_arr rfl rfl (by first | omega | (simp only [ls] <;> omega)) rfl ?_)
        refine rw_gt 26 15 20 false rfl rfl rfl rfl rfl rfl g2 (do_bin rfl rfl rfl ?_)
        refine rw_t 27 rfl rfl rfl (do_pick_f rfl g2 rfl ?_)
        refine rw_nil ?_
        refine ⟨rfl, ⟨_, rfl, by first | (simp; done) | (simp only [bs]; omega) | (simp [*]; done) | (simp; omega) | (constructor <;> intro h <;> simp_all <;> omega)⟩, ?_⟩
        repeat (refine ⟨⟨_, rfl, rfl⟩, ?_⟩)
        exact trivial
  intro b1 hb1
  refine w_condP hb1 rfl (fun hc1 => ?_) (fun hc1 => ?_)
  · refine w_seq ?_
    refine w_region ?_
    refine rw_t 4 rfl rfl rfl (do_assign rfl ?_)
    refine rw_nil ?_
    refine w_ret ?_
    exact ret_eq (.inl rfl) (.cons (res_tmp rfl) .nil) [0, 1, 2, 3, 4, 5, 6] (Eq.symm (bool_congr (decide_eq_false (fun q => by obtain ⟨⟨⟨q1, q2⟩, q3⟩, q4⟩ := q; omega)))) ⟨shR rfl, shR rfl, shR rfl, shR rfl, shR rfl, shR rfl, shR rfl, trivial⟩ rfl (pre_ok rfl)
  refine w_skip ?_
  refine w_seq ?_
  refine w_region ?_
  refine rw_t 28 rfl rfl rfl (do_move rfl ?_)
  refine rw_t 29 rfl rfl rfl (do_makefunc rfl rfl ?_)
  refine rw_t 30 rfl rfl rfl (n_callW (X' := .val (.bool (decide (idxI (heiQ c.N) hh ≥ 0)))) (H' := [SO.ints false .i64 c.First, SO.ints false .i64 c.Head, SO.ints false .i64 c.Rev, SO.ints false .i64 c.Cap, SO.ints false .i64 c.Arc, SO.bools false c.Back, SO.ints false .i64 hh, .box [.val (.int .i64 c.N), .val (.int .i64 c.S), .val (.int .i64 c.T), .slc 0 0 c.First.length none, .slc 1 0 c.Head.length none, .slc 2 0 c.Rev.length none, .slc 3 0 c.Cap.length none, .slc 4 0 c.Arc.length none, .slc 5 0 c.Back.length none]]) rfl rfl (t_hContains (c := c) (hh := hh) (h) (by omega)) [0, 1, 2, 3, 4, 5, 6, 7] ⟨.inr ⟨_, rfl, srv⟩, .inr ⟨_, rfl, srv⟩, .inr ⟨_, rfl, srv⟩, .inr ⟨_, rfl, srv⟩, .inr ⟨_, rfl, srv⟩, .inr ⟨_, rfl, srv⟩, .inr ⟨_, rfl, srv⟩, shR rfl, trivial⟩ rfl rfl ⟨fun h => (by cases h), ⟨fun h => (by cases h), ⟨fun h => (by cases h), ⟨fun h => (by cases h), ⟨fun h => (by cases h), ⟨fun h => (by cases h), ⟨fun h => (by cases h), ⟨fun h => .inl rfl, (fun y hy => by simp at hy)⟩⟩⟩⟩⟩⟩⟩⟩ rfl rfl ?_)
  refine rw_t 31 rfl rfl rfl (do_not rfl ?_)
  refine rw_t 4 rfl rfl rfl (do_assign rfl ?_)
  refine rw_nil ?_
  refine w_ret ?_
  exact ret_eq (.inl rfl) (.cons (res_tmp rfl) .nil) [0, 1, 2, 3, 4, 5, 6] (Eq.symm (bool_congr (Bool.eq_iff_iff.2 (by simp only [decide_eq_true_eq, Bool.not_eq_true', decide_eq_false_iff_not]; rw [idx_hei]; exact ⟨fun q => q.2, fun q => ⟨by omega, q⟩⟩)))) ⟨shR rfl, shR rfl, shR rfl, shR rfl, shR rfl, shR rfl, shR rfl, trivial⟩ rfl (pre_ok rfl)
set_option maxHeartbeats 8000000 in
set_option synthInstance.maxHeartbeats 400000 in
set_option synthInstance.maxSize 2000 in
theorem t_Equal (a b : List Int) (hl : a.length < 1073741824) : Tri Try.prog 50 [.slc 0 0 a.length none, .slc 1 0 b.length none] [SO.ints false .i64 a, SO.ints false .i64 b] (fun s H => s = .val (.bool (decide (a = b))) ∧ H = [SO.ints false .i64 a, SO.ints false .i64 b]) := by
  refine tri_of_w (fn := Try.f50) Try.func50 rfl (by simp [Try.f50]) ?_
  intro ρ w hρ
  refine w_seq ?_
  refine w_region ?_
  refine rw_t 4 rfl rfl rfl (do_assign rfl ?_)
  refine rw_nil ?_
  refine w_seq ?_
  refine w_seq ?_
  refine w_region ?_
  refine rw_t 6 rfl rfl rfl (do_move rfl ?_)
  refine rw_t 7 rfl rfl rfl (do_len rfl ?_)
  refine rw_t 8 rfl rfl rfl (do_move rfl ?_)
  refine rw_t 9 rfl rfl rfl (do_len rfl ?_)
  refine rw_t 10 rfl rfl rfl (do_bin rfl rfl rfl ?_)
  refine rw_nil ?_
  refine w_cond rfl (fun hc1 => ?_) (fun hc1 => ?_)
  all_goals try simp only [bs] at hc1
  · refine w_seq ?_
    refine w_region ?_
    refine rw_t 4 rfl rfl rfl (do_assign rfl ?_)
    refine rw_nil ?_
    refine w_ret ?_
    exact ret_eq (.inl rfl) (.cons (res_tmp rfl) .nil) [0, 1] (Eq.symm (bool_congr (decide_eq_false (fun q => by subst q; exact hc1 rfl)))) ⟨shR rfl, shR rfl, trivial⟩ rfl (pre_ok rfl)
  refine w_skip ?_
  refine w_seq ?_
  refine w_seq ?_
  refine w_region ?_
  refine rw_t 11 rfl rfl rfl (do_move rfl ?_)
  refine rw_t 12 rfl rfl rfl (do_len rfl ?_)
  refine rw_t 13 rfl rfl rfl (do_move rfl ?_)
  refine rw_nil ?_
  refine w_block ?_
  refine w_loopS (ι := Nat) (fun i => [(0, .slc 0 0 a.length none), (1, .slc 1 0 b.length none), (12, .val (.int .i64 ((a.length : Nat) : Int))), (13, .val (.int .i64 ((i : Nat) : Int)))]) (fun i => [SO.ints false .i64 a, SO.ints false .i64 b]) (fun i => a.length - i) (fun i => i ≤ a.length ∧ a.take i = b.take i) (0) [0, 1] (⟨by simp, rfl⟩) ⟨shR rfl, shR rfl, trivial⟩ rfl (pre_ok rfl) hρ ⟨⟨_, rfl, rfl⟩, ⟨_, rfl, rfl⟩, ⟨_, rfl, rfl⟩, ⟨_, rfl, rfl⟩, trivial⟩ ?_
  rintro i ⟨g1, g2⟩
  refine w_seq ?_
  refine w_region ?_
  refine rw_t 14 rfl rfl rfl (do_bin rfl rfl rfl ?_)
  refine rw_nil ?_
  refine w_seq ?_
  refine w_cond rfl (fun hc2 => ?_) (fun hc2 => ?_)
  all_goals try simp only [bs] at hc2
  rotate_left
  · refine w_exit ?_
    refine w_seq ?_
    refine w_region ?_
    refine rw_t 4 rfl rfl rfl (do_assign rfl ?_)
    refine rw_nil ?_
    refine w_ret ?_
    exact ret_eq (.inl rfl) (.cons (res_tmp rfl) .nil) [0, 1] (Eq.symm (bool_congr (decide_eq_true (eq_of_take (by omega) (by omega) g2)))) ⟨shR rfl, shR rfl, trivial⟩ rfl (pre_ok rfl)
  refine w_skip ?_
  refine w_seq ?_
  refine w_block ?_
  refine w_seq ?_
  refine w_region ?_
  refine rw_t 15 rfl rfl rfl (do_move rfl ?_)
  refine rw_t 5 rfl rfl rfl (do_assign rfl ?_)
  refine rw_nil ?_
  refine w_seq ?_
  refine w_draw mixed [0, 0, 3, 7, 0, 0, 48, 112] [255] (by kernel_rfl) (by kernel_rfl) rfl rfl rfl (hle hρ rfl) ?_
  refine ra_q (j := 0) rfl rfl rfl rfl (do_move rfl ⟨rfl, rfl⟩) (by rfl) ?_
  refine ra_q (j := 1) rfl rfl rfl rfl (do_move rfl ⟨rfl, rfl⟩) (by rfl) ?_
  refine ra_q (j := 2) rfl rfl rfl rfl (do_ixn rfl rfl rfl (by first | omega | (simp only [ls] <;> omega)) ⟨rfl, rfl⟩) (by rfl) ?_
  refine ra_q (j := 3) rfl rfl rfl rfl (do_load_arr rfl rfl (by first | omega | (simp only [ls] <;> omega)) rfl ⟨rfl, rfl⟩) (by rfl) ?_
  refine ra_q (j := 4) rfl rfl rfl rfl (do_move rfl ⟨rfl, rfl⟩) (by rfl) ?_
  refine ra_q (j := 5) rfl rfl rfl rfl (do_move rfl ⟨rfl, rfl⟩) (by rfl) ?_
  refine ra_q (j := 6) rfl rfl rfl rfl (do_ixn rfl rfl rfl (by first | omega | (simp only [ls] <;> omega)) ⟨rfl, rfl⟩) (by rfl) ?_
  refine ra_q (j := 7) rfl rfl rfl rfl (do_load_arr rfl rfl (by first | omega | (simp only [ls] <;> omega)) rfl ⟨rfl, rfl⟩) (by rfl) ?_
  refine n_done ?_
  refine rw_t 24 rfl rfl rfl (do_bin rfl rfl rfl ?_)
  refine rw_nil ?_
  refine w_cond rfl (fun hc3 => ?_) (fun hc3 => ?_)
  all_goals try simp only [bs] at hc3
  · refine w_seq ?_
    refine w_region ?_
    refine rw_t 4 rfl rfl rfl (do_assign rfl ?_)
    refine rw_nil ?_
    refine w_ret ?_
    exact ret_eq (.inl rfl) (.cons (res_tmp rfl) .nil) [0, 1] (Eq.symm (bool_congr (decide_eq_false (fun q => by subst q; exact hc3 rfl)))) ⟨shR rfl, shR rfl, trivial⟩ rfl (pre_ok rfl)
  refine w_skip ?_
  refine w_region ?_
  refine rw_t 25 rfl rfl rfl (do_add rfl rfl (by omega) ?_)
  refine rw_t 13 rfl rfl rfl (do_move rfl ?_)
  refine rw_nil ?_
  refine ⟨i + 1, [0, 1], by dsimp only; omega, ⟨by omega, take_next (by omega) (by omega) g2 hc3⟩, ⟨shR rfl, shR rfl, trivial⟩, rfl, pre_ok rfl, ⟨⟨_, rfl, rfl⟩, ⟨_, rfl, rfl⟩, ⟨_, rfl, rfl⟩, ⟨_, rfl, rfl⟩, trivial⟩⟩
end Go.Proofs.P7

set_option linter.unusedVariables false
set_option linter.unusedSimpArgs false
namespace Go.Proofs.P7
open Go Go.Sx Go.RowKit
theorem most_max {c : Csr} (h : CsrOK c) (ho : CapOne c) {a : Nat} (ha : a < c.Head.length) : (if c.Cap.getD (c.Rev.getD a 0).toNat 0 > c.Cap.getD a 0 then c.Cap.getD (c.Rev.getD a 0).toNat 0 else c.Cap.getD a 0) = mostOf c a := by
  have h1 := h.cp a ha
  have hr := h.rv a ha
  have h2 := h.cp (c.Rev.getD a 0).toNat (by omega)
  have h3 := ho a ha
  unfold mostOf
  split <;> omega
set_option maxHeartbeats 8000000 in
set_option synthInstance.maxHeartbeats 400000 in
set_option synthInstance.maxSize 2000 in
theorem t_fwrong (m x : Int) : Tri Try.prog 77 [.val (.int .i64 x), .ptr 0 0 0] [.box [.val (.int .i64 m)]] (fun s H => s = .val (.bool (decide (x ≥ m))) ∧ H = [.box [.val (.int .i64 m)]]) := by
  refine tri_of_w (fn := Try.f77) Try.func77 rfl (by simp [Try.f77]) ?_
  intro ρ w hρ
  refine w_seq ?_
  refine w_region ?_
  refine rw_t 3 rfl rfl rfl (do_assign rfl ?_)
  refine rw_nil ?_
  refine w_seq ?_
  refine w_region ?_
  refine rw_t 4 rfl rfl rfl (do_move rfl ?_)
  refine rw_t 5 rfl rfl rfl (do_load_box rfl rfl rfl ?_)
  refine rw_t 6 rfl rfl rfl (do_bin rfl rfl rfl ?_)
  refine rw_t 3 rfl rfl rfl (do_assign rfl ?_)
  refine rw_nil ?_
  refine w_ret ?_
  exact ret_eq (.inl rfl) (.cons (res_tmp rfl) .nil) [0] (rfl) ⟨shR rfl, trivial⟩ rfl (pre_ok rfl)
set_option maxHeartbeats 8000000 in
set_option synthInstance.maxHeartbeats 400000 in
set_option synthInstance.maxSize 2000 in
theorem t_fIndex (m : Int) (xs : List Int) (hl : xs.length < 1073741824) : Tri Try.prog 73 [.slc 0 0 xs.length none, .func 77 [] [.ptr 1 0 0]] [SO.ints false .i64 xs, .box [.val (.int .i64 m)]] (fun s H => s = .val (.int .i64 (idxI (geQ m) xs)) ∧ H = [SO.ints false .i64 xs, .box [.val (.int .i64 m)]]) := by
  refine tri_of_w (fn := Try.f73) Try.func73 rfl (by simp [Try.f73]) ?_
  intro ρ w hρ
  refine w_seq ?_
  have h00 : (0 : Int) ≤ 0 := by omega
  refine w_region ?_
  refine rw_t 4 rfl rfl rfl (do_assign rfl ?_)
  refine rw_nil ?_
  refine w_seq ?_
  refine w_seq ?_
  refine w_region ?_
  refine rw_t 6 rfl rfl rfl (do_move rfl ?_)
  refine rw_t 7 rfl rfl rfl (do_len rfl ?_)
  refine rw_t 8 rfl rfl rfl (do_move rfl ?_)
  refine rw_nil ?_
  refine w_block ?_
  refine w_loopS (ι := Nat) (fun i => [(0, .slc 0 0 xs.length none), (1, .func 77 [] [.ptr 1 0 0]), (7, .val (.int .i64 ((xs.length : Nat) : Int))), (8, .val (.int .i64 ((i : Nat) : Int)))]) (fun i => [SO.ints false .i64 xs, .box [.val (.int .i64 m)]]) (fun i => xs.length - i) (fun i => i ≤ xs.length ∧ ∀ k, k < i → ¬ (xs.getD k 0 ≥ m)) (0) [0, 1] (⟨by simp, fun k hk => by omega⟩) ⟨shR rfl, shR rfl, trivial⟩ rfl (pre_ok rfl) hρ ⟨⟨_, rfl, rfl⟩, ⟨_, rfl, rfl⟩, ⟨_, rfl, rfl⟩, ⟨_, rfl, rfl⟩, trivial⟩ ?_
  rintro i ⟨g1, g2⟩
  refine w_seq ?_
  refine w_region ?_
  refine rw_t 9 rfl rfl rfl (do_bin rfl rfl rfl ?_)
  refine rw_nil ?_
  refine w_seq ?_
  refine w_cond rfl (fun hc1 => ?_) (fun hc1 => ?_)
  all_goals try simp only [bs] at hc1
  rotate_left
  · refine w_exit ?_
    refine w_seq ?_
    refine w_region ?_
    refine rw_t 4 rfl rfl rfl (do_assign rfl ?_)
    refine rw_nil ?_
    refine w_ret ?_
    exact ret_eq (.inl rfl) (.cons (res_tmp rfl) .nil) [0, 1] (Eq.symm (val_congr (by rw [idx_none (fun k hk => decide_eq_false (g2 k (by omega)))]))) ⟨shR rfl, shR rfl, trivial⟩ rfl (pre_ok rfl)
  refine w_skip ?_
  refine w_seq ?_
  refine w_block ?_
  refine w_seq ?_
  refine w_region ?_
  refine rw_t 10 rfl rfl rfl (do_move rfl ?_)
  refine rw_t 5 rfl rfl rfl (do_assign rfl ?_)
  refine rw_nil ?_
  refine w_seq ?_
  refine w_region ?_
  refine rw_t 11 rfl rfl rfl (do_move rfl ?_)
  refine rw_t 12 rfl rfl rfl (do_move rfl ?_)
  refine rw_t 13 rfl rfl rfl (do_move rfl ?_)
  refine rw_t 14 rfl rfl rfl (do_ixn rfl rfl rfl (by first | omega | (simp only [ls] <;> omega)) ?_)
  refine rw_t 15 rfl rfl rfl (do_load_arr rfl rfl (by first | omega | (simp only [ls] <;> omega)) rfl ?_)
  refine rw_t 16 rfl rfl rfl (n_callW (X' := .val (.bool (decide ((xs.getD i 0) ≥ m)))) (H' := [SO.ints false .i64 xs, .box [.val (.int .i64 m)]]) rfl rfl (t_fwrong (m := m) (x := (xs.getD i 0))) [1] ⟨shR rfl, trivial⟩ rfl rfl ⟨fun h => .inl rfl, (fun y hy => by simp at hy)⟩ rfl rfl ?_)
  refine rw_nil ?_
  refine w_cond rfl (fun hc2 => ?_) (fun hc2 => ?_)
  all_goals try simp only [bs] at hc2
  · refine w_seq ?_
    refine w_region ?_
    refine rw_t 17 rfl rfl rfl (do_move rfl ?_)
    refine rw_t 4 rfl rfl rfl (do_assign rfl ?_)
    refine rw_nil ?_
    refine w_ret ?_
    exact ret_eq (.inl rfl) (.cons (res_tmp rfl) .nil) [0, 1] (Eq.symm (val_congr (by rw [idx_at (by omega) (decide_eq_true hc2) (fun k hk => decide_eq_false (g2 k hk))]))) ⟨shR rfl, shR rfl, trivial⟩ rfl (pre_ok rfl)
  refine w_skip ?_
  refine w_region ?_
  refine rw_t 18 rfl rfl rfl (do_add rfl rfl (by omega) ?_)
  refine rw_t 8 rfl rfl rfl (do_move rfl ?_)
  refine rw_nil ?_
  refine ⟨i + 1, [0, 1], by dsimp only; omega, ⟨by omega, fun k hk => by rcases Nat.lt_or_ge k i with hki | hki; exact g2 k hki; have : k = i := (by omega); subst this; exact hc2⟩, ⟨shR rfl, shR rfl, trivial⟩, rfl, pre_ok rfl, ⟨⟨_, rfl, rfl⟩, ⟨_, rfl, rfl⟩, ⟨_, rfl, rfl⟩, ⟨_, rfl, rfl⟩, trivial⟩⟩
set_option maxHeartbeats 8000000 in
set_option synthInstance.maxHeartbeats 400000 in
set_option synthInstance.maxSize 2000 in
theorem t_fContains (m : Int) (xs : List Int) (hl : xs.length < 1073741824) : Tri Try.prog 61 [.slc 0 0 xs.length none, .func 77 [] [.ptr 1 0 0]] [SO.ints false .i64 xs, .box [.val (.int .i64 m)]] (fun s H => s = .val (.bool (decide (idxI (geQ m) xs ≥ 0))) ∧ H = [SO.ints false .i64 xs, .box [.val (.int .i64 m)]]) := by
  refine tri_of_w (fn := Try.f61) Try.func61 rfl (by simp [Try.f61]) ?_
  intro ρ w hρ
  refine w_seq ?_
  refine w_region ?_
  refine rw_t 4 rfl rfl rfl (do_assign rfl ?_)
  refine rw_nil ?_
  refine w_seq ?_
  refine w_region ?_
  refine rw_t 5 rfl rfl rfl (do_move rfl ?_)
  refine rw_t 6 rfl rfl rfl (do_move rfl ?_)
  refine rw_t 7 rfl rfl rfl (n_callW (X' := .val (.int .i64 (idxI (geQ m) xs))) (H' := [SO.ints false .i64 xs, .box [.val (.int .i64 m)]]) rfl rfl (t_fIndex (m := m) (xs := xs) (hl)) [0, 1] ⟨.inr ⟨_, rfl, srv⟩, shR rfl, trivial⟩ rfl rfl ⟨fun h => (by cases h), ⟨fun h => .inl rfl, (fun y hy => by simp at hy)⟩⟩ rfl rfl ?_)
  refine rw_t 8 rfl rfl rfl (do_bin rfl rfl rfl ?_)
  refine rw_t 4 rfl rfl rfl (do_assign rfl ?_)
  refine rw_nil ?_
  refine w_ret ?_
  exact ret_eq (.inl rfl) (.cons (res_tmp rfl) .nil) [0, 1] (rfl) ⟨shR rfl, shR rfl, trivial⟩ rfl (pre_ok rfl)
set_option maxHeartbeats 8000000 in
set_option synthInstance.maxHeartbeats 400000 in
set_option synthInstance.maxSize 2000 in
theorem t_Flow (c : Csr) (f : List Int) (m : Int) (h : CsrT c) (ho : CapOne c) (hm : 0 ≤ m ∧ m ≤ 16384) (ha : ∀ k : Nat, k < c.Arc.length → 0 ≤ c.Arc.getD k 0 ∧ c.Arc.getD k 0 < m) : Tri Try.prog 68 [.agg [.val (.int .i64 c.N), .val (.int .i64 c.S), .val (.int .i64 c.T), .slc 0 0 c.First.length none, .slc 1 0 c.Head.length none, .slc 2 0 c.Rev.length none, .slc 3 0 c.Cap.length none, .slc 4 0 c.Arc.length none, .slc 5 0 c.Back.length none], .slc 6 0 f.length none, .val (.int .i64 m)] [SO.ints false .i64 c.First, SO.ints false .i64 c.Head, SO.ints false .i64 c.Rev, SO.ints false .i64 c.Cap, SO.ints false .i64 c.Arc, SO.bools false c.Back, SO.ints false .i64 f] (fun s H => s = .tup [.slc 7 0 ((flowR c f m).1.length) none, .val (.int .i64 ((flowR c f m).2))] ∧ H = [SO.ints false .i64 c.First, SO.ints false .i64 c.Head, SO.ints false .i64 c.Rev, SO.ints false .i64 c.Cap, SO.ints false .i64 c.Arc, SO.bools false c.Back, SO.ints false .i64 f, SO.ints true .i64 ((flowR c f m).1)]) := by
  refine tri_of_w (fn := Try.f68) Try.func68 rfl (by simp [Try.f68]) ?_
  intro ρ w hρ
  refine w_seq ?_
  have hn := h.n
  have hf := h.first
  have hhd := h.head
  have hrl := h.rev
  have hcl := h.cap
  have hal := h.arc
  have hbl := h.back
  have hsm := h.small
  have hng : ¬ (idxI (geQ m) c.Arc ≥ 0) := idx_ge.2 fun v hv => (ha v hv).2
  refine w_region ?_
  refine rw_t 3 rfl rfl rfl (n_box_agg (n := 7) rfl rfl ?_)
  refine rw_t 5 rfl rfl rfl (n_box (n := 8) rfl rfl rfl ?_)
  refine rw_t 6 rfl rfl rfl (do_assign rfl ?_)
  refine rw_t 7 rfl rfl rfl (do_assign rfl ?_)
  refine rw_nil ?_
  refine w_seq ?_
  refine w_region ?_
  refine rw_t 13 rfl rfl rfl (do_makefunc rfl rfl ?_)
  refine rw_t 8 rfl rfl rfl (do_assign rfl ?_)
  refine rw_nil ?_
  refine w_seq ?_
  refine w_seqB 32 ((((((f.length : Nat) : Int) ≠ ((c.Head.length : Nat) : Int) ∨ m < 0) ∨ m > 16384) ∨ idxI (geQ m) c.Arc ≥ 0)) ?_ ?_
  · -- region 2
    refine w_region ?_
    refine rw_t 14 rfl rfl rfl (do_move rfl ?_)
    refine rw_t 15 rfl rfl rfl (do_len rfl ?_)
    refine rw_t 16 rfl rfl rfl (n_load_boxagg [_, _, _, _, _, _, _, _, _] rfl rfl (Nat.le_of_ble_eq_true rfl) rfl ?_)
    refine rw_t 17 rfl rfl rfl (do_callR (X' := .val (.int .i64 ((c.Head.length : Nat) : Int))) rfl rfl (t_Len (c := c)) [0, 1, 2, 3, 4, 5] ⟨.inr ⟨_, rfl, srv⟩, .inr ⟨_, rfl, srv⟩, .inr ⟨_, rfl, srv⟩, .inr ⟨_, rfl, srv⟩, .inr ⟨_, rfl, srv⟩, .inr ⟨_, rfl, srv⟩, trivial⟩ rfl rfl rfl ?_)
    refine rw_t 18 rfl rfl rfl (do_bin rfl rfl rfl ?_)
    refine rw_t 19 rfl rfl rfl (do_move rfl ?_)
    refine rw_case 19 rfl (fun g1 => ?_) (fun g1 => ?_)
    · have kg1 := g1
      try simp only [bs] at kg1
      refine rw_gf 20 5 19 false rfl rfl rfl rfl rfl rfl (by rw [g1]; decide) ?_
      refine rw_gf 21 5 19 false rfl rfl rfl rfl rfl rfl (by rw [g1]; decide) ?_
      refine rw_t 22 rfl rfl rfl (do_pick_t rfl g1 rfl ?_)
      refine rw_t 23 rfl rfl rfl (do_move rfl ?_)
      refine rw_gf 24 9 23 false rfl rfl rfl rfl rfl rfl (by decide) ?_
      refine rw_gf 25 9 23 false rfl rfl rfl rfl rfl rfl (by decide) ?_
      refine rw_t 26 rfl rfl rfl (do_pick_t rfl rfl rfl ?_)
      refine rw_t 27 rfl rfl rfl (do_move rfl ?_)
      refine rw_gf 28 13 27 false rfl rfl rfl rfl rfl rfl (by decide) ?_
      refine rw_gf 29 13 27 false rfl rfl rfl rfl rfl rfl (by decide) ?_
      refine rw_gf 30 13 27 false rfl rfl rfl rfl rfl rfl (by decide) ?_
      refine rw_gf 31 13 27 false rfl rfl rfl rfl rfl rfl (by decide) ?_
      refine rw_t 32 rfl rfl rfl (do_pick_t rfl rfl rfl ?_)
      refine rw_nil ?_
      refine ⟨rfl, ⟨_, rfl, by first | (simp; done) | (simp only [bs]; omega) | (simp [*]; done) | (simp; omega) | (constructor <;> intro h <;> simp_all <;> omega)⟩, ?_⟩
      repeat (refine ⟨⟨_, rfl, rfl⟩, ?_⟩)
      exact trivial
    · have kg1 := g1
      try simp only [bs] at kg1
      refine rw_gt 20 5 19 false rfl rfl rfl rfl rfl rfl g1 (do_load_box rfl rfl rfl ?_)
      refine rw_gt 21 5 19 false rfl rfl rfl rfl rfl rfl g1 (do_bin rfl rfl rfl ?_)
      refine rw_t 22 rfl rfl rfl (do_pick_f rfl g1 rfl ?_)
      refine rw_t 23 rfl rfl rfl (do_move rfl ?_)
      refine rw_case 23 rfl (fun g2 => ?_) (fun g2 => ?_)
      · have kg2 := g2
        try simp only [bs] at kg2
        refine rw_gf 24 9 23 false rfl rfl rfl rfl rfl rfl (by rw [g2]; decide) ?_
        refine rw_gf 25 9 23 false rfl rfl rfl rfl rfl rfl (by rw [g2]; decide) ?_
        refine rw_t 26 rfl rfl rfl (do_pick_t rfl g2 rfl ?_)
        refine rw_t 27 rfl rfl rfl (do_move rfl ?_)
        refine rw_gf 28 13 27 false rfl rfl rfl rfl rfl rfl (by decide) ?_
        refine rw_gf 29 13 27 false rfl rfl rfl rfl rfl rfl (by decide) ?_
        refine rw_gf 30 13 27 false rfl rfl rfl rfl rfl rfl (by decide) ?_
        refine rw_gf 31 13 27 false rfl rfl rfl rfl rfl rfl (by decide) ?_
        refine rw_t 32 rfl rfl rfl (do_pick_t rfl rfl rfl ?_)
        refine rw_nil ?_
        refine ⟨rfl, ⟨_, rfl, by first | (simp; done) | (simp only [bs]; omega) | (simp [*]; done) | (simp; omega) | (constructor <;> intro h <;> simp_all <;> omega)⟩, ?_⟩
        repeat (refine ⟨⟨_, rfl, rfl⟩, ?_⟩)
        exact trivial
      · have kg2 := g2
        try simp only [bs] at kg2
        refine rw_gt 24 9 23 false rfl rfl rfl rfl rfl rfl g2 (do_load_box rfl rfl rfl ?_)
        refine rw_gt 25 9 23 false rfl rfl rfl rfl rfl rfl g2 (do_bin rfl rfl rfl ?_)
        refine rw_t 26 rfl rfl rfl (do_pick_f rfl g2 rfl ?_)
        refine rw_t 27 rfl rfl rfl (do_move rfl ?_)
        refine rw_case 27 rfl (fun g3 => ?_) (fun g3 => ?_)
        · have kg3 := g3
          try simp only [bs] at kg3
          refine rw_gf 28 13 27 false rfl rfl rfl rfl rfl rfl (by rw [g3]; decide) ?_
          refine rw_gf 29 13 27 false rfl rfl rfl rfl rfl rfl (by rw [g3]; decide) ?_
          refine rw_gf 30 13 27 false rfl rfl rfl rfl rfl rfl (by rw [g3]; decide) ?_
          refine rw_gf 31 13 27 false rfl rfl rfl rfl rfl rfl (by rw [g3]; decide) ?_
          refine rw_t 32 rfl rfl rfl (do_pick_t rfl g3 rfl ?_)
          refine rw_nil ?_
          refine ⟨rfl, ⟨_, rfl, by first | (simp; done) | (simp only [bs]; omega) | (simp [*]; done) | (simp; omega) | (constructor <;> intro h <;> simp_all <;> omega)⟩, ?_⟩
          repeat (refine ⟨⟨_, rfl, rfl⟩, ?_⟩)
          exact trivial
        · have kg3 := g3
          try simp only [bs] at kg3
          refine rw_gt 28 13 27 false rfl rfl rfl rfl rfl rfl g3 (do_fieldaddr rfl ?_)
          refine rw_gt 29 13 27 false rfl rfl rfl rfl rfl rfl g3 (do_load_box rfl rfl rfl ?_)
          refine rw_gt 30 13 27 false rfl rfl rfl rfl rfl rfl g3 (do_move rfl ?_)
          refine rw_gt 31 13 27 false rfl rfl rfl rfl rfl rfl g3 (n_callW (X' := .val (.bool (decide (idxI (geQ m) c.Arc ≥ 0)))) (H' := [SO.ints false .i64 c.First, SO.ints false .i64 c.Head, SO.ints false .i64 c.Rev, SO.ints false .i64 c.Cap, SO.ints false .i64 c.Arc, SO.bools false c.Back, SO.ints false .i64 f, .box [.val (.int .i64 c.N), .val (.int .i64 c.S), .val (.int .i64 c.T), .slc 0 0 c.First.length none, .slc 1 0 c.Head.length none, .slc 2 0 c.Rev.length none, .slc 3 0 c.Cap.length none, .slc 4 0 c.Arc.length none, .slc 5 0 c.Back.length none], .box [.val (.int .i64 m)]]) rfl rfl (t_fContains (m := m) (xs := c.Arc) (by omega)) [4, 8] ⟨.inr ⟨_, rfl, srv⟩, shR rfl, trivial⟩ rfl rfl ⟨fun h => (by cases h), ⟨fun h => .inl rfl, (fun y hy => by simp at hy)⟩⟩ rfl rfl ?_)
          refine rw_t 32 rfl rfl rfl (do_pick_f rfl g3 rfl ?_)
          refine rw_nil ?_
          refine ⟨rfl, ⟨_, rfl, by first | (simp; done) | (simp only [bs]; omega) | (simp [*]; done) | (simp; omega) | (constructor <;> intro h <;> simp_all <;> omega)⟩, ?_⟩
          repeat (refine ⟨⟨_, rfl, rfl⟩, ?_⟩)
          exact trivial
  intro b1 hb1
  refine w_condP hb1 rfl (fun hc1 => ?_) (fun hc1 => ?_)
  · refine w_seq ?_
    refine w_region ?_
    refine rw_t 6 rfl rfl rfl (do_assign rfl ?_)
    refine rw_t 7 rfl rfl rfl (do_assign rfl ?_)
    refine rw_nil ?_
    have hno : f.length ≠ c.Head.length := by omega
    have e1 : flowR c f m = ([], 2) := by unfold flowR; rw [if_neg hno]
    refine n_ghost Int 1 (encI .i64) 0 (fun _ => rfl) (fun _ _ h => by simp [encI] at h; subst h; rfl) ?_
    refine w_nilE 6 9 0 rfl ?_
    refine w_ret ?_
    exact ret_eq (.inl rfl) (.cons (res_tmp rfl) (.cons (res_tmp rfl) .nil)) [0, 1, 2, 3, 4, 5, 6, 9] (by rw [e1]; rfl) ⟨shR rfl, shR rfl, shR rfl, shR rfl, shR rfl, shR rfl, shR rfl, .inr ⟨_, rfl, .inl (congrArg (SO.ints true .i64) (by rw [e1]; try rfl))⟩, trivial⟩ rfl (pre_ok rfl)
  refine w_skip ?_
  refine w_seq ?_
  have hfl : f.length = c.Head.length := by omega
  refine w_region ?_
  refine rw_t 33 rfl rfl rfl (do_load_box rfl rfl rfl ?_)
  refine rw_t 34 rfl rfl rfl (n_make (nm := 9) Int (encI .i64) 0 rfl rfl rfl (fun _ => rfl) (fun _ _ h => by simp [encI] at h; subst h; rfl) (by omega) (by omega) (by omega) rfl ?_)
  refine rw_cap 34 rfl ?_
  refine rw_t 9 rfl rfl rfl (do_assign rfl ?_)
  refine rw_nil ?_
  refine w_seq ?_
  refine w_seq ?_
  refine w_region ?_
  refine rw_t 35 rfl rfl rfl (do_move rfl ?_)
  refine rw_t 36 rfl rfl rfl (do_len rfl ?_)
  refine rw_t 37 rfl rfl rfl (do_move rfl ?_)
  refine rw_nil ?_
  refine w_block ?_
  refine w_loopS (ι := Nat) (fun i => [(1, .slc 6 0 f.length none), (3, .ptr 7 0 0), (9, .slc 9 0 ((flowL c f m i).length) none), (35, .slc 6 0 f.length none), (36, .val (.int .i64 ((f.length : Nat) : Int))), (37, .val (.int .i64 ((i : Nat) : Int)))]) (fun i => [SO.ints false .i64 c.First, SO.ints false .i64 c.Head, SO.ints false .i64 c.Rev, SO.ints false .i64 c.Cap, SO.ints false .i64 c.Arc, SO.bools false c.Back, SO.ints false .i64 f, .box [.val (.int .i64 c.N), .val (.int .i64 c.S), .val (.int .i64 c.T), .slc 0 0 c.First.length none, .slc 1 0 c.Head.length none, .slc 2 0 c.Rev.length none, .slc 3 0 c.Cap.length none, .slc 4 0 c.Arc.length none, .slc 5 0 c.Back.length none], .box [.val (.int .i64 m)], SO.ints true .i64 (flowL c f m i)]) (fun i => f.length - i) (fun i => i ≤ f.length ∧ ∀ a : Nat, a < i → 0 ≤ f.getD a 0 ∧ f.getD a 0 ≤ mostOf c a ∧ f.getD (c.Rev.getD a 0).toNat 0 = mostOf c a - f.getD a 0) (0) [0, 1, 2, 3, 4, 5, 6, 7, 8, 9] (⟨by simp, fun a ha => by omega⟩) ⟨shR rfl, shR rfl, shR rfl, shR rfl, shR rfl, shR rfl, shR rfl, shR rfl, shR rfl, shR rfl, trivial⟩ rfl (pre_ok rfl) hρ ⟨⟨_, rfl, rfl⟩, ⟨_, rfl, rfl⟩, ⟨_, rfl, congrArg (fun n => SV.slc 9 0 n none) (by simp [flowL])⟩, ⟨_, rfl, rfl⟩, ⟨_, rfl, rfl⟩, ⟨_, rfl, rfl⟩, trivial⟩ ?_
  rintro i ⟨g1, g2⟩
  refine w_seq ?_
  refine w_region ?_
  refine rw_t 38 rfl rfl rfl (do_bin rfl rfl rfl ?_)
  refine rw_nil ?_
  refine w_seq ?_
  refine w_cond rfl (fun hc2 => ?_) (fun hc2 => ?_)
  all_goals try simp only [bs] at hc2
  rotate_left
  · refine w_exit ?_
    refine w_seq ?_
    refine w_region ?_
    refine rw_t 94 rfl rfl rfl (do_move rfl ?_)
    refine rw_t 6 rfl rfl rfl (do_assign rfl ?_)
    refine rw_t 7 rfl rfl rfl (do_assign rfl ?_)
    refine rw_nil ?_
    have hi' : i = c.Head.length := by omega
    subst hi'
    have e1 : flowR c f m = (flowL c f m c.Head.length, 0) := by unfold flowR; rw [if_pos hfl, if_pos (show pairsP c f from g2)]
    refine w_ret ?_
    exact ret_eq (.inl rfl) (.cons (res_tmp rfl) (.cons (res_tmp rfl) .nil)) [0, 1, 2, 3, 4, 5, 6, 9] (by rw [e1]; rfl) ⟨shR rfl, shR rfl, shR rfl, shR rfl, shR rfl, shR rfl, shR rfl, .inr ⟨_, rfl, .inl (congrArg (SO.ints true .i64) (by rw [e1]; try rfl))⟩, trivial⟩ rfl (pre_ok rfl)
  refine w_skip ?_
  refine w_seq ?_
  refine w_block ?_
  refine w_seq ?_
  have hrv := h.rv i (by omega)
  have hmx := most_max h.toCsrOK ho (show i < c.Head.length by omega)
  have hcp := h.cp i (by omega)
  have hai := ha i (by omega)
  have hfn := flowL_len c f m i
  have hmr : mostOf c i = c.Cap.getD i 0 + c.Cap.getD (c.Rev.getD i 0).toNat 0 := rfl
  refine w_region ?_
  refine rw_t 39 rfl rfl rfl (do_move rfl ?_)
  refine rw_t 40 rfl rfl rfl (do_ixn rfl rfl rfl (by first | omega | (simp only [ls] <;> omega)) ?_)
  refine rw_t 41 rfl rfl rfl (do_load_arr rfl rfl (by first | omega | (simp only [ls] <;> omega)) rfl ?_)
  refine rw_t 10 rfl rfl rfl (do_assign rfl ?_)
  refine rw_t 11 rfl rfl rfl (do_assign rfl ?_)
  refine rw_nil ?_
  refine w_seq ?_
  refine w_draw mixed [0, 1, 0, 7, 15, 0, 32, 0, 128, 0, 896, 1920, 4064, 8160] [16383, 32767] (by kernel_rfl) (by kernel_rfl) rfl rfl rfl (hle hρ rfl) ?_
  refine ra_q (j := 0) rfl rfl rfl rfl (do_fieldaddr rfl ⟨rfl, rfl⟩) (by rfl) ?_
  refine ra_q (j := 1) rfl rfl rfl rfl (do_load_box rfl rfl rfl ⟨rfl, rfl⟩) (by rfl) ?_
  refine ra_q (j := 2) rfl rfl rfl rfl (do_move rfl ⟨rfl, rfl⟩) (by rfl) ?_
  refine ra_q (j := 3) rfl rfl rfl rfl (do_ixn rfl rfl rfl (by first | omega | (simp only [ls] <;> omega)) ⟨rfl, rfl⟩) (by rfl) ?_
  refine ra_q (j := 4) rfl rfl rfl rfl (do_load_arr rfl rfl (by first | omega | (simp only [ls] <;> omega)) rfl ⟨rfl, rfl⟩) (by rfl) ?_
  refine ra_q (j := 5) rfl rfl rfl rfl (do_fieldaddr rfl ⟨rfl, rfl⟩) (by rfl) ?_
  refine ra_q (j := 6) rfl rfl rfl rfl (do_load_box rfl rfl rfl ⟨rfl, rfl⟩) (by rfl) ?_
  refine ra_q (j := 7) rfl rfl rfl rfl (do_fieldaddr rfl ⟨rfl, rfl⟩) (by rfl) ?_
  refine ra_q (j := 8) rfl rfl rfl rfl (do_load_box rfl rfl rfl ⟨rfl, rfl⟩) (by rfl) ?_
  refine ra_q (j := 9) rfl rfl rfl rfl (do_move rfl ⟨rfl, rfl⟩) (by rfl) ?_
  refine ra_q (j := 10) rfl rfl rfl rfl (do_ixn rfl rfl rfl (by first | omega | (simp only [ls] <;> omega)) ⟨rfl, rfl⟩) (by rfl) ?_
  refine ra_q (j := 11) rfl rfl rfl rfl (do_load_arr rfl rfl (by first | omega | (simp only [ls] <;> omega)) rfl ⟨rfl, rfl⟩) (by rfl) ?_
  refine ra_q (j := 12) rfl rfl rfl rfl (do_ix0 rfl rfl rfl (by first | omega | (simp only [ls] <;> omega)) ⟨rfl, rfl⟩) (by rfl) ?_
  refine ra_q (j := 13) rfl rfl rfl rfl (do_load_arr rfl rfl (by first | omega | (simp only [ls] <;> omega)) rfl ⟨rfl, rfl⟩) (by rfl) ?_
  refine n_done ?_
  refine rw_t 56 rfl rfl rfl (do_max rfl rfl ?_)
  refine rw_as (.val (.int .i64 (mostOf c i))) (val_congr (hmx)) ?_
  refine rw_t 12 rfl rfl rfl (do_assign rfl ?_)
  refine rw_nil ?_
  refine w_block ?_
  refine w_env [(1, .slc 6 0 f.length none), (3, .ptr 7 0 0), (9, .slc 9 0 ((flowL c f m i).length) none), (10, .val (.int .i64 ((i : Nat) : Int))), (11, .val (.int .i64 (f.getD i 0))), (12, .val (.int .i64 (mostOf c i))), (35, .slc 6 0 f.length none), (36, .val (.int .i64 ((f.length : Nat) : Int))), (37, .val (.int .i64 ((i : Nat) : Int))), (38, .val (.bool (decide (((i : Nat) : Int) < ((f.length : Nat) : Int))))), (39, .val (.int .i64 ((i : Nat) : Int))), (40, .ptr 6 i 0), (41, .val (.int .i64 (f.getD i 0))), (42, .ptr 7 0 6), (43, .slc 3 0 c.Cap.length none), (44, .val (.int .i64 ((i : Nat) : Int))), (45, .ptr 3 i 0), (46, .val (.int .i64 (c.Cap.getD i 0))), (47, .ptr 7 0 6), (48, .slc 3 0 c.Cap.length none), (49, .ptr 7 0 5), (50, .slc 2 0 c.Rev.length none), (51, .val (.int .i64 ((i : Nat) : Int))), (52, .ptr 2 i 0), (53, .val (.int .i64 (c.Rev.getD i 0))), (54, .ptr 3 ((c.Rev.getD i 0).toNat) 0), (55, .val (.int .i64 (c.Cap.getD ((c.Rev.getD i 0).toNat) 0))), (56, .val (.int .i64 (mostOf c i)))] ⟨⟨_, rfl, rfl⟩, ⟨_, rfl, rfl⟩, ⟨_, rfl, rfl⟩, ⟨_, rfl, rfl⟩, ⟨_, rfl, rfl⟩, ⟨_, rfl, rfl⟩, ⟨_, rfl, rfl⟩, ⟨_, rfl, rfl⟩, ⟨_, rfl, rfl⟩, ⟨_, rfl, rfl⟩, ⟨_, rfl, rfl⟩, ⟨_, rfl, rfl⟩, ⟨_, rfl, rfl⟩, ⟨_, rfl, rfl⟩, ⟨_, rfl, rfl⟩, ⟨_, rfl, rfl⟩, ⟨_, rfl, rfl⟩, ⟨_, rfl, rfl⟩, ⟨_, rfl, rfl⟩, ⟨_, rfl, rfl⟩, ⟨_, rfl, rfl⟩, ⟨_, rfl, rfl⟩, ⟨_, rfl, rfl⟩, ⟨_, rfl, rfl⟩, ⟨_, rfl, rfl⟩, ⟨_, rfl, rfl⟩, ⟨_, rfl, rfl⟩, ⟨_, rfl, rfl⟩, trivial⟩ ?_
  refine w_seqB 57 ((((f.getD i 0) < 0 ∨ (f.getD i 0) > mostOf c i) ∨ (f.getD ((c.Rev.getD i 0).toNat) 0) ≠ (mostOf c i - (f.getD i 0)))) ?_ ?_
  · -- region 9
    refine w_region ?_
    refine rw_t 58 rfl rfl rfl (do_move rfl ?_)
    refine rw_t 59 rfl rfl rfl (do_bin rfl rfl rfl ?_)
    refine rw_t 60 rfl rfl rfl (do_move rfl ?_)
    refine rw_case 60 rfl (fun g4 => ?_) (fun g4 => ?_)
    · have kg4 := g4
      try simp only [bs] at kg4
      refine rw_gf 61 2 60 false rfl rfl rfl rfl rfl rfl (by rw [g4]; decide) ?_
      refine rw_gf 62 2 60 false rfl rfl rfl rfl rfl rfl (by rw [g4]; decide) ?_
      refine rw_gf 63 2 60 false rfl rfl rfl rfl rfl rfl (by rw [g4]; decide) ?_
      refine rw_t 64 rfl rfl rfl (do_pick_t rfl g4 rfl ?_)
      refine rw_t 65 rfl rfl rfl (do_move rfl ?_)
      refine rw_gf 66 7 65 false rfl rfl rfl rfl rfl rfl (by decide) ?_
      refine rw_gf 67 7 65 false rfl rfl rfl rfl rfl rfl (by decide) ?_
      refine rw_gf 68 7 65 false rfl rfl rfl rfl rfl rfl (by decide) ?_
      refine rw_gf 69 7 65 false rfl rfl rfl rfl rfl rfl (by decide) ?_
      refine rw_gf 70 7 65 false rfl rfl rfl rfl rfl rfl (by decide) ?_
      refine rw_gf 71 7 65 false rfl rfl rfl rfl rfl rfl (by decide) ?_
      refine rw_gf 72 7 65 false rfl rfl rfl rfl rfl rfl (by decide) ?_
      refine rw_gf 73 7 65 false rfl rfl rfl rfl rfl rfl (by decide) ?_
      refine rw_gf 74 7 65 false rfl rfl rfl rfl rfl rfl (by decide) ?_
      refine rw_gf 75 7 65 false rfl rfl rfl rfl rfl rfl (by decide) ?_
      refine rw_gf 76 7 65 false rfl rfl rfl rfl rfl rfl (by decide) ?_
      refine rw_gf 77 7 65 false rfl rfl rfl rfl rfl rfl (by decide) ?_
      refine rw_t 78 rfl rfl rfl (do_pick_t rfl rfl rfl ?_)
      refine rw_t 57 rfl rfl rfl (do_assign rfl ?_)
      refine rw_nil ?_
      refine ⟨rfl, ⟨_, rfl, by first | (simp; done) | (simp only [bs]; omega) | (simp [*]; done) | (simp; omega) | (constructor <;> intro h <;> simp_all <;> omega)⟩, ?_⟩
      repeat (refine ⟨⟨_, rfl, rfl⟩, ?_⟩)
      exact trivial
    · have kg4 := g4
      try simp only [bs] at kg4
      refine rw_gt 61 2 60 false rfl rfl rfl rfl rfl rfl g4 (do_move rfl ?_)
      refine rw_gt 62 2 60 false rfl rfl rfl rfl rfl rfl g4 (do_move rfl ?_)
      refine rw_gt 63 2 60 false rfl rfl rfl rfl rfl rfl g4 (do_bin rfl rfl rfl ?_)
      refine rw_t 64 rfl rfl rfl (do_pick_f rfl g4 rfl ?_)
      refine rw_t 65 rfl rfl rfl (do_move rfl ?_)
      refine rw_case 65 rfl (fun g5 => ?_) (fun g5 => ?_)
      · have kg5 := g5
        try simp only [bs] at kg5
        refine rw_gf 66 7 65 false rfl rfl rfl rfl rfl rfl (by rw [g5]; decide) ?_
        refine rw_gf 67 7 65 false rfl rfl rfl rfl rfl rfl (by rw [g5]; decide) ?_
        refine rw_gf 68 7 65 false rfl rfl rfl rfl rfl rfl (by rw [g5]; decide) ?_
        refine rw_gf 69 7 65 false rfl rfl rfl rfl rfl rfl (by rw [g5]; decide) ?_
        refine rw_gf 70 7 65 false rfl rfl rfl rfl rfl rfl (by rw [g5]; decide) ?_
        refine rw_gf 71 7 65 false rfl rfl rfl rfl rfl rfl (by rw [g5]; decide) ?_
        refine rw_gf 72 7 65 false rfl rfl rfl rfl rfl rfl (by rw [g5]; decide) ?_
        refine rw_gf 73 7 65 false rfl rfl rfl rfl rfl rfl (by rw [g5]; decide) ?_
        refine rw_gf 74 7 65 false rfl rfl rfl rfl rfl rfl (by rw [g5]; decide) ?_
        refine rw_gf 75 7 65 false rfl rfl rfl rfl rfl rfl (by rw [g5]; decide) ?_
        refine rw_gf 76 7 65 false rfl rfl rfl rfl rfl rfl (by rw [g5]; decide) ?_
        refine rw_gf 77 7 65 false rfl rfl rfl rfl rfl rfl (by rw [g5]; decide) ?_
        refine rw_t 78 rfl rfl rfl (do_pick_t rfl g5 rfl ?_)
        refine rw_t 57 rfl rfl rfl (do_assign rfl ?_)
        refine rw_nil ?_
        refine ⟨rfl, ⟨_, rfl, by first | (simp; done) | (simp only [bs]; omega) | (simp [*]; done) | (simp; omega) | (constructor <;> intro h <;> simp_all <;> omega)⟩, ?_⟩
        repeat (refine ⟨⟨_, rfl, rfl⟩, ?_⟩)
        exact trivial
      · have kg5 := g5
        try simp only [bs] at kg5
        refine rw_gt 66 7 65 false rfl rfl rfl rfl rfl rfl g5 (do_move rfl ?_)
        refine rw_gt 67 7 65 false rfl rfl rfl rfl rfl rfl g5 (do_fieldaddr rfl ?_)
        refine rw_gt 68 7 65 false rfl rfl rfl rfl rfl rfl g5 (do_load_box rfl rfl rfl ?_)
        refine rw_gt 69 7 65 false rfl rfl rfl rfl rfl rfl g5 (do_move rfl ?_)
        refine rw_gt 70 7 65 false rfl rfl rfl rfl rfl rfl g5 (do_ixn rfl rfl rfl (by first | omega | (simp only [ls] <;> omega)) ?_)
        refine rw_gt 71 7 65 false rfl rfl rfl rfl rfl rfl g5 (do_load_arr rfl rfl (by first | omega | (simp only [ls] <;> omega)) rfl ?_)
        refine rw_gt 72 7 65 false rfl rfl rfl rfl rfl rfl g5 (do_ix0 rfl rfl rfl (by first | omega | (simp only [ls] <;> omega)) ?_)
        refine rw_gt 73 7 65 false rfl rfl rfl rfl rfl rfl g5 (do_load_arr rfl rfl (by first | omega | (simp only [ls] <;> omega)) rfl ?_)
        refine rw_gt 74 7 65 false rfl rfl rfl rfl rfl rfl g5 (do_move rfl ?_)
        refine rw_gt 75 7 65 false rfl rfl rfl rfl rfl rfl g5 (do_move rfl ?_)
        refine rw_gt 76 7 65 false rfl rfl rfl rfl rfl rfl g5 (do_sub rfl rfl (by omega) ?_)
        refine rw_gt 77 7 65 false rfl rfl rfl rfl rfl rfl g5 (do_bin rfl rfl rfl ?_)
        refine rw_t 78 rfl rfl rfl (do_pick_f rfl g5 rfl ?_)
        refine rw_t 57 rfl rfl rfl (do_assign rfl ?_)
        refine rw_nil ?_
        refine ⟨rfl, ⟨_, rfl, by first | (simp; done) | (simp only [bs]; omega) | (simp [*]; done) | (simp; omega) | (constructor <;> intro h <;> simp_all <;> omega)⟩, ?_⟩
        repeat (refine ⟨⟨_, rfl, rfl⟩, ?_⟩)
        exact trivial
  intro b2 hb2
  refine w_condP hb2 rfl (fun hc3 => ?_) (fun hc3 => ?_)
  · refine w_seq ?_
    refine w_region ?_
    refine rw_t 6 rfl rfl rfl (do_assign rfl ?_)
    refine rw_t 7 rfl rfl rfl (do_assign rfl ?_)
    refine rw_nil ?_
    have hno : ¬ pairsP c f := fun q => by have := q i (by omega); omega
    have e1 : flowR c f m = ([], 20) := by unfold flowR; rw [if_pos hfl, if_neg hno]
    refine n_ghost Int 1 (encI .i64) 0 (fun _ => rfl) (fun _ _ h => by simp [encI] at h; subst h; rfl) ?_
    refine w_nilE 6 10 0 rfl ?_
    refine w_ret ?_
    exact ret_eq (.inl rfl) (.cons (res_tmp rfl) (.cons (res_tmp rfl) .nil)) [0, 1, 2, 3, 4, 5, 6, 10] (by rw [e1]; rfl) ⟨shR rfl, shR rfl, shR rfl, shR rfl, shR rfl, shR rfl, shR rfl, .inr ⟨_, rfl, .inl (congrArg (SO.ints true .i64) (by rw [e1]; try rfl))⟩, trivial⟩ rfl (pre_ok rfl)
  refine w_seq ?_
  refine w_region ?_
  refine rw_t 80 rfl rfl rfl (do_fieldaddr rfl ?_)
  refine rw_t 81 rfl rfl rfl (do_load_box rfl rfl rfl ?_)
  refine rw_t 82 rfl rfl rfl (do_move rfl ?_)
  refine rw_t 83 rfl rfl rfl (do_ixn rfl rfl rfl (by first | omega | (simp only [ls] <;> omega)) ?_)
  refine rw_t 84 rfl rfl rfl (do_load_arr rfl rfl (by first | omega | (simp only [ls] <;> omega)) rfl ?_)
  refine rw_t 79 rfl rfl rfl (do_assign rfl ?_)
  refine rw_nil ?_
  refine w_cond rfl (fun hc4 => ?_) (fun hc4 => ?_)
  all_goals try simp only [bs] at hc4
  · -- region 12
    refine w_region ?_
    refine rw_t 85 rfl rfl rfl (do_move rfl ?_)
    refine rw_t 86 rfl rfl rfl (do_fieldaddr rfl ?_)
    refine rw_t 87 rfl rfl rfl (do_load_box rfl rfl rfl ?_)
    refine rw_t 88 rfl rfl rfl (do_move rfl ?_)
    refine rw_t 89 rfl rfl rfl (do_ixn rfl rfl rfl (by first | omega | (simp only [ls] <;> omega)) ?_)
    refine rw_t 90 rfl rfl rfl (do_load_arr rfl rfl (by first | omega | (simp only [ls] <;> omega)) rfl ?_)
    refine rw_t 91 rfl rfl rfl (do_move rfl ?_)
    refine rw_t 92 rfl rfl rfl (do_ix0 rfl rfl rfl (by first | omega | (simp only [ls] <;> omega)) ?_)
    refine rw_u rfl rfl (n_store_arr (z := (f.getD i 0)) rfl rfl rfl (by first | omega | (simp only [ls] <;> omega)) rfl (by decide) rfl ?_)
    refine rw_nil ?_
    refine w_region ?_
    refine rw_t 93 rfl rfl rfl (do_add rfl rfl (by omega) ?_)
    refine rw_t 37 rfl rfl rfl (do_move rfl ?_)
    refine rw_nil ?_
    refine ⟨i + 1, [0, 1, 2, 3, 4, 5, 6, 7, 8, 9], by dsimp only; omega, ⟨by omega, fun a ha' => by rcases Nat.lt_or_ge a i with q | q; exact g2 a q; have : a = i := (by omega); subst this; omega⟩, ⟨shR rfl, shR rfl, shR rfl, shR rfl, shR rfl, shR rfl, shR rfl, shR rfl, shR rfl, .inr ⟨_, rfl, .inl (congrArg (SO.ints true .i64) (by simp only [flowL]; rw [if_pos hc4]))⟩, trivial⟩, rfl, pre_ok rfl, ⟨⟨_, rfl, rfl⟩, ⟨_, rfl, rfl⟩, ⟨_, rfl, (congrArg (fun n => SV.slc 9 0 n none) ((flowL_len c f m i).trans (flowL_len c f m (i + 1)).symm)).trans rfl⟩, ⟨_, rfl, rfl⟩, ⟨_, rfl, rfl⟩, ⟨_, rfl, rfl⟩, trivial⟩⟩
  · refine w_skip ?_
    refine w_region ?_
    refine rw_t 93 rfl rfl rfl (do_add rfl rfl (by omega) ?_)
    refine rw_t 37 rfl rfl rfl (do_move rfl ?_)
    refine rw_nil ?_
    refine ⟨i + 1, [0, 1, 2, 3, 4, 5, 6, 7, 8, 9], by dsimp only; omega, ⟨by omega, fun a ha' => by rcases Nat.lt_or_ge a i with q | q; exact g2 a q; have : a = i := (by omega); subst this; omega⟩, ⟨shR rfl, shR rfl, shR rfl, shR rfl, shR rfl, shR rfl, shR rfl, shR rfl, shR rfl, .inr ⟨_, rfl, .inl (congrArg (SO.ints true .i64) (by simp only [flowL]; rw [if_neg (by rw [hc4]; decide)]))⟩, trivial⟩, rfl, pre_ok rfl, ⟨⟨_, rfl, rfl⟩, ⟨_, rfl, rfl⟩, ⟨_, rfl, (congrArg (fun n => SV.slc 9 0 n none) ((flowL_len c f m i).trans (flowL_len c f m (i + 1)).symm)).trans rfl⟩, ⟨_, rfl, rfl⟩, ⟨_, rfl, rfl⟩, ⟨_, rfl, rfl⟩, trivial⟩⟩
end Go.Proofs.P7

set_option linter.unusedVariables false
set_option linter.unusedSimpArgs false
namespace Go.Proofs.P7
open Go Go.Sx Go.RowKit
def ArcIn (c : Csr) : Prop := ∀ k : Nat, k < c.Arc.length → 0 ≤ c.Arc.getD k 0 ∧ c.Arc.getD k 0 < 16384
def topK (c : Csr) : Nat → Int
  | 0 => 0
  | k + 1 => if c.Arc.getD k 0 + 1 > topK c k then c.Arc.getD k 0 + 1 else topK c k
def topA (c : Csr) : Int := topK c c.Arc.length
theorem topK_in {c : Csr} (h : ArcIn c) : ∀ k, k ≤ c.Arc.length → (0 ≤ topK c k ∧ topK c k ≤ 16384) ∧ ∀ j, j < k → c.Arc.getD j 0 < topK c k
  | 0, _ => ⟨by simp [topK], fun j hj => by omega⟩
  | k + 1, hk => by
    obtain ⟨i1, i2⟩ := topK_in h k (by omega)
    have h1 := h k (by omega)
    unfold topK
    split
    · refine ⟨by omega, fun j hj => ?_⟩
      rcases Nat.lt_or_ge j k with q | q
      · have := i2 j q; omega
      · have : j = k := by omega
        subst this; omega
    · refine ⟨i1, fun j hj => ?_⟩
      rcases Nat.lt_or_ge j k with q | q
      · exact i2 j q
      · have : j = k := by omega
        subst this; omega
/-- The excesses that a flow says, arc by arc. -/
def bK (c : Csr) (f : List Int) : Nat → List Int
  | 0 => List.replicate c.N.toNat 0
  | k + 1 => if c.Back.getD k false = true then bK c f k else subAt (addAt (bK c f k) (c.Head.getD k 0) (f.getD (c.Arc.getD k 0).toNat 0)) (c.Head.getD (c.Rev.getD k 0).toNat 0) (f.getD (c.Arc.getD k 0).toNat 0)
theorem bK_len (c : Csr) (f : List Int) : ∀ k, (bK c f k).length = c.N.toNat
  | 0 => by simp [bK]
  | k + 1 => by
    unfold bK
    split
    · exact bK_len c f k
    · simp only [subAt, addAt, List.length_set]; exact bK_len c f k
theorem getD_set_le (l : List Int) (i j : Nat) (x : Int) : (l.set i x).getD j 0 = x ∨ (l.set i x).getD j 0 = l.getD j 0 := by
  simp only [List.getD, List.getElem?_set]
  split
  · split
    · exact .inl rfl
    · rename_i h1 h2; right; rw [List.getElem?_eq_none (by omega)]
  · exact .inr rfl
theorem bK_in {c : Csr} {f : List Int} (hf : ∀ j, 0 ≤ f.getD j 0 ∧ f.getD j 0 ≤ 1125899906842624) : ∀ (k v : Nat), -(k * 2251799813685248 : Int) ≤ (bK c f k).getD v 0 ∧ (bK c f k).getD v 0 ≤ k * 2251799813685248
  | 0, v => by
    have : (bK c f 0).getD v 0 = 0 := by
      simp only [bK, List.getD, List.getElem?_replicate]
      split <;> rfl
    rw [this]; omega
  | k + 1, v => by
    have h0 := hf (c.Arc.getD k 0).toNat
    have i1 := bK_in (c := c) hf k v
    have i2 := bK_in (c := c) hf k (c.Head.getD k 0).toNat
    have i3 := bK_in (c := c) hf k (c.Head.getD (c.Rev.getD k 0).toNat 0).toNat
    unfold bK
    split
    · omega
    · unfold subAt addAt
      rcases getD_set_le (bK c f k) (c.Head.getD k 0).toNat (c.Head.getD (c.Rev.getD k 0).toNat 0).toNat ((bK c f k).getD (c.Head.getD k 0).toNat 0 + f.getD (c.Arc.getD k 0).toNat 0) with e1 | e1 <;>
      rcases getD_set_le ((bK c f k).set (c.Head.getD k 0).toNat ((bK c f k).getD (c.Head.getD k 0).toNat 0 + f.getD (c.Arc.getD k 0).toNat 0)) (c.Head.getD (c.Rev.getD k 0).toNat 0).toNat v (((bK c f k).set (c.Head.getD k 0).toNat ((bK c f k).getD (c.Head.getD k 0).toNat 0 + f.getD (c.Arc.getD k 0).toNat 0)).getD (c.Head.getD (c.Rev.getD k 0).toNat 0).toNat 0 - f.getD (c.Arc.getD k 0).toNat 0) with e2 | e2 <;>
      rcases getD_set_le (bK c f k) (c.Head.getD k 0).toNat v ((bK c f k).getD (c.Head.getD k 0).toNat 0 + f.getD (c.Arc.getD k 0).toNat 0) with e3 | e3 <;>
      rw [e2] <;> (try rw [e1]) <;> (try rw [e3]) <;> omega
theorem flowL_in {c : Csr} {f : List Int} {m M : Int} (hM : 0 ≤ M) (hf : ∀ j, j < c.Head.length → 0 ≤ f.getD j 0 ∧ f.getD j 0 ≤ M) : ∀ k, k ≤ c.Head.length → ∀ j, 0 ≤ (flowL c f m k).getD j 0 ∧ (flowL c f m k).getD j 0 ≤ M
  | 0, _, j => by
    have : (flowL c f m 0).getD j 0 = 0 := by
      simp only [flowL, List.getD, List.getElem?_replicate]
      split <;> rfl
    rw [this]; omega
  | k + 1, hk, j => by
    have i1 := flowL_in (m := m) hM hf k (by omega) j
    have h1 := hf k (by omega)
    unfold flowL
    split
    · rcases getD_set_le (flowL c f m k) (c.Arc.getD k 0).toNat j (f.getD k 0) with e | e <;> rw [e] <;> omega
    · exact i1
def broR (c : Csr) (res : List Int) : List Int × Bool :=
  if res.length = c.Head.length ∧ pairsP c res then (bK c (flowR c res (topA c)).1 c.Back.length, true) else ([], false)
set_option maxHeartbeats 8000000 in
set_option synthInstance.maxHeartbeats 400000 in
set_option synthInstance.maxSize 2000 in
theorem t_brought (c : Csr) (f : List Int) (h : CsrT c) (ho : CapOne c) (hai : ArcIn c) : Tri Try.prog 49 [.agg [.val (.int .i64 c.N), .val (.int .i64 c.S), .val (.int .i64 c.T), .slc 0 0 c.First.length none, .slc 1 0 c.Head.length none, .slc 2 0 c.Rev.length none, .slc 3 0 c.Cap.length none, .slc 4 0 c.Arc.length none, .slc 5 0 c.Back.length none], .slc 6 0 f.length none] [SO.ints false .i64 c.First, SO.ints false .i64 c.Head, SO.ints false .i64 c.Rev, SO.ints false .i64 c.Cap, SO.ints false .i64 c.Arc, SO.bools false c.Back, SO.ints false .i64 f] (fun s H => s = .tup [.slc 7 0 ((broR c f).1.length) none, .val (.bool ((broR c f).2))] ∧ H = [SO.ints false .i64 c.First, SO.ints false .i64 c.Head, SO.ints false .i64 c.Rev, SO.ints false .i64 c.Cap, SO.ints false .i64 c.Arc, SO.bools false c.Back, SO.ints false .i64 f, SO.ints true .i64 ((broR c f).1)]) := by
  refine tri_of_w (fn := Try.f49) Try.func49 rfl (by simp [Try.f49]) ?_
  intro ρ w hρ
  refine w_seq ?_
  have hn := h.n
  have hf := h.first
  have hhd := h.head
  have hrl := h.rev
  have hcl := h.cap
  have hal := h.arc
  have hbl := h.back
  have hsm := h.small
  refine w_region ?_
  refine rw_t 2 rfl rfl rfl (n_box_agg (n := 7) rfl rfl ?_)
  refine rw_t 4 rfl rfl rfl (do_assign rfl ?_)
  refine rw_t 5 rfl rfl rfl (do_assign rfl ?_)
  refine rw_nil ?_
  refine w_seq ?_
  refine w_region ?_
  refine rw_t 6 rfl rfl rfl (do_assign rfl ?_)
  refine rw_nil ?_
  refine w_seq ?_
  refine w_seq ?_
  refine w_region ?_
  refine rw_t 14 rfl rfl rfl (do_fieldaddr rfl ?_)
  refine rw_t 15 rfl rfl rfl (do_load_box rfl rfl rfl ?_)
  refine rw_t 16 rfl rfl rfl (do_len rfl ?_)
  refine rw_t 17 rfl rfl rfl (do_move rfl ?_)
  refine rw_nil ?_
  refine w_block ?_
  refine w_loopS (ι := Nat) (fun i => [(1, .slc 6 0 f.length none), (2, .ptr 7 0 0), (4, .val (.slice none 0 0)), (5, .val (.bool false)), (6, .val (.int .i64 (topK c i))), (15, .slc 4 0 c.Arc.length none), (16, .val (.int .i64 ((c.Arc.length : Nat) : Int))), (17, .val (.int .i64 ((i : Nat) : Int)))]) (fun i => [SO.ints false .i64 c.First, SO.ints false .i64 c.Head, SO.ints false .i64 c.Rev, SO.ints false .i64 c.Cap, SO.ints false .i64 c.Arc, SO.bools false c.Back, SO.ints false .i64 f, .box [.val (.int .i64 c.N), .val (.int .i64 c.S), .val (.int .i64 c.T), .slc 0 0 c.First.length none, .slc 1 0 c.Head.length none, .slc 2 0 c.Rev.length none, .slc 3 0 c.Cap.length none, .slc 4 0 c.Arc.length none, .slc 5 0 c.Back.length none]]) (fun i => c.Arc.length - i) (fun i => i ≤ c.Arc.length) (0) [0, 1, 2, 3, 4, 5, 6, 7] (by simp) ⟨shR rfl, shR rfl, shR rfl, shR rfl, shR rfl, shR rfl, shR rfl, shR rfl, trivial⟩ rfl (pre_ok rfl) hρ ⟨⟨_, rfl, rfl⟩, ⟨_, rfl, rfl⟩, ⟨_, rfl, rfl⟩, ⟨_, rfl, rfl⟩, ⟨_, rfl, rfl⟩, ⟨_, rfl, rfl⟩, ⟨_, rfl, rfl⟩, ⟨_, rfl, rfl⟩, trivial⟩ ?_
  intro i hi
  refine w_seq ?_
  refine w_region ?_
  refine rw_t 18 rfl rfl rfl (do_bin rfl rfl rfl ?_)
  refine rw_nil ?_
  refine w_seq ?_
  refine w_cond rfl (fun hc1 => ?_) (fun hc1 => ?_)
  all_goals try simp only [bs] at hc1
  rotate_left
  · refine w_exit ?_
    refine w_seq ?_
    have hil : i = c.Arc.length := by omega
    subst hil
    obtain ⟨ht1, ht2⟩ := topK_in hai c.Arc.length (Nat.le_refl _)
    refine w_region ?_
    refine rw_t 27 rfl rfl rfl (n_load_boxagg [_, _, _, _, _, _, _, _, _] rfl rfl (Nat.le_of_ble_eq_true rfl) rfl ?_)
    refine rw_t 28 rfl rfl rfl (do_move rfl ?_)
    refine rw_t 29 rfl rfl rfl (do_move rfl ?_)
    refine rw_t 30 rfl rfl rfl (n_callN (X' := .tup [.slc 8 0 ((flowR c f (topA c)).1.length) none, .val (.int .i64 ((flowR c f (topA c)).2))]) (N' := [SO.ints true .i64 ((flowR c f (topA c)).1)]) rfl rfl (t_Flow (c := c) (f := f) (m := (topA c)) (h) (ho) (ht1) (fun k hk => ⟨(hai k hk).1, ht2 k hk⟩)) [0, 1, 2, 3, 4, 5, 6] ⟨.inr ⟨_, rfl, srv⟩, .inr ⟨_, rfl, srv⟩, .inr ⟨_, rfl, srv⟩, .inr ⟨_, rfl, srv⟩, .inr ⟨_, rfl, srv⟩, .inr ⟨_, rfl, srv⟩, .inr ⟨_, rfl, srv⟩, trivial⟩ rfl rfl rfl rfl rfl ?_)
    refine rw_t 26 rfl rfl rfl (do_move rfl ?_)
    refine rw_t 31 rfl rfl rfl (do_extract rfl rfl ?_)
    refine rw_t 32 rfl rfl rfl (do_extract rfl rfl ?_)
    refine rw_t 9 rfl rfl rfl (do_assign rfl ?_)
    refine rw_t 10 rfl rfl rfl (do_assign rfl ?_)
    refine rw_nil ?_
    refine w_seq ?_
    refine w_seq ?_
    refine w_region ?_
    refine rw_t 33 rfl rfl rfl (do_move rfl ?_)
    refine rw_t 34 rfl rfl rfl (do_bin rfl rfl rfl ?_)
    refine rw_nil ?_
    refine w_cond rfl (fun hc2 => ?_) (fun hc2 => ?_)
    all_goals try simp only [bs] at hc2
    · refine w_seq ?_
      refine w_region ?_
      refine rw_t 4 rfl rfl rfl (do_assign rfl ?_)
      refine rw_t 5 rfl rfl rfl (do_assign rfl ?_)
      refine rw_nil ?_
      have hno : ¬ (f.length = c.Head.length ∧ pairsP c f) := fun q => hc2 (by unfold flowR; rw [if_pos q.1, if_pos q.2])
      have e1 : broR c f = ([], false) := by unfold broR; rw [if_neg hno]
      refine n_ghost Int 1 (encI .i64) 0 (fun _ => rfl) (fun _ _ h => by simp [encI] at h; subst h; rfl) ?_
      refine w_nilE 4 9 0 rfl ?_
      refine w_ret ?_
      exact ret_eq (.inl rfl) (.cons (res_tmp rfl) (.cons (res_tmp rfl) .nil)) [0, 1, 2, 3, 4, 5, 6, 9] (by rw [e1]; rfl) ⟨shR rfl, shR rfl, shR rfl, shR rfl, shR rfl, shR rfl, shR rfl, .inr ⟨_, rfl, .inl (congrArg (SO.ints true .i64) (by rw [e1]; try rfl))⟩, trivial⟩ rfl (pre_ok rfl)
    refine w_skip ?_
    refine w_seq ?_
    have hfo : f.length = c.Head.length ∧ pairsP c f := by
      by_cases q1 : f.length = c.Head.length
      · by_cases q2 : pairsP c f
        · exact ⟨q1, q2⟩
        · exfalso; unfold flowR at hc2; rw [if_pos q1, if_neg q2] at hc2; simp at hc2
      · exfalso; unfold flowR at hc2; rw [if_neg q1] at hc2; simp at hc2
    have hFe : (flowR c f (topA c)).1 = flowL c f (topA c) c.Head.length := by unfold flowR; rw [if_pos hfo.1, if_pos hfo.2]
    have hFl : (flowR c f (topA c)).1.length = (topA c).toNat := by rw [hFe]; exact flowL_len _ _ _ _
    have hFi : ∀ j, 0 ≤ (flowR c f (topA c)).1.getD j 0 ∧ (flowR c f (topA c)).1.getD j 0 ≤ 1125899906842624 := by rw [hFe]; exact flowL_in (by omega) (fun j hj => by have := hfo.2 j hj; have := h.capv j hj; omega) _ (Nat.le_refl _)
    refine w_region ?_
    refine rw_t 35 rfl rfl rfl (do_fieldaddr rfl ?_)
    refine rw_t 36 rfl rfl rfl (do_load_box rfl rfl rfl ?_)
    refine rw_t 37 rfl rfl rfl (n_make (nm := 9) Int (encI .i64) 0 rfl rfl rfl (fun _ => rfl) (fun _ _ h => by simp [encI] at h; subst h; rfl) (by omega) (by omega) (by omega) rfl ?_)
    refine rw_cap 37 rfl ?_
    refine rw_t 11 rfl rfl rfl (do_assign rfl ?_)
    refine rw_nil ?_
    refine w_seq ?_
    refine w_seq ?_
    refine w_region ?_
    refine rw_t 38 rfl rfl rfl (do_fieldaddr rfl ?_)
    refine rw_t 39 rfl rfl rfl (do_load_box rfl rfl rfl ?_)
    refine rw_t 40 rfl rfl rfl (do_len rfl ?_)
    refine rw_t 41 rfl rfl rfl (do_move rfl ?_)
    refine rw_nil ?_
    refine w_block ?_
    refine w_loopS (ι := Nat) (fun j => [(2, .ptr 7 0 0), (4, .val (.slice none 0 0)), (5, .val (.bool false)), (9, .slc 8 0 ((flowR c f (topA c)).1.length) none), (11, .slc 9 0 ((bK c (flowR c f (topA c)).1 j).length) none), (39, .slc 5 0 c.Back.length none), (40, .val (.int .i64 ((c.Back.length : Nat) : Int))), (41, .val (.int .i64 ((j : Nat) : Int)))]) (fun j => [SO.ints false .i64 c.First, SO.ints false .i64 c.Head, SO.ints false .i64 c.Rev, SO.ints false .i64 c.Cap, SO.ints false .i64 c.Arc, SO.bools false c.Back, SO.ints false .i64 f, .box [.val (.int .i64 c.N), .val (.int .i64 c.S), .val (.int .i64 c.T), .slc 0 0 c.First.length none, .slc 1 0 c.Head.length none, .slc 2 0 c.Rev.length none, .slc 3 0 c.Cap.length none, .slc 4 0 c.Arc.length none, .slc 5 0 c.Back.length none], SO.ints true .i64 ((flowR c f (topA c)).1), SO.ints true .i64 (bK c (flowR c f (topA c)).1 j)]) (fun j => c.Back.length - j) (fun j => j ≤ c.Back.length) (0) [0, 1, 2, 3, 4, 5, 6, 7, 8, 9] (by simp) ⟨shR rfl, shR rfl, shR rfl, shR rfl, shR rfl, shR rfl, shR rfl, shR rfl, shR rfl, shR rfl, trivial⟩ rfl (pre_ok rfl) hρ ⟨⟨_, rfl, rfl⟩, ⟨_, rfl, rfl⟩, ⟨_, rfl, rfl⟩, ⟨_, rfl, rfl⟩, ⟨_, rfl, congrArg (fun n => SV.slc 9 0 n none) (by simp [bK])⟩, ⟨_, rfl, rfl⟩, ⟨_, rfl, rfl⟩, ⟨_, rfl, rfl⟩, trivial⟩ ?_
    intro j hj
    refine w_seq ?_
    refine w_region ?_
    refine rw_t 42 rfl rfl rfl (do_bin rfl rfl rfl ?_)
    refine rw_nil ?_
    refine w_seq ?_
    refine w_cond rfl (fun hc3 => ?_) (fun hc3 => ?_)
    all_goals try simp only [bs] at hc3
    rotate_left
    · refine w_exit ?_
      refine w_seq ?_
      refine w_region ?_
      refine rw_t 89 rfl rfl rfl (do_move rfl ?_)
      refine rw_t 4 rfl rfl rfl (do_assign rfl ?_)
      refine rw_t 5 rfl rfl rfl (do_assign rfl ?_)
      refine rw_nil ?_
      have hj' : j = c.Back.length := by omega
      subst hj'
      have e1 : broR c f = (bK c (flowR c f (topA c)).1 c.Back.length, true) := by unfold broR; rw [if_pos hfo]
      refine w_ret ?_
      exact ret_eq (.inl rfl) (.cons (res_tmp rfl) (.cons (res_tmp rfl) .nil)) [0, 1, 2, 3, 4, 5, 6, 9] (by rw [e1]; rfl) ⟨shR rfl, shR rfl, shR rfl, shR rfl, shR rfl, shR rfl, shR rfl, .inr ⟨_, rfl, .inl (congrArg (SO.ints true .i64) (by rw [e1]; try rfl))⟩, trivial⟩ rfl (pre_ok rfl)
    refine w_skip ?_
    refine w_seq ?_
    refine w_block ?_
    refine w_seq ?_
    refine w_region ?_
    refine rw_t 43 rfl rfl rfl (do_move rfl ?_)
    refine rw_t 44 rfl rfl rfl (do_ixn rfl rfl rfl (by first | omega | (simp only [ls] <;> omega)) ?_)
    refine rw_t 45 rfl rfl rfl (do_load_arr rfl rfl (by first | omega | (simp only [ls] <;> omega)) rfl ?_)
    refine rw_t 12 rfl rfl rfl (do_assign rfl ?_)
    refine rw_t 13 rfl rfl rfl (do_assign rfl ?_)
    refine rw_nil ?_
    refine w_seq ?_
    refine w_region ?_
    refine rw_t 46 rfl rfl rfl (do_move rfl ?_)
    refine rw_t 47 rfl rfl rfl (do_not rfl ?_)
    refine rw_nil ?_
    refine w_cond rfl (fun hc4 => ?_) (fun hc4 => ?_)
    all_goals try simp only [bs] at hc4
    · refine w_seq ?_
      have hd1 := h.hd j (by omega)
      have hrv := h.rv j (by omega)
      have hd2 := h.hd (c.Rev.getD j 0).toNat (by omega)
      have hbl2 := bK_len c (flowR c f (topA c)).1 j
      have haj := hai j (by omega)
      have haj2 := ht2 j (by omega)
      have hFj := hFi (c.Arc.getD j 0).toNat
      have hb1 := bK_in (c := c) hFi j (c.Head.getD j 0).toNat
      have htA : topA c = topK c c.Arc.length := rfl
      refine w_draw mixed [0, 0, 2, 0, 14, 30, 63, 127, 0, 0, 512, 0, 3584, 7680, 16128, 32512] [65535, 131071, 262143] (by kernel_rfl) (by kernel_rfl) rfl rfl rfl (hle hρ rfl) ?_
      refine ra_q (j := 0) rfl rfl rfl rfl (do_move rfl ⟨rfl, rfl⟩) (by rfl) ?_
      refine ra_q (j := 1) rfl rfl rfl rfl (do_fieldaddr rfl ⟨rfl, rfl⟩) (by rfl) ?_
      refine ra_q (j := 2) rfl rfl rfl rfl (do_load_box rfl rfl rfl ⟨rfl, rfl⟩) (by rfl) ?_
      refine ra_q (j := 3) rfl rfl rfl rfl (do_move rfl ⟨rfl, rfl⟩) (by rfl) ?_
      refine ra_q (j := 4) rfl rfl rfl rfl (do_ixn rfl rfl rfl (by first | omega | (simp only [ls] <;> omega)) ⟨rfl, rfl⟩) (by rfl) ?_
      refine ra_q (j := 5) rfl rfl rfl rfl (do_load_arr rfl rfl (by first | omega | (simp only [ls] <;> omega)) rfl ⟨rfl, rfl⟩) (by rfl) ?_
      refine ra_q (j := 6) rfl rfl rfl rfl (do_ix0 rfl rfl rfl (by first | omega | (simp only [ls] <;> omega)) ⟨rfl, rfl⟩) (by rfl) ?_
      refine ra_q (j := 7) rfl rfl rfl rfl (do_load_arr rfl rfl (by first | omega | (simp only [ls] <;> omega)) rfl ⟨rfl, rfl⟩) (by rfl) ?_
      refine ra_q (j := 8) rfl rfl rfl rfl (do_move rfl ⟨rfl, rfl⟩) (by rfl) ?_
      refine ra_q (j := 9) rfl rfl rfl rfl (do_fieldaddr rfl ⟨rfl, rfl⟩) (by rfl) ?_
      refine ra_q (j := 10) rfl rfl rfl rfl (do_load_box rfl rfl rfl ⟨rfl, rfl⟩) (by rfl) ?_
      refine ra_q (j := 11) rfl rfl rfl rfl (do_move rfl ⟨rfl, rfl⟩) (by rfl) ?_
      refine ra_q (j := 12) rfl rfl rfl rfl (do_ixn rfl rfl rfl (by first | omega | (simp only [ls] <;> omega)) ⟨rfl, rfl⟩) (by rfl) ?_
      refine ra_q (j := 13) rfl rfl rfl rfl (do_load_arr rfl rfl (by first | omega | (simp only [ls] <;> omega)) rfl ⟨rfl, rfl⟩) (by rfl) ?_
      refine ra_q (j := 14) rfl rfl rfl rfl (do_ix0 rfl rfl rfl (by first | omega | (simp only [ls] <;> omega)) ⟨rfl, rfl⟩) (by rfl) ?_
      refine ra_q (j := 15) rfl rfl rfl rfl (do_load_arr rfl rfl (by first | omega | (simp only [ls] <;> omega)) rfl ⟨rfl, rfl⟩) (by rfl) ?_
      refine n_done ?_
      refine rw_t 64 rfl rfl rfl (do_add rfl rfl (by omega) ?_)
      refine rw_t 65 rfl rfl rfl (do_ix0 rfl rfl rfl (by first | omega | (simp only [ls] <;> omega)) ?_)
      refine rw_u rfl rfl (n_store_arr (z := (((bK c (flowR c f (topA c)).1 j).getD ((c.Head.getD j 0).toNat) 0) + (((flowR c f (topA c)).1).getD ((c.Arc.getD j 0).toNat) 0))) rfl rfl rfl (by first | omega | (simp only [ls] <;> omega)) rfl (by decide) rfl ?_)
      refine rw_nil ?_
      have hb2 := bK_in (c := c) hFi j (c.Head.getD (c.Rev.getD j 0).toNat 0).toNat
      have hs3 := getD_set_le (bK c (flowR c f (topA c)).1 j) (c.Head.getD j 0).toNat (c.Head.getD (c.Rev.getD j 0).toNat 0).toNat ((bK c (flowR c f (topA c)).1 j).getD (c.Head.getD j 0).toNat 0 + (flowR c f (topA c)).1.getD (c.Arc.getD j 0).toNat 0)
      refine w_draw mixed [0, 0, 2, 0, 8, 0, 56, 120, 254, 510, 1023, 2047, 0, 0, 8192, 0, 57344, 122880, 258048, 520192] [1048575, 2097151, 4194303] (by kernel_rfl) (by kernel_rfl) rfl rfl rfl (hle hρ rfl) ?_
      refine ra_q (j := 0) rfl rfl rfl rfl (do_move rfl ⟨rfl, rfl⟩) (by rfl) ?_
      refine ra_q (j := 1) rfl rfl rfl rfl (do_fieldaddr rfl ⟨rfl, rfl⟩) (by rfl) ?_
      refine ra_q (j := 2) rfl rfl rfl rfl (do_load_box rfl rfl rfl ⟨rfl, rfl⟩) (by rfl) ?_
      refine ra_q (j := 3) rfl rfl rfl rfl (do_fieldaddr rfl ⟨rfl, rfl⟩) (by rfl) ?_
      refine ra_q (j := 4) rfl rfl rfl rfl (do_load_box rfl rfl rfl ⟨rfl, rfl⟩) (by rfl) ?_
      refine ra_q (j := 5) rfl rfl rfl rfl (do_move rfl ⟨rfl, rfl⟩) (by rfl) ?_
      refine ra_q (j := 6) rfl rfl rfl rfl (do_ixn rfl rfl rfl (by first | omega | (simp only [ls] <;> omega)) ⟨rfl, rfl⟩) (by rfl) ?_
      refine ra_q (j := 7) rfl rfl rfl rfl (do_load_arr rfl rfl (by first | omega | (simp only [ls] <;> omega)) rfl ⟨rfl, rfl⟩) (by rfl) ?_
      refine ra_q (j := 8) rfl rfl rfl rfl (do_ix0 rfl rfl rfl (by first | omega | (simp only [ls] <;> omega)) ⟨rfl, rfl⟩) (by rfl) ?_
      refine ra_q (j := 9) rfl rfl rfl rfl (do_load_arr rfl rfl (by first | omega | (simp only [ls] <;> omega)) rfl ⟨rfl, rfl⟩) (by rfl) ?_
      refine ra_q (j := 10) rfl rfl rfl rfl (do_ix0 rfl rfl rfl (by first | omega | (simp only [ls] <;> omega)) ⟨rfl, rfl⟩) (by rfl) ?_
      refine ra_q (j := 11) rfl rfl rfl rfl (do_load_arr rfl rfl (by first | omega | (simp only [ls] <;> omega)) rfl ⟨rfl, rfl⟩) (by rfl) ?_
      refine ra_q (j := 12) rfl rfl rfl rfl (do_move rfl ⟨rfl, rfl⟩) (by rfl) ?_
      refine ra_q (j := 13) rfl rfl rfl rfl (do_fieldaddr rfl ⟨rfl, rfl⟩) (by rfl) ?_
      refine ra_q (j := 14) rfl rfl rfl rfl (do_load_box rfl rfl rfl ⟨rfl, rfl⟩) (by rfl) ?_
      refine ra_q (j := 15) rfl rfl rfl rfl (do_move rfl ⟨rfl, rfl⟩) (by rfl) ?_
      refine ra_q (j := 16) rfl rfl rfl rfl (do_ixn rfl rfl rfl (by first | omega | (simp only [ls] <;> omega)) ⟨rfl, rfl⟩) (by rfl) ?_
      refine ra_q (j := 17) rfl rfl rfl rfl (do_load_arr rfl rfl (by first | omega | (simp only [ls] <;> omega)) rfl ⟨rfl, rfl⟩) (by rfl) ?_
      refine ra_q (j := 18) rfl rfl rfl rfl (do_ix0 rfl rfl rfl (by first | omega | (simp only [ls] <;> omega)) ⟨rfl, rfl⟩) (by rfl) ?_
      refine ra_q (j := 19) rfl rfl rfl rfl (do_load_arr rfl rfl (by first | omega | (simp only [ls] <;> omega)) rfl ⟨rfl, rfl⟩) (by rfl) ?_
      refine n_done ?_
      refine rw_t 86 rfl rfl rfl (do_sub rfl rfl (by omega) ?_)
      refine rw_t 87 rfl rfl rfl (do_ix0 rfl rfl rfl (by first | omega | (simp only [ls] <;> omega)) ?_)
      refine rw_u rfl rfl (n_store_arr (z := ((((bK c (flowR c f (topA c)).1 j).set ((c.Head.getD j 0).toNat) (((bK c (flowR c f (topA c)).1 j).getD ((c.Head.getD j 0).toNat) 0) + (((flowR c f (topA c)).1).getD ((c.Arc.getD j 0).toNat) 0))).getD ((c.Head.getD ((c.Rev.getD j 0).toNat) 0).toNat) 0) - (((flowR c f (topA c)).1).getD ((c.Arc.getD j 0).toNat) 0))) rfl rfl rfl (by first | omega | (simp only [ls] <;> omega)) rfl (by decide) rfl ?_)
      refine rw_nil ?_
      refine w_region ?_
      refine rw_t 88 rfl rfl rfl (do_add rfl rfl (by omega) ?_)
      refine rw_t 41 rfl rfl rfl (do_move rfl ?_)
      refine rw_nil ?_
      refine ⟨j + 1, [0, 1, 2, 3, 4, 5, 6, 7, 8, 9], by dsimp only; omega, by omega, ⟨shR rfl, shR rfl, shR rfl, shR rfl, shR rfl, shR rfl, shR rfl, shR rfl, shR rfl, .inr ⟨_, rfl, .inl (congrArg (SO.ints true .i64) (by simp only [bK]; rw [if_neg (by rw [hc4]; decide)]; rfl))⟩, trivial⟩, rfl, pre_ok rfl, ⟨⟨_, rfl, rfl⟩, ⟨_, rfl, rfl⟩, ⟨_, rfl, rfl⟩, ⟨_, rfl, rfl⟩, ⟨_, rfl, (congrArg (fun n => SV.slc 9 0 n none) ((bK_len c (flowR c f (topA c)).1 j).trans (bK_len c (flowR c f (topA c)).1 (j + 1)).symm)).trans rfl⟩, ⟨_, rfl, rfl⟩, ⟨_, rfl, rfl⟩, ⟨_, rfl, rfl⟩, trivial⟩⟩
    · refine w_skip ?_
      refine w_region ?_
      refine rw_t 88 rfl rfl rfl (do_add rfl rfl (by omega) ?_)
      refine rw_t 41 rfl rfl rfl (do_move rfl ?_)
      refine rw_nil ?_
      refine ⟨j + 1, [0, 1, 2, 3, 4, 5, 6, 7, 8, 9], by dsimp only; omega, by omega, ⟨shR rfl, shR rfl, shR rfl, shR rfl, shR rfl, shR rfl, shR rfl, shR rfl, shR rfl, .inr ⟨_, rfl, .inl (congrArg (SO.ints true .i64) (by simp only [bK]; rw [if_pos hc4]))⟩, trivial⟩, rfl, pre_ok rfl, ⟨⟨_, rfl, rfl⟩, ⟨_, rfl, rfl⟩, ⟨_, rfl, rfl⟩, ⟨_, rfl, rfl⟩, ⟨_, rfl, (congrArg (fun n => SV.slc 9 0 n none) ((bK_len c (flowR c f (topA c)).1 j).trans (bK_len c (flowR c f (topA c)).1 (j + 1)).symm)).trans rfl⟩, ⟨_, rfl, rfl⟩, ⟨_, rfl, rfl⟩, ⟨_, rfl, rfl⟩, trivial⟩⟩
  refine w_skip ?_
  refine w_seq ?_
  refine w_block ?_
  refine w_seq ?_
  refine w_region ?_
  refine rw_t 19 rfl rfl rfl (do_ixn rfl rfl rfl (by first | omega | (simp only [ls] <;> omega)) ?_)
  refine rw_t 20 rfl rfl rfl (do_load_arr rfl rfl (by first | omega | (simp only [ls] <;> omega)) rfl ?_)
  refine rw_t 8 rfl rfl rfl (do_assign rfl ?_)
  refine rw_nil ?_
  have hax := hai i (by omega)
  have htx := topK_in hai i (by omega)
  refine w_region ?_
  refine rw_t 21 rfl rfl rfl (do_move rfl ?_)
  refine rw_t 22 rfl rfl rfl (do_move rfl ?_)
  refine rw_t 23 rfl rfl rfl (do_add rfl rfl (by omega) ?_)
  refine rw_t 24 rfl rfl rfl (do_max rfl rfl ?_)
  refine rw_t 6 rfl rfl rfl (do_assign rfl ?_)
  refine rw_nil ?_
  refine w_region ?_
  refine rw_t 25 rfl rfl rfl (do_add rfl rfl (by omega) ?_)
  refine rw_t 17 rfl rfl rfl (do_move rfl ?_)
  refine rw_nil ?_
  refine ⟨i + 1, [0, 1, 2, 3, 4, 5, 6, 7], by dsimp only; omega, by omega, ⟨shR rfl, shR rfl, shR rfl, shR rfl, shR rfl, shR rfl, shR rfl, shR rfl, trivial⟩, rfl, pre_ok rfl, ⟨⟨_, rfl, rfl⟩, ⟨_, rfl, rfl⟩, ⟨_, rfl, rfl⟩, ⟨_, rfl, rfl⟩, ⟨_, rfl, rfl⟩, ⟨_, rfl, rfl⟩, ⟨_, rfl, rfl⟩, ⟨_, rfl, rfl⟩, trivial⟩⟩
end Go.Proofs.P7

set_option linter.unusedVariables false
set_option linter.unusedSimpArgs false
namespace Go.Proofs.P7
open Go Go.Sx Go.RowKit
def steepA (c : Csr) (p : Pre) (u a : Int) : Prop := p.Res.getD a.toNat 0 > 0 ∧ p.H.getD u.toNat 0 > p.H.getD (c.Head.getD a.toNat 0).toNat 0 + 1
instance (c : Csr) (p : Pre) (u a : Int) : Decidable (steepA c p u a) := by unfold steepA; infer_instance
def goodU (c : Csr) (p : Pre) (u : Int) : Prop := ¬ (u ≠ c.S ∧ p.Ex.getD u.toNat 0 < 0) ∧ ∀ j : Nat, j < manyOf c u → ¬ steepA c p u (c.First.getD u.toNat 0 + j)
instance (c : Csr) (p : Pre) (u : Int) : Decidable (goodU c p u) := by unfold goodU; infer_instance
/-- P7.1: a state that may be, as the program looks at it. -/
def preR (c : Csr) (p : Pre) : Prop := (((broR c p.Res).2 = true ∧ (broR c p.Res).1 = p.Ex) ∧ heiP c p.H) ∧ ∀ u : Nat, u < c.N.toNat → goodU c p u
instance (c : Csr) (p : Pre) : Decidable (preR c p) := by unfold preR; infer_instance
theorem broR_len (c : Csr) (res : List Int) : (broR c res).1.length ≤ c.N.toNat := by
  unfold broR; split
  · exact Nat.le_of_eq (bK_len _ _ _)
  · simp
theorem broR_ok {c : Csr} {res : List Int} (h : (broR c res).2 = true) : (res.length = c.Head.length ∧ pairsP c res) ∧ (broR c res).1.length = c.N.toNat := by
  unfold broR at h ⊢
  split at h
  · rename_i q; rw [if_pos q]; exact ⟨q, bK_len _ _ _⟩
  · cases h
set_option maxHeartbeats 8000000 in
set_option synthInstance.maxHeartbeats 400000 in
set_option synthInstance.maxSize 2000 in
theorem t_Right (c : Csr) (p : Pre) (h : CsrT c) (ho : CapOne c) (hai : ArcIn c) : Tri Try.prog 24 [.agg [.val (.int .i64 c.N), .val (.int .i64 c.S), .val (.int .i64 c.T), .slc 0 0 c.First.length none, .slc 1 0 c.Head.length none, .slc 2 0 c.Rev.length none, .slc 3 0 c.Cap.length none, .slc 4 0 c.Arc.length none, .slc 5 0 c.Back.length none], .agg [.slc 6 0 p.Res.length none, .slc 7 0 p.Ex.length none, .slc 8 0 p.H.length none]] [SO.ints false .i64 c.First, SO.ints false .i64 c.Head, SO.ints false .i64 c.Rev, SO.ints false .i64 c.Cap, SO.ints false .i64 c.Arc, SO.bools false c.Back, SO.ints false .i64 p.Res, SO.ints false .i64 p.Ex, SO.ints false .i64 p.H] (fun s H => s = .val (.bool (decide (preR c p))) ∧ H = [SO.ints false .i64 c.First, SO.ints false .i64 c.Head, SO.ints false .i64 c.Rev, SO.ints false .i64 c.Cap, SO.ints false .i64 c.Arc, SO.bools false c.Back, SO.ints false .i64 p.Res, SO.ints false .i64 p.Ex, SO.ints false .i64 p.H]) := by
  refine tri_of_w (fn := Try.f24) Try.func24 rfl (by simp [Try.f24]) ?_
  intro ρ w hρ
  refine w_seq ?_
  have hn := h.n
  have hf := h.first
  have hhd := h.head
  have hrl := h.rev
  have hcl := h.cap
  have hal := h.arc
  have hbl := h.back
  have hsm := h.small
  have hS := h.s
  have hT := h.t
  refine w_region ?_
  refine rw_t 2 rfl rfl rfl (n_box_agg (n := 9) rfl rfl ?_)
  refine rw_t 3 rfl rfl rfl (n_box_agg (n := 10) rfl rfl ?_)
  refine rw_t 4 rfl rfl rfl (n_alloc (n := 11) rfl ?_)
  refine rw_nil ?_
  refine w_seq ?_
  refine w_region ?_
  refine rw_t 10 rfl rfl rfl (n_load_boxagg [_, _, _, _, _, _, _, _, _] rfl rfl (Nat.le_of_ble_eq_true rfl) rfl ?_)
  refine rw_t 11 rfl rfl rfl (do_fieldaddr rfl ?_)
  refine rw_t 12 rfl rfl rfl (do_load_box rfl rfl rfl ?_)
  refine rw_t 13 rfl rfl rfl (n_callN (X' := .tup [.slc 12 0 ((broR c p.Res).1.length) none, .val (.bool ((broR c p.Res).2))]) (N' := [SO.ints true .i64 ((broR c p.Res).1)]) rfl rfl (t_brought (c := c) (f := p.Res) (h) (ho) (hai)) [0, 1, 2, 3, 4, 5, 6] ⟨.inr ⟨_, rfl, srv⟩, .inr ⟨_, rfl, srv⟩, .inr ⟨_, rfl, srv⟩, .inr ⟨_, rfl, srv⟩, .inr ⟨_, rfl, srv⟩, .inr ⟨_, rfl, srv⟩, .inr ⟨_, rfl, srv⟩, trivial⟩ rfl rfl rfl rfl rfl ?_)
  refine rw_t 9 rfl rfl rfl (do_move rfl ?_)
  refine rw_t 14 rfl rfl rfl (do_extract rfl rfl ?_)
  refine rw_t 15 rfl rfl rfl (do_extract rfl rfl ?_)
  refine rw_t 5 rfl rfl rfl (do_assign rfl ?_)
  refine rw_t 6 rfl rfl rfl (do_assign rfl ?_)
  refine rw_nil ?_
  refine w_seq ?_
  have hbl1 := broR_len c p.Res
  refine w_seqB 31 (((¬ (((broR c p.Res).2) = true) ∨ ¬ (((broR c p.Res).1) = p.Ex)) ∨ ¬ (heiP c p.H))) ?_ ?_
  · -- region 2
    refine w_region ?_
    refine rw_t 16 rfl rfl rfl (do_move rfl ?_)
    refine rw_t 17 rfl rfl rfl (do_not rfl ?_)
    refine rw_t 18 rfl rfl rfl (do_move rfl ?_)
    refine rw_case 18 rfl (fun g1 => ?_) (fun g1 => ?_)
    · have kg1 := g1
      try simp only [bs] at kg1
      refine rw_gf 19 2 18 false rfl rfl rfl rfl rfl rfl (by rw [g1]; decide) ?_
      refine rw_gf 20 2 18 false rfl rfl rfl rfl rfl rfl (by rw [g1]; decide) ?_
      refine rw_gf 21 2 18 false rfl rfl rfl rfl rfl rfl (by rw [g1]; decide) ?_
      refine rw_gf 22 2 18 false rfl rfl rfl rfl rfl rfl (by rw [g1]; decide) ?_
      refine rw_gf 23 2 18 false rfl rfl rfl rfl rfl rfl (by rw [g1]; decide) ?_
      refine rw_t 24 rfl rfl rfl (do_pick_t rfl g1 rfl ?_)
      refine rw_t 25 rfl rfl rfl (do_move rfl ?_)
      refine rw_gf 26 9 25 false rfl rfl rfl rfl rfl rfl (by decide) ?_
      refine rw_gf 27 9 25 false rfl rfl rfl rfl rfl rfl (by decide) ?_
      refine rw_gf 28 9 25 false rfl rfl rfl rfl rfl rfl (by decide) ?_
      refine rw_gf 29 9 25 false rfl rfl rfl rfl rfl rfl (by decide) ?_
      refine rw_gf 30 9 25 false rfl rfl rfl rfl rfl rfl (by decide) ?_
      refine rw_t 31 rfl rfl rfl (do_pick_t rfl rfl rfl ?_)
      refine rw_nil ?_
      refine ⟨rfl, ⟨_, rfl, by first | (simp; done) | (simp only [bs]; omega) | (simp [*]; done) | (simp; omega) | (constructor <;> intro h <;> simp_all <;> omega)⟩, ?_⟩
      repeat (refine ⟨⟨_, rfl, rfl⟩, ?_⟩)
      exact trivial
    · have kg1 := g1
      try simp only [bs] at kg1
      refine rw_gt 19 2 18 false rfl rfl rfl rfl rfl rfl g1 (do_move rfl ?_)
      refine rw_gt 20 2 18 false rfl rfl rfl rfl rfl rfl g1 (do_fieldaddr rfl ?_)
      refine rw_gt 21 2 18 false rfl rfl rfl rfl rfl rfl g1 (do_load_box rfl rfl rfl ?_)
      refine rw_gt 22 2 18 false rfl rfl rfl rfl rfl rfl g1 (do_callR (X' := .val (.bool (decide (((broR c p.Res).1) = p.Ex)))) rfl rfl (t_Equal (a := (broR c p.Res).1) (b := p.Ex) (by omega)) [12, 7] ⟨.inr ⟨_, rfl, srv⟩, .inr ⟨_, rfl, srv⟩, trivial⟩ rfl rfl rfl ?_)
      refine rw_gt 23 2 18 false rfl rfl rfl rfl rfl rfl g1 (do_not rfl ?_)
      refine rw_t 24 rfl rfl rfl (do_pick_f rfl g1 rfl ?_)
      refine rw_t 25 rfl rfl rfl (do_move rfl ?_)
      refine rw_case 25 rfl (fun g2 => ?_) (fun g2 => ?_)
      · have kg2 := g2
        try simp only [bs] at kg2
        refine rw_gf 26 9 25 false rfl rfl rfl rfl rfl rfl (by rw [g2]; decide) ?_
        refine rw_gf 27 9 25 false rfl rfl rfl rfl rfl rfl (by rw [g2]; decide) ?_
        refine rw_gf 28 9 25 false rfl rfl rfl rfl rfl rfl (by rw [g2]; decide) ?_
        refine rw_gf 29 9 25 false rfl rfl rfl rfl rfl rfl (by rw [g2]; decide) ?_
        refine rw_gf 30 9 25 false rfl rfl rfl rfl rfl rfl (by rw [g2]; decide) ?_
        refine rw_t 31 rfl rfl rfl (do_pick_t rfl g2 rfl ?_)
        refine rw_nil ?_
        refine ⟨rfl, ⟨_, rfl, by first | (simp; done) | (simp only [bs]; omega) | (simp [*]; done) | (simp; omega) | (constructor <;> intro h <;> simp_all <;> omega)⟩, ?_⟩
        repeat (refine ⟨⟨_, rfl, rfl⟩, ?_⟩)
        exact trivial
      · have kg2 := g2
        try simp only [bs] at kg2
        refine rw_gt 26 9 25 false rfl rfl rfl rfl rfl rfl g2 (n_load_boxagg [_, _, _, _, _, _, _, _, _] rfl rfl (Nat.le_of_ble_eq_true rfl) rfl ?_)
        refine rw_gt 27 9 25 false rfl rfl rfl rfl rfl rfl g2 (do_fieldaddr rfl ?_)
        refine rw_gt 28 9 25 false rfl rfl rfl rfl rfl rfl g2 (do_load_box rfl rfl rfl ?_)
        refine rw_gt 29 9 25 false rfl rfl rfl rfl rfl rfl g2 (do_callR (X' := .val (.bool (decide (heiP c p.H)))) rfl rfl (t_heights (c := c) (hh := p.H) (h)) [0, 1, 2, 3, 4, 5, 8] ⟨.inr ⟨_, rfl, srv⟩, .inr ⟨_, rfl, srv⟩, .inr ⟨_, rfl, srv⟩, .inr ⟨_, rfl, srv⟩, .inr ⟨_, rfl, srv⟩, .inr ⟨_, rfl, srv⟩, .inr ⟨_, rfl, srv⟩, trivial⟩ rfl rfl rfl ?_)
        refine rw_gt 30 9 25 false rfl rfl rfl rfl rfl rfl g2 (do_not rfl ?_)
        refine rw_t 31 rfl rfl rfl (do_pick_f rfl g2 rfl ?_)
        refine rw_nil ?_
        refine ⟨rfl, ⟨_, rfl, by first | (simp; done) | (simp only [bs]; omega) | (simp [*]; done) | (simp; omega) | (constructor <;> intro h <;> simp_all <;> omega)⟩, ?_⟩
        repeat (refine ⟨⟨_, rfl, rfl⟩, ?_⟩)
        exact trivial
  intro b1 hb1
  refine w_condP hb1 rfl (fun hc1 => ?_) (fun hc1 => ?_)
  · refine w_seq ?_
    refine w_region ?_
    refine rw_u rfl rfl (n_store_box (f := 0) rfl rfl rfl (Nat.le_of_ble_eq_true rfl) rfl ?_)
    refine rw_nil ?_
    refine w_ret ?_
    exact ret_eq (.inl rfl) (.cons (res_one rfl rfl rfl) .nil) [0, 1, 2, 3, 4, 5, 6, 7, 8] (Eq.symm (bool_congr (decide_eq_false (fun q => by rcases hc1 with (w | w) | w; exact w q.1.1.1; exact w q.1.1.2; exact w q.1.2)))) ⟨shR rfl, shR rfl, shR rfl, shR rfl, shR rfl, shR rfl, shR rfl, shR rfl, shR rfl, trivial⟩ rfl (pre_ok rfl)
  refine w_skip ?_
  refine w_seq ?_
  refine w_seq ?_
  have hok1 : (broR c p.Res).2 = true := Decidable.byContradiction fun q => hc1 (.inl (.inl q))
  have hok2 : (broR c p.Res).1 = p.Ex := Decidable.byContradiction fun q => hc1 (.inl (.inr q))
  have hok3 : heiP c p.H := Decidable.byContradiction fun q => hc1 (.inr q)
  obtain ⟨⟨hr, hprs⟩, hbx⟩ := broR_ok hok1
  have hx : p.Ex.length = c.N.toNat := by rw [← hok2]; exact hbx
  have hh1 := hok3.1.1.1
  have hh2 := hok3.2
  refine w_region ?_
  refine rw_t 32 rfl rfl rfl (do_fieldaddr rfl ?_)
  refine rw_t 33 rfl rfl rfl (do_load_box rfl rfl rfl ?_)
  refine rw_t 34 rfl rfl rfl (do_move rfl ?_)
  refine rw_nil ?_
  refine w_block ?_
  refine w_loopS (ι := Nat) (fun v => [(2, .ptr 9 0 0), (3, .ptr 10 0 0), (4, .ptr 11 0 0), (33, .val (.int .i64 c.N)), (34, .val (.int .i64 ((v : Nat) : Int)))]) (fun v => [SO.ints false .i64 c.First, SO.ints false .i64 c.Head, SO.ints false .i64 c.Rev, SO.ints false .i64 c.Cap, SO.ints false .i64 c.Arc, SO.bools false c.Back, SO.ints false .i64 p.Res, SO.ints false .i64 p.Ex, SO.ints false .i64 p.H, .box [.val (.int .i64 c.N), .val (.int .i64 c.S), .val (.int .i64 c.T), .slc 0 0 c.First.length none, .slc 1 0 c.Head.length none, .slc 2 0 c.Rev.length none, .slc 3 0 c.Cap.length none, .slc 4 0 c.Arc.length none, .slc 5 0 c.Back.length none], .box [.slc 6 0 p.Res.length none, .slc 7 0 p.Ex.length none, .slc 8 0 p.H.length none], .box [.val (.bool false)], SO.ints true .i64 ((broR c p.Res).1)]) (fun v => c.N.toNat - v) (fun v => v ≤ c.N.toNat ∧ ∀ u : Nat, u < v → goodU c p u) (0) [0, 1, 2, 3, 4, 5, 6, 7, 8, 9, 10, 11, 12] (⟨by simp, fun u hu => by omega⟩) ⟨shR rfl, shR rfl, shR rfl, shR rfl, shR rfl, shR rfl, shR rfl, shR rfl, shR rfl, shR rfl, shR rfl, shR rfl, shR rfl, trivial⟩ rfl (pre_ok rfl) hρ ⟨⟨_, rfl, rfl⟩, ⟨_, rfl, rfl⟩, ⟨_, rfl, rfl⟩, ⟨_, rfl, rfl⟩, ⟨_, rfl, rfl⟩, trivial⟩ ?_
  rintro v ⟨hv, hgu⟩
  refine w_seq ?_
  refine w_region ?_
  refine rw_t 35 rfl rfl rfl (do_bin rfl rfl rfl ?_)
  refine rw_nil ?_
  refine w_seq ?_
  refine w_cond rfl (fun hc2 => ?_) (fun hc2 => ?_)
  all_goals try simp only [bs] at hc2
  rotate_left
  · refine w_exit ?_
    refine w_seq ?_
    refine w_region ?_
    refine rw_u rfl rfl (n_store_box (f := 0) rfl rfl rfl (Nat.le_of_ble_eq_true rfl) rfl ?_)
    refine rw_nil ?_
    refine w_ret ?_
    exact ret_eq (.inl rfl) (.cons (res_one rfl rfl rfl) .nil) [0, 1, 2, 3, 4, 5, 6, 7, 8] (Eq.symm (bool_congr (decide_eq_true ⟨⟨⟨hok1, hok2⟩, hok3⟩, fun u hu => hgu u (by omega)⟩))) ⟨shR rfl, shR rfl, shR rfl, shR rfl, shR rfl, shR rfl, shR rfl, shR rfl, shR rfl, trivial⟩ rfl (pre_ok rfl)
  refine w_skip ?_
  refine w_seq ?_
  refine w_block ?_
  refine w_seq ?_
  refine w_region ?_
  refine rw_t 36 rfl rfl rfl (do_move rfl ?_)
  refine rw_t 7 rfl rfl rfl (n_alloc (n := 13) rfl ?_)
  refine rw_u rfl rfl (n_store_box (f := 0) rfl rfl rfl (Nat.le_of_ble_eq_true rfl) rfl ?_)
  refine rw_nil ?_
  refine w_seq ?_
  have hv1 : ((v : Nat) : Int).toNat = v := Int.toNat_natCast v
  have hv2 : (((v : Nat) : Int) + 1).toNat = v + 1 := by omega
  have hm := h.mono v (by omega)
  refine w_seqB 48 ((((v : Nat) : Int) ≠ c.S ∧ (p.Ex.getD v 0) < 0)) ?_ ?_
  · -- region 7
    refine w_region ?_
    refine rw_t 37 rfl rfl rfl (do_load_box rfl rfl rfl ?_)
    refine rw_t 38 rfl rfl rfl (do_fieldaddr rfl ?_)
    refine rw_t 39 rfl rfl rfl (do_load_box rfl rfl rfl ?_)
    refine rw_t 40 rfl rfl rfl (do_bin rfl rfl rfl ?_)
    refine rw_t 41 rfl rfl rfl (do_move rfl ?_)
    refine rw_case 41 rfl (fun g3 => ?_) (fun g3 => ?_)
    · have kg3 := g3
      try simp only [bs] at kg3
      refine rw_gt 42 4 41 true rfl rfl rfl rfl rfl rfl g3 (do_fieldaddr rfl ?_)
      refine rw_gt 43 4 41 true rfl rfl rfl rfl rfl rfl g3 (do_load_box rfl rfl rfl ?_)
      refine rw_gt 44 4 41 true rfl rfl rfl rfl rfl rfl g3 (do_load_box rfl rfl rfl ?_)
      refine rw_gt 45 4 41 true rfl rfl rfl rfl rfl rfl g3 (do_ixn rfl rfl rfl (by first | omega | (simp only [ls] <;> omega)) ?_)
      refine rw_gt 46 4 41 true rfl rfl rfl rfl rfl rfl g3 (do_load_arr rfl rfl (by first | omega | (simp only [ls] <;> omega)) rfl ?_)
      refine rw_gt 47 4 41 true rfl rfl rfl rfl rfl rfl g3 (do_bin rfl rfl rfl ?_)
      refine rw_t 48 rfl rfl rfl (do_pick_t rfl g3 rfl ?_)
      refine rw_nil ?_
      refine ⟨rfl, ⟨_, rfl, by first | (simp; done) | (simp only [bs]; omega) | (simp [*]; done) | (simp; omega) | (constructor <;> intro h <;> simp_all <;> omega)⟩, ?_⟩
      repeat (refine ⟨⟨_, rfl, rfl⟩, ?_⟩)
      exact trivial
    · have kg3 := g3
      try simp only [bs] at kg3
      refine rw_gf 42 4 41 true rfl rfl rfl rfl rfl rfl (by rw [g3]; decide) ?_
      refine rw_gf 43 4 41 true rfl rfl rfl rfl rfl rfl (by rw [g3]; decide) ?_
      refine rw_gf 44 4 41 true rfl rfl rfl rfl rfl rfl (by rw [g3]; decide) ?_
      refine rw_gf 45 4 41 true rfl rfl rfl rfl rfl rfl (by rw [g3]; decide) ?_
      refine rw_gf 46 4 41 true rfl rfl rfl rfl rfl rfl (by rw [g3]; decide) ?_
      refine rw_gf 47 4 41 true rfl rfl rfl rfl rfl rfl (by rw [g3]; decide) ?_
      refine rw_t 48 rfl rfl rfl (do_pick_f rfl g3 rfl ?_)
      refine rw_nil ?_
      refine ⟨rfl, ⟨_, rfl, by first | (simp; done) | (simp only [bs]; omega) | (simp [*]; done) | (simp; omega) | (constructor <;> intro h <;> simp_all <;> omega)⟩, ?_⟩
      repeat (refine ⟨⟨_, rfl, rfl⟩, ?_⟩)
      exact trivial
  intro b2 hb2
  refine w_condP hb2 rfl (fun hc3 => ?_) (fun hc3 => ?_)
  · refine w_seq ?_
    refine w_region ?_
    refine rw_u rfl rfl (n_store_box (f := 0) rfl rfl rfl (Nat.le_of_ble_eq_true rfl) rfl ?_)
    refine rw_nil ?_
    refine w_ret ?_
    exact ret_eq (.inl rfl) (.cons (res_one rfl rfl rfl) .nil) [0, 1, 2, 3, 4, 5, 6, 7, 8] (Eq.symm (bool_congr (decide_eq_false (fun q => (q.2 v (by omega)).1 hc3)))) ⟨shR rfl, shR rfl, shR rfl, shR rfl, shR rfl, shR rfl, shR rfl, shR rfl, shR rfl, trivial⟩ rfl (pre_ok rfl)
  refine w_skip ?_
  refine w_seq ?_
  refine w_region ?_
  refine rw_t 49 rfl rfl rfl (n_load_boxagg [_, _, _, _, _, _, _, _, _] rfl rfl (Nat.le_of_ble_eq_true rfl) rfl ?_)
  refine rw_t 50 rfl rfl rfl (do_load_box rfl rfl rfl ?_)
  refine rw_t 51 rfl rfl rfl (n_callN (X' := .func 67 [] [.ptr 14 0 0, .ptr 15 0 0]) (N' := [.box [.val (.int .i64 c.N), .val (.int .i64 c.S), .val (.int .i64 c.T), .slc 0 0 c.First.length none, .slc 1 0 c.Head.length none, .slc 2 0 c.Rev.length none, .slc 3 0 c.Cap.length none, .slc 4 0 c.Arc.length none, .slc 5 0 c.Back.length none], .box [.val (.int .i64 ((v : Nat) : Int))]]) rfl rfl (t_arcs (c := c) (u := ((v : Nat) : Int))) [0, 1, 2, 3, 4, 5] ⟨.inr ⟨_, rfl, srv⟩, .inr ⟨_, rfl, srv⟩, .inr ⟨_, rfl, srv⟩, .inr ⟨_, rfl, srv⟩, .inr ⟨_, rfl, srv⟩, .inr ⟨_, rfl, srv⟩, trivial⟩ rfl rfl rfl rfl rfl ?_)
  refine rw_nil ?_
  refine w_block ?_
  refine w_rf [(2, .ptr 9 0 0), (3, .ptr 10 0 0), (4, .ptr 11 0 0), (7, .ptr 13 0 0), (33, .val (.int .i64 c.N)), (34, .val (.int .i64 ((v : Nat) : Int))), (35, .val (.bool (decide (((v : Nat) : Int) < c.N)))), (36, .val (.int .i64 ((v : Nat) : Int))), (48, .val (.bool b2)), (49, .agg [.val (.int .i64 c.N), .val (.int .i64 c.S), .val (.int .i64 c.T), .slc 0 0 c.First.length none, .slc 1 0 c.Head.length none, .slc 2 0 c.Rev.length none, .slc 3 0 c.Cap.length none, .slc 4 0 c.Arc.length none, .slc 5 0 c.Back.length none]), (50, .val (.int .i64 ((v : Nat) : Int))), (51, .func 67 [] [.ptr 14 0 0, .ptr 15 0 0])] 16 [.yield 16, .ptr 14 0 0, .ptr 15 0 0] (fun q1 => [SO.ints false .i64 c.First, SO.ints false .i64 c.Head, SO.ints false .i64 c.Rev, SO.ints false .i64 c.Cap, SO.ints false .i64 c.Arc, SO.bools false c.Back, SO.ints false .i64 p.Res, SO.ints false .i64 p.Ex, SO.ints false .i64 p.H, .box [.val (.int .i64 c.N), .val (.int .i64 c.S), .val (.int .i64 c.T), .slc 0 0 c.First.length none, .slc 1 0 c.Head.length none, .slc 2 0 c.Rev.length none, .slc 3 0 c.Cap.length none, .slc 4 0 c.Arc.length none, .slc 5 0 c.Back.length none], .box [.slc 6 0 p.Res.length none, .slc 7 0 p.Ex.length none, .slc 8 0 p.H.length none], .box [.val (.bool false)], SO.ints true .i64 ((broR c p.Res).1), .box [.val (.int .i64 ((v : Nat) : Int))], .box [.val (.int .i64 c.N), .val (.int .i64 c.S), .val (.int .i64 c.T), .slc 0 0 c.First.length none, .slc 1 0 c.Head.length none, .slc 2 0 c.Rev.length none, .slc 3 0 c.Cap.length none, .slc 4 0 c.Arc.length none, .slc 5 0 c.Back.length none], .box [.val (.int .i64 ((v : Nat) : Int))], .gen [.ptr 9 0 0, .ptr 10 0 0, .ptr 11 0 0, .ptr 13 0 0, .val (.int .i64 c.N), .val (.int .i64 ((v : Nat) : Int)), .val (.bool (decide (((v : Nat) : Int) < c.N))), .val (.int .i64 ((v : Nat) : Int)), .val (.bool b2), .agg [.val (.int .i64 c.N), .val (.int .i64 c.S), .val (.int .i64 c.T), .slc 0 0 c.First.length none, .slc 1 0 c.Head.length none, .slc 2 0 c.Rev.length none, .slc 3 0 c.Cap.length none, .slc 4 0 c.Arc.length none, .slc 5 0 c.Back.length none], .val (.int .i64 ((v : Nat) : Int)), .func 67 [] [.ptr 14 0 0, .ptr 15 0 0]] (q1 .ready none)]) rfl rfl rfl rfl (fun _ => rfl) ⟨⟨_, rfl, rfl⟩, ⟨_, rfl, rfl⟩, ⟨_, rfl, rfl⟩, ⟨_, rfl, rfl⟩, ⟨_, rfl, rfl⟩, ⟨_, rfl, rfl⟩, ⟨_, rfl, rfl⟩, ⟨_, rfl, rfl⟩, ⟨_, rfl, rfl⟩, ⟨_, rfl, rfl⟩, ⟨_, rfl, rfl⟩, ⟨_, rfl, rfl⟩, trivial⟩ (fun q1 hq1 => ?_)
  refine tri_of_w (fn := Try.f67) Try.func67 rfl (by simp [Try.f67]) ?_
  intro ρr1 wr1 hρ1
  refine w_seq ?_
  refine w_region ?_
  refine rw_t 5 rfl rfl rfl (do_fieldaddr rfl ?_)
  refine rw_t 6 rfl rfl rfl (do_load_box rfl rfl rfl ?_)
  refine rw_t 7 rfl rfl rfl (do_load_box rfl rfl rfl ?_)
  refine rw_t 8 rfl rfl rfl (do_ix0 rfl rfl rfl (by first | omega | (simp only [ls] <;> omega)) ?_)
  refine rw_t 9 rfl rfl rfl (do_load_arr rfl rfl (by first | omega | (simp only [ls] <;> omega)) rfl ?_)
  refine rw_t 4 rfl rfl rfl (do_assign rfl ?_)
  refine rw_nil ?_
  refine w_block ?_
  refine w_loopS (ι := Nat) (fun i => [(0, .yield 16), (1, .ptr 14 0 0), (2, .ptr 15 0 0), (4, .val (.int .i64 (c.First.getD ((v : Nat) : Int).toNat 0 + (i : Int))))]) (fun i => [SO.ints false .i64 c.First, SO.ints false .i64 c.Head, SO.ints false .i64 c.Rev, SO.ints false .i64 c.Cap, SO.ints false .i64 c.Arc, SO.bools false c.Back, SO.ints false .i64 p.Res, SO.ints false .i64 p.Ex, SO.ints false .i64 p.H, .box [.val (.int .i64 c.N), .val (.int .i64 c.S), .val (.int .i64 c.T), .slc 0 0 c.First.length none, .slc 1 0 c.Head.length none, .slc 2 0 c.Rev.length none, .slc 3 0 c.Cap.length none, .slc 4 0 c.Arc.length none, .slc 5 0 c.Back.length none], .box [.slc 6 0 p.Res.length none, .slc 7 0 p.Ex.length none, .slc 8 0 p.H.length none], .box [.val (.bool false)], SO.ints true .i64 ((broR c p.Res).1), .box [.val (.int .i64 ((v : Nat) : Int))], .box [.val (.int .i64 c.N), .val (.int .i64 c.S), .val (.int .i64 c.T), .slc 0 0 c.First.length none, .slc 1 0 c.Head.length none, .slc 2 0 c.Rev.length none, .slc 3 0 c.Cap.length none, .slc 4 0 c.Arc.length none, .slc 5 0 c.Back.length none], .box [.val (.int .i64 ((v : Nat) : Int))], .gen [.ptr 9 0 0, .ptr 10 0 0, .ptr 11 0 0, .ptr 13 0 0, .val (.int .i64 c.N), .val (.int .i64 ((v : Nat) : Int)), .val (.bool (decide (((v : Nat) : Int) < c.N))), .val (.int .i64 ((v : Nat) : Int)), .val (.bool b2), .agg [.val (.int .i64 c.N), .val (.int .i64 c.S), .val (.int .i64 c.T), .slc 0 0 c.First.length none, .slc 1 0 c.Head.length none, .slc 2 0 c.Rev.length none, .slc 3 0 c.Cap.length none, .slc 4 0 c.Arc.length none, .slc 5 0 c.Back.length none], .val (.int .i64 ((v : Nat) : Int)), .func 67 [] [.ptr 14 0 0, .ptr 15 0 0]] (q1 .ready none)]) (fun i => (c.First.getD (v + 1) 0 - c.First.getD v 0).toNat - i) (fun i => i ≤ (c.First.getD (v + 1) 0 - c.First.getD v 0).toNat ∧ ∀ j : Nat, j < i → ¬ steepA c p ((v : Nat) : Int) (c.First.getD ((v : Nat) : Int).toNat 0 + j)) (0) [0, 1, 2, 3, 4, 5, 6, 7, 8, 9, 10, 11, 12, 13, 14, 15, 16] (⟨by simp, fun j hj => by omega⟩) ⟨shR rfl, shR rfl, shR rfl, shR rfl, shR rfl, shR rfl, shR rfl, shR rfl, shR rfl, shR rfl, shR rfl, shR rfl, shR rfl, shR rfl, shR rfl, shR rfl, shR rfl, trivial⟩ rfl (pre_ok rfl) hρ1 ⟨⟨_, rfl, rfl⟩, ⟨_, rfl, rfl⟩, ⟨_, rfl, rfl⟩, ⟨_, rfl, Eq.symm (val_congr (by simp))⟩, trivial⟩ ?_
  rintro i ⟨g1, g2⟩
  refine w_seq ?_
  refine w_seq ?_
  refine w_region ?_
  refine rw_t 10 rfl rfl rfl (do_move rfl ?_)
  refine rw_t 11 rfl rfl rfl (do_fieldaddr rfl ?_)
  refine rw_t 12 rfl rfl rfl (do_load_box rfl rfl rfl ?_)
  refine rw_t 13 rfl rfl rfl (do_load_box rfl rfl rfl ?_)
  refine rw_t 14 rfl rfl rfl (do_add rfl rfl (by omega) ?_)
  refine rw_t 15 rfl rfl rfl (do_ix0 rfl rfl rfl (by first | omega | (simp only [ls] <;> omega)) ?_)
  refine rw_t 16 rfl rfl rfl (do_load_arr rfl rfl (by first | omega | (simp only [ls] <;> omega)) rfl ?_)
  refine rw_t 17 rfl rfl rfl (do_bin rfl rfl rfl ?_)
  refine rw_nil ?_
  refine w_cond rfl (fun hc4 => ?_) (fun hc4 => ?_)
  all_goals try simp only [bs] at hc4
  rotate_left
  · refine w_exit ?_
    refine ret_iter (.inr rfl) rfl (Y := [SO.ints false .i64 c.First, SO.ints false .i64 c.Head, SO.ints false .i64 c.Rev, SO.ints false .i64 c.Cap, SO.ints false .i64 c.Arc, SO.bools false c.Back, SO.ints false .i64 p.Res, SO.ints false .i64 p.Ex, SO.ints false .i64 p.H, .box [.val (.int .i64 c.N), .val (.int .i64 c.S), .val (.int .i64 c.T), .slc 0 0 c.First.length none, .slc 1 0 c.Head.length none, .slc 2 0 c.Rev.length none, .slc 3 0 c.Cap.length none, .slc 4 0 c.Arc.length none, .slc 5 0 c.Back.length none], .box [.slc 6 0 p.Res.length none, .slc 7 0 p.Ex.length none, .slc 8 0 p.H.length none], .box [.val (.bool false)], SO.ints true .i64 ((broR c p.Res).1), .box [.val (.int .i64 ((v : Nat) : Int))], .box [.val (.int .i64 c.N), .val (.int .i64 c.S), .val (.int .i64 c.T), .slc 0 0 c.First.length none, .slc 1 0 c.Head.length none, .slc 2 0 c.Rev.length none, .slc 3 0 c.Cap.length none, .slc 4 0 c.Arc.length none, .slc 5 0 c.Back.length none], .box [.val (.int .i64 ((v : Nat) : Int))], .gen [.ptr 9 0 0, .ptr 10 0 0, .ptr 11 0 0, .ptr 13 0 0, .val (.int .i64 c.N), .val (.int .i64 ((v : Nat) : Int)), .val (.bool (decide (((v : Nat) : Int) < c.N))), .val (.int .i64 ((v : Nat) : Int)), .val (.bool b2), .agg [.val (.int .i64 c.N), .val (.int .i64 c.S), .val (.int .i64 c.T), .slc 0 0 c.First.length none, .slc 1 0 c.Head.length none, .slc 2 0 c.Rev.length none, .slc 3 0 c.Cap.length none, .slc 4 0 c.Arc.length none, .slc 5 0 c.Back.length none], .val (.int .i64 ((v : Nat) : Int)), .func 67 [] [.ptr 14 0 0, .ptr 15 0 0]] (q1 .ready none)]) [0, 1, 2, 3, 4, 5, 6, 7, 8, 9, 10, 11, 12, 13, 14, 15, 16] ⟨shR rfl, shR rfl, shR rfl, shR rfl, shR rfl, shR rfl, shR rfl, shR rfl, shR rfl, shR rfl, shR rfl, shR rfl, shR rfl, shR rfl, shR rfl, shR rfl, shR rfl, trivial⟩ rfl (pre_ok rfl) ?_
    refine iter_none rfl ?_
    refine w_region ?_
    refine rw_t 77 rfl rfl rfl (do_add rfl rfl (by omega) ?_)
    refine rw_t 34 rfl rfl rfl (do_move rfl ?_)
    refine rw_nil ?_
    refine ⟨v + 1, [0, 1, 2, 3, 4, 5, 6, 7, 8, 9, 10, 11, 12], by dsimp only; omega, ⟨by omega, fun u hu => by rcases Nat.lt_or_ge u v with q | q; exact hgu u q; have : u = v := (by omega); subst this; exact ⟨hc3, fun j hj => g2 j (by unfold manyOf at hj; rw [hv1, hv2] at hj; rw [hv1, hv2] at hc4; omega)⟩⟩, ⟨shR rfl, shR rfl, shR rfl, shR rfl, shR rfl, shR rfl, shR rfl, shR rfl, shR rfl, shR rfl, shR rfl, shR rfl, shR rfl, trivial⟩, rfl, pre_ok rfl, ⟨⟨_, rfl, rfl⟩, ⟨_, rfl, rfl⟩, ⟨_, rfl, rfl⟩, ⟨_, rfl, rfl⟩, ⟨_, rfl, rfl⟩, trivial⟩⟩
  refine w_skip ?_
  refine w_seq ?_
  refine w_block ?_
  refine w_seq ?_
  refine w_region ?_
  refine rw_t 20 rfl rfl rfl (do_move rfl ?_)
  refine rw_t 21 rfl rfl rfl (do_move rfl ?_)
  refine rw_t 22 rfl rfl rfl (do_yieldQ [(52, .val (.int .i64 (c.First.getD ((v : Nat) : Int).toNat 0 + (i : Int)))), (2, .ptr 9 0 0), (3, .ptr 10 0 0), (4, .ptr 11 0 0), (7, .ptr 13 0 0), (33, .val (.int .i64 c.N)), (34, .val (.int .i64 ((v : Nat) : Int))), (35, .val (.bool (decide (((v : Nat) : Int) < c.N)))), (36, .val (.int .i64 ((v : Nat) : Int))), (48, .val (.bool b2)), (49, .agg [.val (.int .i64 c.N), .val (.int .i64 c.S), .val (.int .i64 c.T), .slc 0 0 c.First.length none, .slc 1 0 c.Head.length none, .slc 2 0 c.Rev.length none, .slc 3 0 c.Cap.length none, .slc 4 0 c.Arc.length none, .slc 5 0 c.Back.length none]), (50, .val (.int .i64 ((v : Nat) : Int))), (51, .func 67 [] [.ptr 14 0 0, .ptr 15 0 0])] hq1 rfl rfl rfl rfl rfl rfl (fun ρr2 wr2 lr2 hρ2 => ?_))
  refine w_region ?_
  refine rw_t 8 rfl rfl rfl (do_assign rfl ?_)
  refine rw_nil ?_
  refine asg_done rfl ?_
  refine w_block ?_
  rw [hv1, hv2] at hc4
  have hfv : c.First.getD ((v : Nat) : Int).toNat 0 = c.First.getD v 0 := by rw [hv1]
  have hd8 := h.hd (c.First.getD ((v : Nat) : Int).toNat 0 + (i : Int)).toNat (by rw [hv1]; omega)
  have hy8 := hh2 (c.Head.getD (c.First.getD ((v : Nat) : Int).toNat 0 + (i : Int)).toNat 0).toNat (by omega)
  have hy9 := hh2 v (by omega)
  refine w_seqB 76 (((p.Res.getD ((c.First.getD ((v : Nat) : Int).toNat 0 + (i : Int)).toNat) 0) > 0 ∧ (p.H.getD v 0) > ((p.H.getD ((c.Head.getD ((c.First.getD ((v : Nat) : Int).toNat 0 + (i : Int)).toNat) 0).toNat) 0) + 1))) ?_ ?_
  · -- region 11
    refine w_draw mixed [0, 1, 0, 7, 15, 31, 63, 127, 255, 127, 1023, 2047, 127, 4223, 127, 16511, 127, 114815, 245887, 520319, 1044607, 2093183] [4194303, 8388607] (by kernel_rfl) (by kernel_rfl) rfl rfl rfl (hle hρ2 rfl) ?_
    refine ra_q (j := 0) rfl rfl rfl rfl (do_fieldaddr rfl ⟨rfl, rfl⟩) (by rfl) ?_
    refine ra_q (j := 1) rfl rfl rfl rfl (do_load_box rfl rfl rfl ⟨rfl, rfl⟩) (by rfl) ?_
    refine ra_q (j := 2) rfl rfl rfl rfl (do_move rfl ⟨rfl, rfl⟩) (by rfl) ?_
    refine ra_q (j := 3) rfl rfl rfl rfl (do_ix0 rfl rfl rfl (by first | omega | (simp only [ls] <;> omega)) ⟨rfl, rfl⟩) (by rfl) ?_
    refine ra_q (j := 4) rfl rfl rfl rfl (do_load_arr rfl rfl (by first | omega | (simp only [ls] <;> omega)) rfl ⟨rfl, rfl⟩) (by rfl) ?_
    refine ra_q (j := 5) rfl rfl rfl rfl (do_bin rfl rfl rfl ⟨rfl, rfl⟩) (by rfl) ?_
    refine ra_q (j := 6) rfl rfl rfl rfl (do_move rfl ⟨rfl, rfl⟩) (by rfl) ?_
    refine ra_case 59 rfl (fun g4 => ?_) (fun g4 => ?_)
    · have kg4 := g4
      try simp only [bs] at kg4
      refine ra_gt (j := 7) rfl rfl rfl rfl g4 rfl rfl rfl (do_fieldaddr rfl ⟨rfl, rfl⟩) (by rfl) ?_
      refine ra_gt (j := 8) rfl rfl rfl rfl g4 rfl rfl rfl (do_load_box rfl rfl rfl ⟨rfl, rfl⟩) (by rfl) ?_
      refine ra_gt (j := 9) rfl rfl rfl rfl g4 rfl rfl rfl (do_load_box rfl rfl rfl ⟨rfl, rfl⟩) (by rfl) ?_
      refine ra_gt (j := 10) rfl rfl rfl rfl g4 rfl rfl rfl (do_ixn rfl rfl rfl (by first | omega | (simp only [ls] <;> omega)) ⟨rfl, rfl⟩) (by rfl) ?_
      refine ra_gt (j := 11) rfl rfl rfl rfl g4 rfl rfl rfl (do_load_arr rfl rfl (by first | omega | (simp only [ls] <;> omega)) rfl ⟨rfl, rfl⟩) (by rfl) ?_
      refine ra_gt (j := 12) rfl rfl rfl rfl g4 rfl rfl rfl (do_fieldaddr rfl ⟨rfl, rfl⟩) (by rfl) ?_
      refine ra_gt (j := 13) rfl rfl rfl rfl g4 rfl rfl rfl (do_load_box rfl rfl rfl ⟨rfl, rfl⟩) (by rfl) ?_
      refine ra_gt (j := 14) rfl rfl rfl rfl g4 rfl rfl rfl (do_fieldaddr rfl ⟨rfl, rfl⟩) (by rfl) ?_
      refine ra_gt (j := 15) rfl rfl rfl rfl g4 rfl rfl rfl (do_load_box rfl rfl rfl ⟨rfl, rfl⟩) (by rfl) ?_
      refine ra_gt (j := 16) rfl rfl rfl rfl g4 rfl rfl rfl (do_move rfl ⟨rfl, rfl⟩) (by rfl) ?_
      refine ra_gt (j := 17) rfl rfl rfl rfl g4 rfl rfl rfl (do_ix0 rfl rfl rfl (by first | omega | (simp only [ls] <;> omega)) ⟨rfl, rfl⟩) (by rfl) ?_
      refine ra_gt (j := 18) rfl rfl rfl rfl g4 rfl rfl rfl (do_load_arr rfl rfl (by first | omega | (simp only [ls] <;> omega)) rfl ⟨rfl, rfl⟩) (by rfl) ?_
      refine ra_gt (j := 19) rfl rfl rfl rfl g4 rfl rfl rfl (do_ix0 rfl rfl rfl (by first | omega | (simp only [ls] <;> omega)) ⟨rfl, rfl⟩) (by rfl) ?_
      refine ra_gt (j := 20) rfl rfl rfl rfl g4 rfl rfl rfl (do_load_arr rfl rfl (by first | omega | (simp only [ls] <;> omega)) rfl ⟨rfl, rfl⟩) (by rfl) ?_
      refine ra_gt (j := 21) rfl rfl rfl rfl g4 rfl rfl rfl (do_add rfl rfl (by omega) ⟨rfl, rfl⟩) (by rfl) ?_
      refine n_done ?_
      refine rw_gt 75 6 59 true rfl rfl rfl rfl rfl rfl g4 (do_bin rfl rfl rfl ?_)
      refine rw_t 76 rfl rfl rfl (do_pick_t rfl g4 rfl ?_)
      refine rw_nil ?_
      refine ⟨rfl, ⟨_, rfl, by first | (simp; done) | (simp only [bs]; omega) | (simp [*]; done) | (simp; omega) | (constructor <;> intro h <;> simp_all <;> omega)⟩, ?_⟩
      repeat (refine ⟨⟨_, rfl, rfl⟩, ?_⟩)
      exact trivial
    · have kg4 := g4
      try simp only [bs] at kg4
      refine ra_gf (j := 7) rfl rfl rfl rfl (by rw [g4]; decide) rfl rfl rfl ?_
      refine ra_gf (j := 8) rfl rfl rfl rfl (by rw [g4]; decide) rfl rfl rfl ?_
      refine ra_gf (j := 9) rfl rfl rfl rfl (by rw [g4]; decide) rfl rfl rfl ?_
      refine ra_gf (j := 10) rfl rfl rfl rfl (by rw [g4]; decide) rfl rfl rfl ?_
      refine ra_gf (j := 11) rfl rfl rfl rfl (by rw [g4]; decide) rfl rfl rfl ?_
      refine ra_gf (j := 12) rfl rfl rfl rfl (by rw [g4]; decide) rfl rfl rfl ?_
      refine ra_gf (j := 13) rfl rfl rfl rfl (by rw [g4]; decide) rfl rfl rfl ?_
      refine ra_gf (j := 14) rfl rfl rfl rfl (by rw [g4]; decide) rfl rfl rfl ?_
      refine ra_gf (j := 15) rfl rfl rfl rfl (by rw [g4]; decide) rfl rfl rfl ?_
      refine ra_gf (j := 16) rfl rfl rfl rfl (by rw [g4]; decide) rfl rfl rfl ?_
      refine ra_gf (j := 17) rfl rfl rfl rfl (by rw [g4]; decide) rfl rfl rfl ?_
      refine ra_gf (j := 18) rfl rfl rfl rfl (by rw [g4]; decide) rfl rfl rfl ?_
      refine ra_gf (j := 19) rfl rfl rfl rfl (by rw [g4]; decide) rfl rfl rfl ?_
      refine ra_gf (j := 20) rfl rfl rfl rfl (by rw [g4]; decide) rfl rfl rfl ?_
      refine ra_gf (j := 21) rfl rfl rfl rfl (by rw [g4]; decide) rfl rfl rfl ?_
      refine n_done ?_
      refine rw_gf 75 6 59 true rfl rfl rfl rfl rfl rfl (by rw [g4]; decide) ?_
      refine rw_t 76 rfl rfl rfl (do_pick_f rfl g4 rfl ?_)
      refine rw_nil ?_
      refine ⟨rfl, ⟨_, rfl, by first | (simp; done) | (simp only [bs]; omega) | (simp [*]; done) | (simp; omega) | (constructor <;> intro h <;> simp_all <;> omega)⟩, ?_⟩
      repeat (refine ⟨⟨_, rfl, rfl⟩, ?_⟩)
      exact trivial
  intro b3 hb3
  refine w_condP hb3 rfl (fun hc5 => ?_) (fun hc5 => ?_)
  · refine w_seq ?_
    refine w_region ?_
    refine rw_u rfl rfl (n_store_box (f := 0) rfl rfl rfl (Nat.le_of_ble_eq_true rfl) rfl ?_)
    refine rw_nil ?_
    refine w_ret ?_
    repeat (with_reducible first | refine bl_n ?_ | refine bl_r ?_ | refine nx_r ?_ | refine nx_e ?_ | refine bl_e rfl ?_)
    refine round_ret rfl ?_
    refine rw_t 23 rfl rfl rfl (do_not rfl ?_)
    refine rw_nil ?_
    refine w_cond rfl (fun hc6 => ?_) (fun hc6 => ?_)
    rotate_left
    · exfalso; first | (cases hc6; done) | exact (hc6 trivial) | (try simp only [bs] at hc6; first | omega | (simp_all; done) | (simp_all; omega))
    refine w_ret ?_
    refine ret_iter (.inl rfl) rfl (Y := [SO.ints false .i64 c.First, SO.ints false .i64 c.Head, SO.ints false .i64 c.Rev, SO.ints false .i64 c.Cap, SO.ints false .i64 c.Arc, SO.bools false c.Back, SO.ints false .i64 p.Res, SO.ints false .i64 p.Ex, SO.ints false .i64 p.H, .box [.val (.int .i64 c.N), .val (.int .i64 c.S), .val (.int .i64 c.T), .slc 0 0 c.First.length none, .slc 1 0 c.Head.length none, .slc 2 0 c.Rev.length none, .slc 3 0 c.Cap.length none, .slc 4 0 c.Arc.length none, .slc 5 0 c.Back.length none], .box [.slc 6 0 p.Res.length none, .slc 7 0 p.Ex.length none, .slc 8 0 p.H.length none], .box [.val (.bool false)], SO.ints true .i64 ((broR c p.Res).1), .box [.val (.int .i64 ((v : Nat) : Int))], .box [.val (.int .i64 c.N), .val (.int .i64 c.S), .val (.int .i64 c.T), .slc 0 0 c.First.length none, .slc 1 0 c.Head.length none, .slc 2 0 c.Rev.length none, .slc 3 0 c.Cap.length none, .slc 4 0 c.Arc.length none, .slc 5 0 c.Back.length none], .box [.val (.int .i64 ((v : Nat) : Int))], .gen [.ptr 9 0 0, .ptr 10 0 0, .ptr 11 0 0, .ptr 13 0 0, .val (.int .i64 c.N), .val (.int .i64 ((v : Nat) : Int)), .val (.bool (decide (((v : Nat) : Int) < c.N))), .val (.int .i64 ((v : Nat) : Int)), .val (.bool b2), .agg [.val (.int .i64 c.N), .val (.int .i64 c.S), .val (.int .i64 c.T), .slc 0 0 c.First.length none, .slc 1 0 c.Head.length none, .slc 2 0 c.Rev.length none, .slc 3 0 c.Cap.length none, .slc 4 0 c.Arc.length none, .slc 5 0 c.Back.length none], .val (.int .i64 ((v : Nat) : Int)), .func 67 [] [.ptr 14 0 0, .ptr 15 0 0]] (q1 .done (some .ret))]) [0, 1, 2, 3, 4, 5, 6, 7, 8, 9, 10, 11, 12, 13, 14, 15, 16] ⟨shR rfl, shR rfl, shR rfl, shR rfl, shR rfl, shR rfl, shR rfl, shR rfl, shR rfl, shR rfl, shR rfl, shR rfl, shR rfl, shR rfl, shR rfl, shR rfl, shR rfl, trivial⟩ rfl (pre_ok rfl) ?_
    refine iter_ret rfl ?_
    exact ret_eq (.inl rfl) (.cons (res_one rfl rfl rfl) .nil) [0, 1, 2, 3, 4, 5, 6, 7, 8] (Eq.symm (bool_congr (decide_eq_false (fun q => (q.2 v (by omega)).2 i (by unfold manyOf; rw [hv1, hv2]; omega) hc5)))) ⟨shR rfl, shR rfl, shR rfl, shR rfl, shR rfl, shR rfl, shR rfl, shR rfl, shR rfl, trivial⟩ rfl (pre_ok rfl)
  refine w_skip ?_
  repeat (with_reducible first | refine bl_n ?_ | refine bl_r ?_ | refine nx_r ?_ | refine nx_e ?_ | refine bl_e rfl ?_)
  refine round_normal rfl ?_
  refine rw_t 23 rfl rfl rfl (do_not rfl ?_)
  refine rw_nil ?_
  refine w_cond rfl (fun hc7 => ?_) (fun hc7 => ?_)
  · exfalso; first | (cases hc7; done) | exact (hc7 trivial) | (try simp only [bs] at hc7; first | omega | (simp_all; done) | (simp_all; omega))
  refine w_skip ?_
  refine w_region ?_
  refine rw_t 18 rfl rfl rfl (do_move rfl ?_)
  refine rw_t 19 rfl rfl rfl (do_add rfl rfl (by omega) ?_)
  refine rw_t 4 rfl rfl rfl (do_assign rfl ?_)
  refine rw_nil ?_
  refine ⟨i + 1, [0, 1, 2, 3, 4, 5, 6, 7, 8, 9, 10, 11, 12, 13, 14, 15, 16], by dsimp only; omega, ⟨by omega, fun j hj => by rcases Nat.lt_or_ge j i with q | q; exact g2 j q; have : j = i := (by omega); subst this; exact hc5⟩, ⟨shR rfl, shR rfl, shR rfl, shR rfl, shR rfl, shR rfl, shR rfl, shR rfl, shR rfl, shR rfl, shR rfl, shR rfl, shR rfl, shR rfl, shR rfl, shR rfl, shR rfl, trivial⟩, rfl, pre_ok rfl, ⟨⟨_, rfl, rfl⟩, ⟨_, rfl, rfl⟩, ⟨_, rfl, rfl⟩, ⟨_, rfl, Eq.symm (val_congr (by omega))⟩, trivial⟩⟩
end Go.Proofs.P7

set_option linter.unusedVariables false
set_option linter.unusedSimpArgs false
namespace Go.Proofs.P7
open Go Go.Sx Go.RowKit
/-- The excesses that what is left says, arc by arc. -/
def rK (c : Csr) (res : List Int) : Nat → List Int
  | 0 => List.replicate c.N.toNat 0
  | k + 1 => if c.Back.getD k false = true then addAt (subAt (rK c res k) (c.Head.getD k 0) (res.getD k 0)) (c.Head.getD (c.Rev.getD k 0).toNat 0) (res.getD k 0) else rK c res k
theorem rK_len (c : Csr) (f : List Int) : ∀ k, (rK c f k).length = c.N.toNat
  | 0 => by simp [rK]
  | k + 1 => by
    unfold rK
    split
    · simp only [subAt, addAt, List.length_set]; exact rK_len c f k
    · exact rK_len c f k
theorem rK_in {c : Csr} {f : List Int} : ∀ (k : Nat), (∀ j, j < k → 0 ≤ f.getD j 0 ∧ f.getD j 0 ≤ 1125899906842624) → ∀ v, -(k * 2251799813685248 : Int) ≤ (rK c f k).getD v 0 ∧ (rK c f k).getD v 0 ≤ k * 2251799813685248
  | 0, hf, v => by
    have : (rK c f 0).getD v 0 = 0 := by
      simp only [rK, List.getD, List.getElem?_replicate]
      split <;> rfl
    rw [this]; omega
  | k + 1, hf, v => by
    have h0 := hf k (by omega)
    have ih := rK_in (c := c) k (fun j hj => hf j (by omega))
    have i1 := ih v
    have i2 := ih (c.Head.getD k 0).toNat
    have i3 := ih (c.Head.getD (c.Rev.getD k 0).toNat 0).toNat
    unfold rK
    split
    · unfold subAt addAt
      rcases getD_set_le (rK c f k) (c.Head.getD k 0).toNat (c.Head.getD (c.Rev.getD k 0).toNat 0).toNat ((rK c f k).getD (c.Head.getD k 0).toNat 0 - f.getD k 0) with e1 | e1 <;>
      rcases getD_set_le ((rK c f k).set (c.Head.getD k 0).toNat ((rK c f k).getD (c.Head.getD k 0).toNat 0 - f.getD k 0)) (c.Head.getD (c.Rev.getD k 0).toNat 0).toNat v (((rK c f k).set (c.Head.getD k 0).toNat ((rK c f k).getD (c.Head.getD k 0).toNat 0 - f.getD k 0)).getD (c.Head.getD (c.Rev.getD k 0).toNat 0).toNat 0 + f.getD k 0) with e2 | e2 <;>
      rcases getD_set_le (rK c f k) (c.Head.getD k 0).toNat v ((rK c f k).getD (c.Head.getD k 0).toNat 0 - f.getD k 0) with e3 | e3 <;>
      rw [e2] <;> (try rw [e1]) <;> (try rw [e3]) <;> omega
    · omega
def okV (c : Csr) (p : Pre) (i v : Nat) : Prop := (((rK c p.Res i).getD v 0 = p.Ex.getD v 0 ∧ ¬ ((v : Int) ≠ c.S ∧ (rK c p.Res i).getD v 0 < 0)) ∧ ¬ p.H.getD v 0 < 0) ∧ ¬ p.H.getD v 0 ≥ 2 * c.N
instance (c : Csr) (p : Pre) (i v : Nat) : Decidable (okV c p i v) := by unfold okV; infer_instance
def lens3 (c : Csr) (p : Pre) : Prop := ((p.Res.length : Nat) : Int) = ((c.Head.length : Nat) : Int) ∧ ((p.Ex.length : Nat) : Int) = c.N ∧ ((p.H.length : Nat) : Int) = c.N
instance (c : Csr) (p : Pre) : Decidable (lens3 c p) := by unfold lens3; infer_instance
/-- P7.1: a state that may be, as the document has it. -/
def refR (c : Csr) (p : Pre) : Prop := (((lens3 c p ∧ pairsP c p.Res) ∧ ∀ v : Nat, v < c.N.toNat → okV c p c.Head.length v) ∧ ∀ a : Nat, a < c.Head.length → ¬ steepA c p (tailOf c a) a) ∧ (p.H.getD c.S.toNat 0 = c.N ∧ p.H.getD c.T.toNat 0 = 0)
instance (c : Csr) (p : Pre) : Decidable (refR c p) := by unfold refR; infer_instance
end Go.Proofs.P7

set_option linter.unusedVariables false
set_option linter.unusedSimpArgs false
namespace Go.Proofs.P7
open Go Go.Sx Go.RowKit
structure CsrP (c : Csr) : Prop extends CsrG c where
  one : CapOne c
  arcin : ArcIn c
  arcrev : ∀ a, a < c.Head.length → c.Arc.getD (c.Rev.getD a 0).toNat 0 = c.Arc.getD a 0
  arcinj : ∀ a b, a < c.Head.length → b < c.Head.length → c.Back.getD a false = true → c.Back.getD b false = true → c.Arc.getD a 0 = c.Arc.getD b 0 → a = b
theorem make_p {n : Net} (h : Small n) : CsrP (makeC n) where
  toCsrG := make_g h
  one := fun a ha => by
    rw [make_head] at ha
    obtain ⟨j, h1, h2, h3, h4, h5⟩ := rev_spec h.toNetOK ha
    rw [h3, Int.toNat_natCast]
    show ((rows n).map Row.cap).getD a 0 = 0 ∨ ((rows n).map Row.cap).getD j 0 = 0
    rw [getD_cap, getD_cap]
    obtain ⟨k, hk, hne, hc⟩ := row_cases h.toNetOK ha
    obtain ⟨k', hk', hne', hc'⟩ := row_cases h.toNetOK h1
    rcases hc with e | e <;> rcases hc' with e' | e' <;> rw [e, e'] at h5 ⊢ <;> simp at h5 ⊢
  arcin := fun a ha => by
    have hl : (makeC n).Arc.length = (rows n).length := by simp [makeC]
    rw [hl] at ha
    show 0 ≤ ((rows n).map Row.arc).getD a 0 ∧ ((rows n).map Row.arc).getD a 0 < 16384
    rw [getD_arc]
    obtain ⟨k, hk, hne, hc⟩ := row_cases h.toNetOK ha
    have := h.sz
    rcases hc with e | e <;> rw [e] <;> dsimp only <;> omega
  arcrev := fun a ha => by
    rw [make_head] at ha
    obtain ⟨j, h1, h2, h3, h4, h5⟩ := rev_spec h.toNetOK ha
    rw [h3, Int.toNat_natCast]
    show ((rows n).map Row.arc).getD j 0 = ((rows n).map Row.arc).getD a 0
    rw [getD_arc, getD_arc, h4]
  arcinj := fun a b ha hb h1 h2 h3 => by
    rw [make_head] at ha hb
    have h1' : ((rows n).map Row.back).getD a false = true := h1
    have h2' : ((rows n).map Row.back).getD b false = true := h2
    have h3' : ((rows n).map Row.arc).getD a 0 = ((rows n).map Row.arc).getD b 0 := h3
    rw [getD_back] at h1' h2'
    rw [getD_arc, getD_arc] at h3'
    exact key_inj ha hb (by unfold Row.key; rw [h1', h2', h3'])

theorem sumN_swap (f : Nat → Nat → Int) : ∀ n m, sumN (fun i => sumN (fun j => f i j) m) n = sumN (fun j => sumN (fun i => f i j) n) m
  | 0, m => by simp only [sumN]; rw [sumN_zero (fun i _ => rfl)]
  | n + 1, m => by
    simp only [sumN]
    rw [sumN_swap f n m, ← sumN_add]
theorem sumN_turn (G : Nat → Int) (σ : Nat → Nat) (m : Nat) (hs : ∀ k, k < m → σ k < m) (hi : ∀ k, k < m → σ (σ k) = k) : sumN (fun k => G (σ k)) m = sumN G m := by
  have e1 : sumN (fun k => G (σ k)) m = sumN (fun k => sumN (fun j => if j = σ k then G j else 0) m) m := by
    refine sumN_congr fun k hk => ?_
    rw [sumN_one (j := σ k) (hs k hk) (fun i hi hne => if_neg hne), if_pos rfl]
  have e2 : sumN (fun j => sumN (fun k => if j = σ k then G j else 0) m) m = sumN G m := by
    refine sumN_congr fun j hj => ?_
    rw [sumN_one (j := σ j) (hs j hj) (fun i hi' hne => if_neg (fun q => hne (by rw [q, hi i hi']))), if_pos (hi j hj).symm]
  rw [e1, sumN_swap, e2]

/-- What an arc's flow does to a vertex. -/
def gA (c : Csr) (d : Int) (b : Nat) (v : Nat) : Int := (if (c.Head.getD (c.Rev.getD b 0).toNat 0).toNat = v then d else 0) - (if (c.Head.getD b 0).toNat = v then d else 0)
theorem two_set {l : List Int} {x y : Nat} (hx : x < l.length) (hy : y < l.length) (d e : Int) (v : Nat) : ((l.set x (l.getD x 0 + d)).set y ((l.set x (l.getD x 0 + d)).getD y 0 + e)).getD v 0 = l.getD v 0 + (if x = v then d else 0) + (if y = v then e else 0) := by
  rw [getD_set _ _ _ _ (by rw [List.length_set]; exact hy), getD_set _ _ _ _ hx, getD_set _ _ _ _ hx]
  by_cases h1 : y = v
  · subst h1
    by_cases h2 : x = y
    · subst h2; simp
    · simp [h2]
  · by_cases h2 : x = v
    · subst h2; simp [h1]
    · simp [h1, h2]
theorem ifs_one (x y v : Nat) (A d : Int) : A + (if x = v then -d else 0) + (if y = v then d else 0) = A + ((if y = v then d else 0) - (if x = v then d else 0)) := by
  by_cases h1 : x = v
  · by_cases h2 : y = v
    · rw [if_pos h1, if_pos h2, if_pos h1]; omega
    · rw [if_pos h1, if_neg h2, if_pos h1]; omega
  · by_cases h2 : y = v
    · rw [if_neg h1, if_pos h2, if_neg h1]; omega
    · rw [if_neg h1, if_neg h2, if_neg h1]; omega
theorem ifs_two (x y v : Nat) (A d : Int) : A + (if x = v then d else 0) + (if y = v then -d else 0) = A + ((if x = v then d else 0) - (if y = v then d else 0)) := by
  by_cases h1 : x = v
  · by_cases h2 : y = v
    · rw [if_pos h1, if_pos h2, if_pos h2]; omega
    · rw [if_pos h1, if_neg h2, if_neg h2]; omega
  · by_cases h2 : y = v
    · rw [if_neg h1, if_pos h2, if_pos h2]; omega
    · rw [if_neg h1, if_neg h2, if_neg h2]; omega
theorem rK_get {c : Csr} (h : CsrG c) (res : List Int) : ∀ k, k ≤ c.Head.length → ∀ v, v < c.N.toNat → (rK c res k).getD v 0 = sumN (fun b => if c.Back.getD b false = true then gA c (res.getD b 0) b v else 0) k
  | 0, _, v, hv => by simp [rK, sumN, List.getD, hv]
  | k + 1, hk, v, hv => by
    have ih := rK_get h res k (by omega) v hv
    have hl := rK_len c res k
    have h1 := h.hd k (by omega)
    have hr := h.rv k (by omega)
    have h2 := h.hd (c.Rev.getD k 0).toNat (by omega)
    simp only [sumN, rK]
    rw [← ih]
    by_cases hb : c.Back.getD k false = true
    · rw [if_pos hb, if_pos hb]
      have := two_set (l := rK c res k) (x := (c.Head.getD k 0).toNat) (y := (c.Head.getD (c.Rev.getD k 0).toNat 0).toNat) (by omega) (by omega) (-(res.getD k 0)) (res.getD k 0) v
      simp only [addAt, subAt, gA]
      rw [show (rK c res k).getD (c.Head.getD k 0).toNat 0 - res.getD k 0 = (rK c res k).getD (c.Head.getD k 0).toNat 0 + -(res.getD k 0) by omega, this]
      exact ifs_one _ _ _ _ _
    · rw [if_neg hb, if_neg hb]; omega
theorem bK_get {c : Csr} (h : CsrG c) (f : List Int) : ∀ k, k ≤ c.Head.length → ∀ v, v < c.N.toNat → (bK c f k).getD v 0 = sumN (fun a => if c.Back.getD a false = true then 0 else gA c (f.getD (c.Arc.getD a 0).toNat 0) (c.Rev.getD a 0).toNat v) k
  | 0, _, v, hv => by simp [bK, sumN, List.getD, hv]
  | k + 1, hk, v, hv => by
    have ih := bK_get h f k (by omega) v hv
    have hl := bK_len c f k
    have h1 := h.hd k (by omega)
    have hr := h.rv k (by omega)
    have h2 := h.hd (c.Rev.getD k 0).toNat (by omega)
    have hrr := h.rrv k (by omega)
    simp only [sumN, bK]
    rw [← ih]
    by_cases hb : c.Back.getD k false = true
    · rw [if_pos hb, if_pos hb]; omega
    · rw [if_neg hb, if_neg hb]
      have := two_set (l := bK c f k) (x := (c.Head.getD k 0).toNat) (y := (c.Head.getD (c.Rev.getD k 0).toNat 0).toNat) (by omega) (by omega) (f.getD (c.Arc.getD k 0).toNat 0) (-(f.getD (c.Arc.getD k 0).toNat 0)) v
      simp only [addAt, subAt, gA]
      rw [hrr, Int.toNat_natCast, show ∀ A d : Int, A - d = A + -d from fun A d => by omega, this]
      exact ifs_two _ _ _ _ _
theorem flow_back {c : Csr} (h : CsrP c) (res : List Int) {m : Int} (hm : ∀ k, k < c.Head.length → 0 ≤ c.Arc.getD k 0 ∧ c.Arc.getD k 0 < m) {b : Nat} (hb : b < c.Head.length) (hB : c.Back.getD b false = true) : ∀ k, k ≤ c.Head.length → (flowL c res m k).getD (c.Arc.getD b 0).toNat 0 = if b < k then res.getD b 0 else 0
  | 0, _ => by
    rw [if_neg (by omega)]
    simp only [flowL, List.getD, List.getElem?_replicate]
    split <;> rfl
  | k + 1, hk => by
    have ih := flow_back h res hm hb hB k (by omega)
    have hl := flowL_len c res m k
    have h1 := hm k (by omega)
    have h2 := hm b hb
    unfold flowL
    by_cases hq : c.Back.getD k false = true
    · rw [if_pos hq, getD_set _ _ _ _ (by omega)]
      by_cases hbk : b = k
      · subst hbk; rw [if_pos rfl, if_pos (by omega)]
      · rw [if_neg (fun e => hbk (h.arcinj b k hb (by omega) hB hq (by omega))), ih]
        by_cases q : b < k
        · rw [if_pos q, if_pos (by omega)]
        · rw [if_neg q, if_neg (by omega)]
    · rw [if_neg hq, ih]
      have : b ≠ k := fun e => hq (e ▸ hB)
      by_cases q : b < k
      · rw [if_pos q, if_pos (by omega)]
      · rw [if_neg q, if_neg (by omega)]
/-- Both reckon the same excesses. -/
theorem ex_same {c : Csr} (h : CsrP c) {res : List Int} {m : Int} (hm : ∀ k, k < c.Head.length → 0 ≤ c.Arc.getD k 0 ∧ c.Arc.getD k 0 < m) {v : Nat} (hv : v < c.N.toNat) : (bK c (flowL c res m c.Head.length) c.Head.length).getD v 0 = (rK c res c.Head.length).getD v 0 := by
  rw [bK_get h.toCsrG _ _ (Nat.le_refl _) v hv, rK_get h.toCsrG _ _ (Nat.le_refl _) v hv]
  rw [← sumN_turn (fun b => if c.Back.getD b false = true then gA c (res.getD b 0) b v else 0) (fun a => (c.Rev.getD a 0).toNat) c.Head.length (fun k hk => by have := h.rv k hk; omega) (fun k hk => by rw [h.rrv k hk]; exact Int.toNat_natCast k)]
  refine sumN_congr fun a ha => ?_
  have hr := h.rv a ha
  have hbk := h.rbk a ha
  by_cases hb : c.Back.getD a false = true
  · rw [if_pos hb, hbk, hb, if_neg (by decide)]
  · have hb' : c.Back.getD a false = false := by simpa using hb
    rw [if_neg hb, hbk, hb', if_pos (show (!false) = true from rfl), ← h.arcrev a ha, flow_back h res hm (b := (c.Rev.getD a 0).toNat) (by omega) (by rw [hbk, hb']; rfl) _ (Nat.le_refl _), if_pos (by omega)]
theorem steep_iff {c : Csr} (h : CsrT c) (p : Pre) : (∀ u : Nat, u < c.N.toNat → ∀ j : Nat, j < manyOf c u → ¬ steepA c p u (c.First.getD (u : Int).toNat 0 + j)) ↔ ∀ a : Nat, a < c.Head.length → ¬ steepA c p (tailOf c a) a := by
  constructor
  · intro hq a ha hs
    obtain ⟨v, hv, ⟨q1, q2⟩, q3, -⟩ := h.tail_at (a := (a : Int)) (by omega) (by omega)
    rw [q3] at hs
    have hm := h.mono v hv
    refine hq v hv ((a : Int) - c.First.getD v 0).toNat ?_ ?_
    · unfold manyOf; rw [show ((v : Int) + 1).toNat = v + 1 by omega, Int.toNat_natCast]; omega
    · rw [Int.toNat_natCast, show c.First.getD v 0 + (((a : Int) - c.First.getD v 0).toNat : Int) = (a : Int) by omega]; exact hs
  · intro hq u hu j hj hs
    have hm := h.mono u hu
    unfold manyOf at hj
    rw [show ((u : Int) + 1).toNat = u + 1 by omega, Int.toNat_natCast] at hj
    rw [Int.toNat_natCast] at hs
    obtain ⟨t1, t2, t3⟩ := tail_of_arc h (u := (u : Int)) (a := c.First.getD u 0 + j) (by omega) (by rw [Int.toNat_natCast]; omega) (by rw [Int.toNat_natCast]; omega)
    refine hq (c.First.getD u 0 + j).toNat (by omega) ?_
    rw [show ((c.First.getD u 0 + (j : Int)).toNat : Int) = c.First.getD u 0 + j by omega, t3]
    exact hs
theorem list_ext {a b : List Int} {n : Nat} (ha : a.length = n) (hb : b.length = n) (h : ∀ v, v < n → a.getD v 0 = b.getD v 0) : a = b := by
  refine List.ext_getElem (ha.trans hb.symm) fun i h1 h2 => ?_
  have := h i (by omega)
  simpa [List.getD, h1, h2] using this
/-- The program's and the document's notion of a state that may be are one. -/
theorem preR_iff {c : Csr} (h : CsrP c) (p : Pre) : preR c p ↔ refR c p := by
  have hn := h.n
  have hS := h.s
  have hal := h.arc
  have hbl := h.back
  obtain ⟨ht1, ht2⟩ := topK_in h.arcin c.Arc.length (Nat.le_refl _)
  have hm : ∀ k, k < c.Head.length → 0 ≤ c.Arc.getD k 0 ∧ c.Arc.getD k 0 < topA c := fun k hk => ⟨(h.arcin k (by omega)).1, ht2 k (by omega)⟩
  have hbr : ∀ (hq : p.Res.length = c.Head.length ∧ pairsP c p.Res), broR c p.Res = (bK c (flowL c p.Res (topA c) c.Head.length) c.Head.length, true) := fun hq => by
    unfold broR flowR; rw [if_pos hq, if_pos hq.1, if_pos hq.2, hbl]
  constructor
  · rintro ⟨⟨⟨q1, q2⟩, q3⟩, q4⟩
    obtain ⟨hq, hl⟩ := broR_ok q1
    rw [hbr hq] at q2
    have hx : p.Ex.length = c.N.toNat := by rw [← q2]; exact bK_len _ _ _
    obtain ⟨⟨⟨r1, r2⟩, r3⟩, r4⟩ := q3
    have hv : ∀ v : Nat, v < c.N.toNat → (rK c p.Res c.Head.length).getD v 0 = p.Ex.getD v 0 := fun v hv => by rw [← ex_same h hm hv, ← q2]
    refine ⟨⟨⟨⟨⟨by omega, by omega, r1⟩, hq.2⟩, fun v hvn => ?_⟩, (steep_iff h.toCsrT p).1 fun u hu => (q4 u hu).2⟩, r2, r3⟩
    have g := (q4 v hvn).1
    rw [Int.toNat_natCast] at g
    have g2 := r4 v (by omega)
    exact ⟨⟨⟨hv v hvn, by rw [hv v hvn]; exact g⟩, by omega⟩, by omega⟩
  · rintro ⟨⟨⟨⟨⟨l1, l2, l3⟩, q2⟩, q3⟩, q4⟩, q5, q6⟩
    have hq : p.Res.length = c.Head.length ∧ pairsP c p.Res := ⟨by omega, q2⟩
    have hs := (steep_iff h.toCsrT p).2 q4
    have hx : (broR c p.Res).1 = p.Ex := by
      rw [hbr hq]
      refine list_ext (n := c.N.toNat) (bK_len _ _ _) (by omega) fun v hv => ?_
      rw [ex_same h hm hv]
      exact (q3 v hv).1.1.1
    refine ⟨⟨⟨by rw [hbr hq], hx⟩, ⟨⟨l3, q5⟩, q6⟩, fun v hv => ?_⟩, fun u hu => ⟨?_, hs u hu⟩⟩
    · have g := q3 v (by omega); unfold okV at g; omega
    · have g := (q3 u hu).1.1
      rw [Int.toNat_natCast, ← g.1]; exact g.2
end Go.Proofs.P7

set_option linter.unusedVariables false
set_option linter.unusedSimpArgs false
namespace Go.Proofs.P7
open Go Go.Sx Go.RowKit
theorem rK_ex {c : Csr} (h : CsrG c) (res : List Int) {v : Nat} (hv : v < c.N.toNat) : ∀ k, k ≤ c.Head.length → (rK c res k).getD v 0 = exK c res k v := by
  intro k hk
  rw [rK_get h res k hk v hv]
  induction k with
  | zero => rfl
  | succ k ih =>
    have hr := h.rv k (by omega)
    have ht := h.rtl k (by omega)
    have h1 := h.hd k (by omega)
    have h2 := h.hd (c.Rev.getD k 0).toNat (by omega)
    simp only [sumN, exK]
    rw [ih (by omega)]
    by_cases hb : c.Back.getD k false = true
    · rw [if_pos hb, if_pos hb]
      unfold gA
      have e1 : ((c.Head.getD (c.Rev.getD k 0).toNat 0).toNat = v) ↔ (tailOf c k = (v : Int)) := by omega
      have e2 : ((c.Head.getD k 0).toNat = v) ↔ (c.Head.getD k 0 = (v : Int)) := by omega
      simp only [e1, e2]
    · rw [if_neg hb, if_neg hb]
def tightP (c : Csr) (p : Pre) : Prop := (∀ v : Nat, v < c.N.toNat → p.H.getD v 0 < 2 * c.N) ∧ ∀ a : Nat, a < c.Head.length → ¬ steepA c p (tailOf c a) a
/-- P7's states are P9's that are tight. -/
theorem refR_iff {c : Csr} (h : CsrG c) (p : Pre) : refR c p ↔ rightP c p ∧ tightP c p := by
  have hn := h.n
  have hS := h.s
  constructor
  · rintro ⟨⟨⟨⟨⟨l1, l2, l3⟩, q2⟩, q3⟩, q4⟩, q5, q6⟩
    refine ⟨⟨⟨by omega, by omega, by omega⟩, ⟨fun v hv => ?_, q5, q6⟩, q2, fun v hv => ?_⟩, fun v hv => ?_, q4⟩
    · have g := q3 v hv; unfold okV at g; omega
    · have g := q3 v hv; unfold okV at g
      have e := rK_ex h p.Res hv c.Head.length (Nat.le_refl _)
      refine ⟨by show _ = exK c p.Res c.Head.length v; omega, fun hne => ?_⟩
      have := g.1.1.2
      omega
    · have g := q3 v hv; unfold okV at g; omega
  · rintro ⟨⟨⟨l1, l2, l3⟩, ⟨k1, k2, k3⟩, q2, q3⟩, t1, t2⟩
    refine ⟨⟨⟨⟨⟨by omega, by omega, by omega⟩, q2⟩, fun v hv => ?_⟩, t2⟩, k2, k3⟩
    have e := rK_ex h p.Res hv c.Head.length (Nat.le_refl _)
    obtain ⟨g1, g2⟩ := q3 v hv
    have g1' : p.Ex.getD v 0 = exK c p.Res c.Head.length v := g1
    have a1 := k1 v hv
    have a2 := t1 v hv
    refine ⟨⟨⟨by omega, fun w => ?_⟩, by omega⟩, by omega⟩
    have := g2 w.1
    omega
theorem refR_in {c : Csr} (h : CsrG c) {p : Pre} (hp : refR c p) : PreIn c p where
  res := by have := hp.1.1.1.1.1; omega
  ex := by have := hp.1.1.1.1.2.1; have := h.n; omega
  h := by have := hp.1.1.1.1.2.2; have := h.n; omega
  hi := fun v => by
    have hn := h.n
    have l3 := hp.1.1.1.1.2.2
    rcases Nat.lt_or_ge v c.N.toNat with hv | hv
    · have g := hp.1.1.2 v hv; unfold okV at g; omega
    · have : p.H.getD v 0 = 0 := by simp only [List.getD, List.getElem?_eq_none (show p.H.length ≤ v by omega)]; rfl
      omega
theorem ex_bound {c : Csr} (h : CsrG c) {p : Pre} (hp : refR c p) (v : Nat) : -4611686018427387904 ≤ p.Ex.getD v 0 ∧ p.Ex.getD v 0 ≤ 4611686018427387904 := by
  have hn := h.n
  have hsm := h.small
  rcases Nat.lt_or_ge v c.N.toNat with hv | hv
  · have g := hp.1.1.2 v hv; unfold okV at g
    have b := rK_in (c := c) (f := p.Res) c.Head.length (fun j hj => by have := hp.1.1.1.2 j hj; have := h.capv j hj; omega) v
    omega
  · have l2 := (refR_in h hp).ex
    have : p.Ex.getD v 0 = 0 := by simp only [List.getD, List.getElem?_eq_none (show p.Ex.length ≤ v by omega)]; rfl
    omega
theorem refR_push {c : Csr} (h : CsrG c) {p : Pre} (hp : refR c p) : PushIn c p := fun a ha hq => by
  have hi := refR_in h hp
  have l1 := hi.res
  have l2 := hi.ex
  have hrv := h.rv a.toNat (by omega)
  have hne := h.rne a.toNat (by omega)
  have hpr := hp.1.1.1.2 a.toNat (by omega)
  have hpr2 := hp.1.1.1.2 (c.Rev.getD a.toNat 0).toNat (by omega)
  have hc1 := h.capv a.toNat (by omega)
  have hc2 := h.capv (c.Rev.getD a.toNat 0).toNat (by omega)
  have htl := G_tail h ha
  obtain ⟨⟨q1, q2⟩, q3, q4⟩ := hq
  have hd : 0 < pushD c p a ∧ pushD c p a ≤ p.Res.getD a.toNat 0 ∧ pushD c p a ≤ p.Ex.getD (tailOf c a).toNat 0 := by unfold pushD; split <;> omega
  have hx := ex_bound h hp
  have hx1 := hx (tailOf c a).toNat
  have hx2 := hx (c.Head.getD a.toNat 0).toNat
  refine ⟨?_, ?_, ?_, ?_⟩
  · unfold In1; omega
  · unfold In1 subAt
    rcases getD_set_le p.Res a.toNat (c.Rev.getD a.toNat 0).toNat (p.Res.getD a.toNat 0 - pushD c p a) with e | e <;> rw [e] <;> omega
  · unfold In1; rw [← htl]; omega
  · unfold In1 subAt; rw [← htl]
    rcases getD_set_le p.Ex (tailOf c a).toNat (c.Head.getD a.toNat 0).toNat (p.Ex.getD (tailOf c a).toNat 0 - pushD c p a) with e | e <;> rw [e] <;> omega
end Go.Proofs.P7

set_option linter.unusedVariables false
set_option linter.unusedSimpArgs false
namespace Go.Proofs.P7
open Go Go.Sx Go.RowKit
theorem sumN_le {F G : Nat → Int} : ∀ {k : Nat}, (∀ i, i < k → F i ≤ G i) → sumN F k ≤ sumN G k
  | 0, _ => Int.le_refl _
  | k + 1, h => by
    have := sumN_le (fun i hi => h i (by omega) : ∀ i, i < k → F i ≤ G i)
    have := h k (by omega)
    simp only [sumN]; omega
theorem sumN_const (x : Int) : ∀ k : Nat, sumN (fun _ => x) k = k * x
  | 0 => by simp [sumN]
  | k + 1 => by simp only [sumN]; rw [sumN_const x k, Int.natCast_add, Int.add_mul]; simp
theorem sumN_at (j : Nat) (x : Int) {k : Nat} (hj : j < k) : sumN (fun i => if i = j then x else 0) k = x := by
  rw [sumN_one (j := j) hj (fun i hi hne => if_neg hne), if_pos rfl]
/-- Of N - 1 levels one is nobody's. -/
theorem free_level {H : Nat → Int} {N u t : Nat} (hu : u < N) (ht : t < N) (hut : u ≠ t) (h0 : H t = 0) (hN : 2 ≤ N) : ∃ i : Nat, i < N - 1 ∧ ∀ v, v < N → v ≠ u → H v ≠ (N : Int) + i := by
  refine Decidable.byContradiction fun hno => ?_
  have hocc : ∀ i : Nat, i < N - 1 → ∃ v, v < N ∧ v ≠ u ∧ H v = (N : Int) + i := fun i hi => by
    refine Classical.byContradiction fun hq => hno ⟨i, hi, fun v hv hne he => hq ⟨v, hv, hne, he⟩⟩
  have h1 : ((N - 1 : Nat) : Int) ≤ sumN (fun i => sumN (fun v => if v ≠ u ∧ H v = (N : Int) + i then 1 else 0) N) (N - 1) := by
    have e : sumN (fun _ => (1 : Int)) (N - 1) = ((N - 1 : Nat) : Int) := by rw [sumN_const]; omega
    rw [← e]
    refine sumN_le fun i hi => ?_
    obtain ⟨v, hv, hne, he⟩ := hocc i hi
    have e2 : sumN (fun w => if w = v then (1 : Int) else 0) N = 1 := sumN_at v 1 hv
    rw [← e2]
    refine sumN_le fun w hw => ?_
    by_cases hwv : w = v
    · subst hwv; rw [if_pos rfl, if_pos ⟨hne, he⟩]; omega
    · rw [if_neg hwv]; split <;> omega
  have h2 : sumN (fun i => sumN (fun v => if v ≠ u ∧ H v = (N : Int) + i then 1 else 0) N) (N - 1) ≤ (N : Int) - 2 := by
    rw [sumN_swap]
    have e : sumN (fun v => (1 : Int) + ((if v = u then -1 else 0) + (if v = t then -1 else 0))) N = (N : Int) - 2 := by
      rw [sumN_add, sumN_add, sumN_const, sumN_at u _ hu, sumN_at t _ ht]; omega
    rw [← e]
    refine sumN_le fun v hv => ?_
    by_cases hvu : v = u
    · subst hvu
      rw [sumN_zero (fun i _ => if_neg (fun q => q.1 rfl)), if_pos rfl, if_neg hut]; omega
    · by_cases hvt : v = t
      · subst hvt
        rw [sumN_zero (fun i _ => if_neg (fun q => by have := q.2; omega)), if_neg hvu, if_pos rfl]; omega
      · rw [if_neg hvu, if_neg hvt]
        by_cases hex : ∃ i : Nat, i < N - 1 ∧ H v = (N : Int) + i
        · obtain ⟨i, hi, he⟩ := hex
          rw [sumN_one (j := i) hi (fun k hk hne => if_neg (fun q => hne (by have := q.2; omega))), if_pos ⟨hvu, he⟩]; omega
        · rw [sumN_zero (fun i hi => if_neg (fun q => hex ⟨i, hi, q.2⟩))]; omega
  omega
theorem two_pts (x y v : Nat) (X : Nat → Bool) (d : Int) : (if X v = true then ((if x = v then d else 0) - (if y = v then d else 0)) else 0) = (if v = x then (if X x = true then d else 0) else 0) + (if v = y then (if X y = true then -d else 0) else 0) := by
  by_cases h1 : x = v
  · subst h1
    by_cases h2 : y = x
    · subst h2
      by_cases hx : X y = true
      · simp [hx]; omega
      · simp [hx]
    · by_cases hx : X x = true
      · simp [hx, h2, Ne.symm h2]
      · simp [hx, h2, Ne.symm h2]
  · by_cases h2 : y = v
    · subst h2
      by_cases hx : X y = true
      · simp [hx, h1, Ne.symm h1]
      · simp [hx, h1, Ne.symm h1]
    · by_cases hx : X v = true
      · simp [hx, h1, h2, Ne.symm h1, Ne.symm h2]
      · simp [hx, h1, h2, Ne.symm h1, Ne.symm h2]
/-- No flow comes out of nothing: vertices out of which no arc is left have no excess together. -/
theorem no_excess {c : Csr} (h : CsrG c) {p : Pre} (hp : refR c p) (X : Nat → Bool) (hX : ∀ a : Nat, a < c.Head.length → X (tailOf c a).toNat = true → X (c.Head.getD a 0).toNat = false → p.Res.getD a 0 = 0) :
    sumN (fun v => if X v = true then p.Ex.getD v 0 else 0) c.N.toNat ≤ 0 := by
  have e1 : sumN (fun v => if X v = true then p.Ex.getD v 0 else 0) c.N.toNat = sumN (fun v => sumN (fun b => if X v = true then (if c.Back.getD b false = true then gA c (p.Res.getD b 0) b v else 0) else 0) c.Head.length) c.N.toNat := by
    refine sumN_congr fun v hv => ?_
    have g := hp.1.1.2 v hv; unfold okV at g
    by_cases hx : X v = true
    · rw [if_pos hx, ← g.1.1.1, rK_get h _ _ (Nat.le_refl _) v hv]
      exact sumN_congr fun b _ => by rw [if_pos hx]
    · rw [if_neg hx, sumN_zero (fun b _ => if_neg hx)]
  rw [e1, sumN_swap]
  have e0 : sumN (fun _ => (0 : Int)) c.Head.length = 0 := sumN_zero fun _ _ => rfl
  refine Int.le_trans (sumN_le (G := fun _ => 0) fun b hb => ?_) (Int.le_of_eq e0)
  have hr := h.rv b hb
  have h1 := h.hd b hb
  have h2 := h.hd (c.Rev.getD b 0).toNat (by omega)
  have htl := h.rtl b hb
  have hpr := hp.1.1.1.2 b hb
  by_cases hB : c.Back.getD b false = true
  · have e2 : sumN (fun v => if X v = true then (if c.Back.getD b false = true then gA c (p.Res.getD b 0) b v else 0) else 0) c.N.toNat = (if X (c.Head.getD (c.Rev.getD b 0).toNat 0).toNat = true then p.Res.getD b 0 else 0) + (if X (c.Head.getD b 0).toNat = true then -(p.Res.getD b 0) else 0) := by
      have e3 : sumN (fun v => if X v = true then (if c.Back.getD b false = true then gA c (p.Res.getD b 0) b v else 0) else 0) c.N.toNat = sumN (fun v => (if v = (c.Head.getD (c.Rev.getD b 0).toNat 0).toNat then (if X (c.Head.getD (c.Rev.getD b 0).toNat 0).toNat = true then p.Res.getD b 0 else 0) else 0) + (if v = (c.Head.getD b 0).toNat then (if X (c.Head.getD b 0).toNat = true then -(p.Res.getD b 0) else 0) else 0)) c.N.toNat := by
        refine sumN_congr fun v hv => ?_
        rw [if_pos hB]
        unfold gA
        exact two_pts _ _ _ _ _
      rw [e3, sumN_add, sumN_at _ _ (by omega), sumN_at _ _ (by omega)]
    rw [e2]
    have hx := hX b hb
    rw [htl] at hx
    by_cases x1 : X (c.Head.getD (c.Rev.getD b 0).toNat 0).toNat = true
    · by_cases x2 : X (c.Head.getD b 0).toNat = true
      · rw [if_pos x1, if_pos x2]; omega
      · rw [if_pos x1, if_neg x2]
        have := hx x1 (by simpa using x2)
        omega
    · rw [if_neg x1]; split <;> omega
  · rw [sumN_zero (fun v _ => by rw [if_neg hB]; split <;> rfl)]; omega
end Go.Proofs.P7

set_option linter.unusedVariables false
set_option linter.unusedSimpArgs false
namespace Go.Proofs.P7
open Go Go.Sx Go.RowKit
theorem lowL_le {c : Csr} {p : Pre} {a0 m : Int} : ∀ {k j : Nat}, j < k → p.Res.getD (a0 + j).toNat 0 > 0 → lowL c p a0 m k ≤ p.H.getD (c.Head.getD (a0 + j).toNat 0).toNat 0
  | k + 1, j, hj, hr => by
    simp only [lowL]
    rcases Nat.lt_or_ge j k with q | q
    · have ih := lowL_le (c := c) (p := p) (a0 := a0) (m := m) q hr
      split
      · split <;> omega
      · exact ih
    · have : j = k := by omega
      subst this
      rw [if_pos hr]; split <;> omega
theorem lowL_at {c : Csr} {p : Pre} {a0 m : Int} : ∀ k : Nat, lowL c p a0 m k = m ∨ ∃ j, j < k ∧ p.Res.getD (a0 + j).toNat 0 > 0 ∧ lowL c p a0 m k = p.H.getD (c.Head.getD (a0 + j).toNat 0).toNat 0
  | 0 => .inl rfl
  | k + 1 => by
    simp only [lowL]
    have ih := lowL_at (c := c) (p := p) (a0 := a0) (m := m) k
    have old : lowL c p a0 m k = m ∨ ∃ j, j < k + 1 ∧ p.Res.getD (a0 + j).toNat 0 > 0 ∧ lowL c p a0 m k = p.H.getD (c.Head.getD (a0 + j).toNat 0).toNat 0 := by
      rcases ih with q | ⟨j, q1, q2, q3⟩
      · exact .inl q
      · exact .inr ⟨j, by omega, q2, q3⟩
    split
    · rename_i h1
      split
      · exact .inr ⟨k, by omega, h1, rfl⟩
      · exact old
    · exact old
theorem many_arc {c : Csr} (h : CsrT c) {u : Int} (hu : 0 ≤ u ∧ u < c.N) {j : Nat} (hj : j < manyOf c u) : 0 ≤ c.First.getD u.toNat 0 + (j : Int) ∧ c.First.getD u.toNat 0 + (j : Int) < c.Head.length ∧ tailOf c (c.First.getD u.toNat 0 + j) = u := by
  have hm := h.mono u.toNat (by omega)
  unfold manyOf at hj
  rw [show (u + 1).toNat = u.toNat + 1 by omega] at hj
  exact tail_of_arc h hu (by omega) (by omega)
theorem arc_many {c : Csr} (h : CsrT c) {a : Nat} (ha : a < c.Head.length) {u : Int} (ht : tailOf c a = u) : ∃ j, j < manyOf c u ∧ (a : Int) = c.First.getD u.toNat 0 + j := by
  obtain ⟨v, hv, ⟨q1, q2⟩, q3, -⟩ := h.tail_at (a := (a : Int)) (by omega) (by omega)
  have hvu : u = (v : Int) := by omega
  subst hvu
  refine ⟨((a : Int) - c.First.getD v 0).toNat, ?_, ?_⟩
  · unfold manyOf; rw [show ((v : Int) + 1).toNat = v + 1 by omega, Int.toNat_natCast]; omega
  · rw [Int.toNat_natCast]; omega
theorem lift_high {c : Csr} (h : CsrG c) {p : Pre} (hp : refR c p) {u : Int} (hu : 0 ≤ u ∧ u < c.N) (hs : stuckP c p u) : p.H.getD u.toNat 0 ≤ leastL c p u := by
  have hn := h.n
  unfold leastL
  have g := hp.1.1.2 u.toNat (by omega); unfold okV at g
  rcases lowL_at (c := c) (p := p) (a0 := c.First.getD u.toNat 0) (m := 2 * c.N) (manyOf c u) with q | ⟨j, q1, q2, q3⟩
  · rw [q]; omega
  · rw [q3]
    obtain ⟨t1, t2, t3⟩ := many_arc h.toCsrT hu q1
    have h1 := hs.1 j q1
    have h2 := hp.1.2 (c.First.getD u.toNat 0 + (j : Int)).toNat (by omega)
    rw [show (((c.First.getD u.toNat 0 + (j : Int)).toNat : Nat) : Int) = c.First.getD u.toNat 0 + j by omega, t3] at h2
    unfold admP at h1
    unfold steepA at h2
    omega
theorem lift_low {c : Csr} (h : CsrG c) {p : Pre} (hp : refR c p) {u : Int} (hu : 0 ≤ u ∧ u < c.N) (hs : stuckP c p u) : leastL c p u ≤ 2 * c.N - 2 := by
  have hn := h.n
  have hS := h.s
  have hT := h.t
  obtain ⟨hs1, ⟨hs2, hs3⟩, hs4⟩ := hs
  refine Decidable.byContradiction fun hno => ?_
  have hHT := hp.2.2
  have hHS := hp.2.1
  obtain ⟨i, hi, hfree⟩ := free_level (H := fun v => p.H.getD v 0) (N := c.N.toNat) (u := u.toNat) (t := c.T.toNat) (by omega) (by omega) (by omega) hHT (by omega)
  have hX := no_excess h hp (fun v => decide (v = u.toNat ∨ p.H.getD v 0 > (c.N.toNat : Int) + i)) (fun a ha h1 h2 => ?_)
  · have e : sumN (fun v => if v = u.toNat then p.Ex.getD u.toNat 0 else 0) c.N.toNat = p.Ex.getD u.toNat 0 := sumN_at _ _ (by omega)
    have hle : sumN (fun v => if v = u.toNat then p.Ex.getD u.toNat 0 else 0) c.N.toNat ≤ sumN (fun v => if decide (v = u.toNat ∨ p.H.getD v 0 > (c.N.toNat : Int) + i) = true then p.Ex.getD v 0 else 0) c.N.toNat := by
      refine sumN_le fun v hv => ?_
      by_cases hvu : v = u.toNat
      · subst hvu; rw [if_pos rfl, if_pos (by simp)]; omega
      · rw [if_neg hvu]
        split
        · rename_i hx
          have hx' := of_decide_eq_true hx
          have g := hp.1.1.2 v hv; unfold okV at g
          have hvS : (v : Int) ≠ c.S := fun q => by
            have : v = c.S.toNat := by omega
            subst this; omega
          have := g.1.1.2
          omega
        · exact Int.le_refl _
    omega
  · have h1' := of_decide_eq_true h1
    have h2' := of_decide_eq_false h2
    obtain ⟨v, hv, -, ht, -⟩ := h.toCsrT.tail_at (a := (a : Int)) (by omega) (by omega)
    have hhd := h.hd a ha
    have hpr := hp.1.1.1.2 a ha
    refine Decidable.byContradiction fun hres => ?_
    have hpos : p.Res.getD a 0 > 0 := by omega
    rcases h1' with q | q
    · have htu : tailOf c (a : Int) = u := by omega
      obtain ⟨j, j1, j2⟩ := arc_many h.toCsrT ha htu
      have := lowL_le (c := c) (p := p) (a0 := c.First.getD u.toNat 0) (m := 2 * c.N) j1 (by rw [← j2, Int.toNat_natCast]; exact hpos)
      rw [← j2, Int.toNat_natCast] at this
      have hl : leastL c p u = lowL c p (c.First.getD u.toNat 0) (2 * c.N) (manyOf c u) := rfl
      omega
    · have hf := hfree (c.Head.getD a 0).toNat (by omega) (fun w => h2' (.inl w))
      have hst := hp.1.2 a ha
      unfold steepA at hst
      rw [Int.toNat_natCast] at hst
      omega
end Go.Proofs.P7

set_option linter.unusedVariables false
set_option linter.unusedSimpArgs false
namespace Go.Proofs.P7
open Go Go.Sx Go.RowKit
/-- A push of a state that may be comes to one. -/
theorem push_right {c : Csr} (h : CsrG c) {p : Pre} (hp : refR c p) {a : Int} (ha : 0 ≤ a ∧ a < c.Head.length) (hq : pushesP c p a) : refR c (moveP c p a (pushD c p a)) := by
  have hR := (refR_iff h p).1 hp
  have hq' := hq
  obtain ⟨⟨⟨q1, q2⟩, q3⟩, q4, q5⟩ := hq'
  have htl := G_tail h ha
  obtain ⟨v, hv, ⟨t1, t2⟩, t3, -⟩ := h.toCsrT.tail_at ha.1 ha.2
  have hd : 1 ≤ pushD c p a ∧ pushD c p a ≤ p.Res.getD a.toNat 0 ∧ pushD c p a ≤ p.Ex.getD (tailOf c a).toNat 0 := by unfold pushD; split <;> omega
  have hlegal : legalE c p ⟨0, 1, tailOf c a, a, pushD c p a, p.H.getD (tailOf c a).toNat 0, p.H.getD (tailOf c a).toNat 0 - 1⟩ = 0 := by
    unfold legalE
    dsimp only
    rw [if_neg (by omega), if_neg (by omega)]
    unfold pushE
    dsimp only
    rw [t3, Int.toNat_natCast, show ((v : Int) + 1).toNat = v + 1 by omega]
    rw [t3, Int.toNat_natCast] at hd
    rw [if_neg (by omega), if_neg (by omega)]
  have hmv : doesP c p ⟨0, 1, tailOf c a, a, pushD c p a, p.H.getD (tailOf c a).toNat 0, p.H.getD (tailOf c a).toNat 0 - 1⟩ = moveP c p a (pushD c p a) := by
    unfold doesP moveP
    dsimp only
    rw [if_neg (by decide), ← htl]
  have hr := right_does h hR.1 hlegal
  rw [hmv] at hr
  refine (refR_iff h _).2 ⟨hr, hR.2.1, fun b hb hs => ?_⟩
  have hrv := h.rv a.toNat (by omega)
  have hne := h.rne a.toNat (by omega)
  have hl := hR.1.1.1
  obtain ⟨s1, s2⟩ := hs
  rw [Int.toNat_natCast] at s1 s2
  have hres : (moveP c p a (pushD c p a)).Res.getD b 0 = p.Res.getD b 0 + (if (c.Rev.getD a.toNat 0).toNat = b then pushD c p a else 0) - (if a.toNat = b then pushD c p a else 0) := by
    unfold moveP addAt subAt
    dsimp only
    rw [show ∀ A d : Int, A - d = A + -d from fun A d => by omega, two_set (by omega) (by omega)]
    split <;> split <;> omega
  have hHs : (moveP c p a (pushD c p a)).H = p.H := rfl
  rw [hHs] at s2
  by_cases hrb : (c.Rev.getD a.toNat 0).toNat = b
  · have r1 := h.rtl a.toNat (by omega)
    have r2 := h.rtl b hb
    have r3 := h.rrv a.toNat (by omega)
    rw [show ((a.toNat : Nat) : Int) = a by omega] at r1 r3
    rw [hrb] at r1 r3
    rw [r3] at r2
    rw [r2, ← r1] at s2
    omega
  · rw [hres, if_neg hrb] at s1
    refine hR.2.2 b hb ⟨?_, ?_⟩
    · rw [Int.toNat_natCast]; split at s1 <;> omega
    · rw [Int.toNat_natCast]; exact s2
/-- A lift of a state that may be comes to one. -/
theorem lift_right {c : Csr} (h : CsrG c) {p : Pre} (hp : refR c p) {u : Int} (hu : 0 ≤ u ∧ u < c.N) (hs : stuckP c p u) : refR c ⟨p.Res, p.Ex, p.H.set u.toNat (leastL c p u + 1)⟩ := by
  have hR := (refR_iff h p).1 hp
  have h1 := lift_high h hp hu hs
  have h2 := lift_low h hp hu hs
  obtain ⟨-, ⟨hs2, hs3⟩, hs4⟩ := hs
  have hl3 := hR.1.1.2.2
  have hn := h.n
  have hlegal : legalE c p ⟨0, 2, u, 0, 0, leastL c p u + 1, 0⟩ = 0 := by
    unfold legalE
    dsimp only
    rw [if_neg (by omega), if_pos rfl]
    unfold liftE
    dsimp only
    rw [if_neg (by omega)]
  have hr := right_does h hR.1 hlegal
  have hmv : doesP c p ⟨0, 2, u, 0, 0, leastL c p u + 1, 0⟩ = ⟨p.Res, p.Ex, p.H.set u.toNat (leastL c p u + 1)⟩ := by
    unfold doesP; dsimp only; rw [if_pos rfl]
  rw [hmv] at hr
  have hg : ∀ v : Nat, (p.H.set u.toNat (leastL c p u + 1)).getD v 0 = if u.toNat = v then leastL c p u + 1 else p.H.getD v 0 := fun v => getD_set _ _ _ _ (by omega)
  refine (refR_iff h _).2 ⟨hr, fun v hv => ?_, fun a ha hst => ?_⟩
  · show (p.H.set u.toNat (leastL c p u + 1)).getD v 0 < _
    rw [hg]
    have := hR.2.1 v hv
    split <;> omega
  · obtain ⟨s1, s2⟩ := hst
    have s1' : p.Res.getD a 0 > 0 := by rw [Int.toNat_natCast] at s1; exact s1
    have s2' : (p.H.set u.toNat (leastL c p u + 1)).getD (tailOf c (a : Int)).toNat 0 > (p.H.set u.toNat (leastL c p u + 1)).getD (c.Head.getD a 0).toNat 0 + 1 := by rw [Int.toNat_natCast] at s2; exact s2
    rw [hg, hg] at s2'
    have hno := hR.2.2 a ha
    unfold steepA at hno
    rw [Int.toNat_natCast] at hno
    obtain ⟨v, hv, -, ht, -⟩ := h.toCsrT.tail_at (a := (a : Int)) (by omega) (by omega)
    have hhd := h.hd a ha
    by_cases w1 : u.toNat = (tailOf c (a : Int)).toNat
    · rw [if_pos w1] at s2'
      by_cases w2 : u.toNat = (c.Head.getD a 0).toNat
      · rw [if_pos w2] at s2'; omega
      · rw [if_neg w2] at s2'
        obtain ⟨j, j1, j2⟩ := arc_many h.toCsrT ha (u := u) (by omega)
        have := lowL_le (c := c) (p := p) (a0 := c.First.getD u.toNat 0) (m := 2 * c.N) j1 (by rw [← j2, Int.toNat_natCast]; exact s1')
        rw [← j2, Int.toNat_natCast] at this
        have hl : leastL c p u = lowL c p (c.First.getD u.toNat 0) (2 * c.N) (manyOf c u) := rfl
        omega
    · rw [if_neg w1] at s2'
      by_cases w2 : u.toNat = (c.Head.getD a 0).toNat
      · rw [if_pos w2] at s2'
        rw [← w2] at hno
        omega
      · rw [if_neg w2] at s2'
        omega
end Go.Proofs.P7
