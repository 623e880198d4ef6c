/- PreTells answers true for every input that can be read, and leaves the input as it was. Part 4. -/
import Derived.Test.YtmmjpjhhbpehcaaW3
set_option linter.unusedVariables false
set_option linter.unusedSimpArgs false
set_option linter.unusedVariables false
set_option linter.unusedSimpArgs false
namespace Go.Proofs
open Go Go.Sx Go.RowKit
theorem G_tail {c : Csr} (h : CsrG c) {a : Int} (ha : 0 ≤ a ∧ a < c.Head.length) : tailOf c a = c.Head.getD (c.Rev.getD a.toNat 0).toNat 0 := by
  have := h.rtl a.toNat (by omega)
  rwa [show ((a.toNat : Nat) : Int) = a by omega] at this
-- f58 "acequia/acequiaref07.Copy"
set_option maxHeartbeats 8000000 in
set_option synthInstance.maxHeartbeats 400000 in
set_option synthInstance.maxSize 2000 in
theorem t_rCopy (p : Pre) (hl : p.Res.length ≤ 17592186044416 ∧ p.Ex.length ≤ 17592186044416 ∧ p.H.length ≤ 17592186044416) : Tri Try.prog 58 [.agg [.slc 0 0 p.Res.length none, .slc 1 0 p.Ex.length none, .slc 2 0 p.H.length none]] [SO.ints false .i64 p.Res, SO.ints false .i64 p.Ex, SO.ints false .i64 p.H] (fun s H => s = .agg [.slc 3 0 p.Res.length none, .slc 4 0 p.Ex.length none, .slc 5 0 p.H.length none] ∧ H = [SO.ints false .i64 p.Res, SO.ints false .i64 p.Ex, SO.ints false .i64 p.H, SO.ints true .i64 p.Res, SO.ints true .i64 p.Ex, SO.ints true .i64 p.H]) := by
  refine tri_of_w (fn := Try.f58) Try.func58 rfl (by simp [Try.f58]) ?_
  intro ρ w hρ
  refine w_seq ?_
  -- region 0
  refine w_region ?_
  refine rw_t 1 rfl rfl rfl (n_box_agg (n := 3) rfl rfl ?_)
  refine rw_t 2 rfl rfl rfl (n_alloc (n := 4) rfl ?_)
  refine rw_nil ?_
  refine w_seq ?_
  -- region 1
  refine w_region ?_
  refine rw_t 4 rfl rfl rfl (do_build (out := [_, _, _]) rfl rfl ?_)
  refine rw_t 3 rfl rfl rfl (n_alloc (n := 5) rfl ?_)
  refine rw_u rfl rfl (n_store_whole rfl rfl rfl rfl rfl rfl ?_)
  refine rw_nil ?_
  refine w_seq ?_
  -- region 2
  refine w_region ?_
  refine rw_t 5 rfl rfl rfl (do_fieldaddr rfl ?_)
  refine rw_t 6 rfl rfl rfl (do_load_box rfl rfl rfl ?_)
  refine rw_t 7 rfl rfl rfl (do_fieldaddr rfl ?_)
  refine rw_t 8 rfl rfl rfl (do_load_box rfl rfl rfl ?_)
  refine rw_weak 6 (.slc 0 0 0 (some 0)) rfl nil_weak ?_
  refine rw_t 9 rfl rfl rfl (n_app_e (nm := 6) rfl rfl rfl rfl rfl (by first | omega | (simp only [ls] <;> omega)) (by omega) (by omega) rfl ?_)
  refine rw_t 10 rfl rfl rfl (do_fieldaddr rfl ?_)
  refine rw_u rfl rfl (n_store_box (f := 0) rfl rfl rfl (Nat.le_of_ble_eq_true rfl) rfl ?_)
  refine rw_nil ?_
  refine w_seq ?_
  -- region 3
  refine w_region ?_
  refine rw_t 11 rfl rfl rfl (do_fieldaddr rfl ?_)
  refine rw_t 12 rfl rfl rfl (do_load_box rfl rfl rfl ?_)
  refine rw_t 13 rfl rfl rfl (do_fieldaddr rfl ?_)
  refine rw_t 14 rfl rfl rfl (do_load_box rfl rfl rfl ?_)
  refine rw_weak 12 (.slc 1 0 0 (some 0)) rfl nil_weak ?_
  refine rw_t 15 rfl rfl rfl (n_app_e (nm := 7) rfl rfl rfl rfl rfl (by first | omega | (simp only [ls] <;> omega)) (by omega) (by omega) rfl ?_)
  refine rw_t 16 rfl rfl rfl (do_fieldaddr rfl ?_)
  refine rw_u rfl rfl (n_store_box (f := 1) rfl rfl rfl (Nat.le_of_ble_eq_true rfl) rfl ?_)
  refine rw_nil ?_
  refine w_seq ?_
  -- region 4
  refine w_region ?_
  refine rw_t 17 rfl rfl rfl (do_fieldaddr rfl ?_)
  refine rw_t 18 rfl rfl rfl (do_load_box rfl rfl rfl ?_)
  refine rw_t 19 rfl rfl rfl (do_fieldaddr rfl ?_)
  refine rw_t 20 rfl rfl rfl (do_load_box rfl rfl rfl ?_)
  refine rw_weak 18 (.slc 2 0 0 (some 0)) rfl nil_weak ?_
  refine rw_t 21 rfl rfl rfl (n_app_e (nm := 8) rfl rfl rfl rfl rfl (by first | omega | (simp only [ls] <;> omega)) (by omega) (by omega) rfl ?_)
  refine rw_t 22 rfl rfl rfl (do_fieldaddr rfl ?_)
  refine rw_u rfl rfl (n_store_box (f := 2) rfl rfl rfl (Nat.le_of_ble_eq_true rfl) rfl ?_)
  refine rw_nil ?_
  refine w_seq ?_
  -- region 5
  refine w_region ?_
  refine rw_t 23 rfl rfl rfl (n_load_boxagg [_, _, _] rfl rfl (Nat.le_of_ble_eq_true rfl) rfl ?_)
  refine rw_u rfl rfl (n_store_whole rfl rfl rfl rfl rfl rfl ?_)
  refine rw_nil ?_
  refine w_ret ?_
  exact ret_eq (.inl rfl) (.cons (res_agg rfl rfl (Nat.le_of_ble_eq_true rfl)) .nil) [0, 1, 2, 6, 7, 8] (rfl) ⟨.inr ⟨_, rfl, .inl rfl⟩, .inr ⟨_, rfl, .inl rfl⟩, .inr ⟨_, rfl, .inl rfl⟩, .inr ⟨_, rfl, .inl rfl⟩, .inr ⟨_, rfl, .inl rfl⟩, .inr ⟨_, rfl, .inl rfl⟩, trivial⟩ rfl (pre_ok rfl)
-- f21 "acequia/acequiaref07.Active"
set_option maxHeartbeats 8000000 in
set_option synthInstance.maxHeartbeats 400000 in
set_option synthInstance.maxSize 2000 in
theorem t_rActive (c : Csr) (p : Pre) (h : CsrT c) (hp : PreIn c p) : Tri Try.prog 21 [.agg [.val (.int .i64 c.N), .val (.int .i64 c.S), .val (.int .i64 c.T), .slc 0 0 c.First.length none, .slc 1 0 c.Head.length none, .slc 2 0 c.Rev.length none, .slc 3 0 c.Cap.length none, .slc 4 0 c.Arc.length none, .slc 5 0 c.Back.length none], .agg [.slc 6 0 p.Res.length none, .slc 7 0 p.Ex.length none, .slc 8 0 p.H.length none]] [SO.ints false .i64 c.First, SO.ints false .i64 c.Head, SO.ints false .i64 c.Rev, SO.ints false .i64 c.Cap, SO.ints false .i64 c.Arc, SO.bools false c.Back, SO.ints false .i64 p.Res, SO.ints false .i64 p.Ex, SO.ints false .i64 p.H] (fun s H => s = .slc 9 0 ((activeL c p).length) none ∧ H = [SO.ints false .i64 c.First, SO.ints false .i64 c.Head, SO.ints false .i64 c.Rev, SO.ints false .i64 c.Cap, SO.ints false .i64 c.Arc, SO.bools false c.Back, SO.ints false .i64 p.Res, SO.ints false .i64 p.Ex, SO.ints false .i64 p.H, SO.ints true .i64 (activeL c p)]) := by
  refine tri_of_w (fn := Try.f21) Try.func21 rfl (by simp [Try.f21]) ?_
  intro ρ w hρ
  refine w_seq ?_
  have hn := h.n
  have hf := h.first
  have hhd := h.head
  have hrl := h.rev
  have hcl := h.cap
  have hal := h.arc
  have hbl := h.back
  have hr := hp.res
  have hx := hp.ex
  have hh := hp.h
  -- region 0
  refine w_region ?_
  refine rw_t 2 rfl rfl rfl (n_box_agg (n := 9) rfl rfl ?_)
  refine rw_t 3 rfl rfl rfl (n_box_agg (n := 10) rfl rfl ?_)
  refine rw_t 4 rfl rfl rfl (do_assign rfl ?_)
  refine rw_nil ?_
  refine w_seq ?_
  -- region 1
  refine w_region ?_
  refine rw_t 5 rfl rfl rfl (do_assign rfl ?_)
  refine rw_nil ?_
  refine w_seq ?_
  refine w_seq ?_
  -- region 2
  refine w_region ?_
  refine rw_t 6 rfl rfl rfl (do_assign rfl ?_)
  refine rw_nil ?_
  refine w_block ?_
  refine n_ghost Int 1 (encI .i64) 0 (fun _ => rfl) (fun _ _ h => by simp [encI] at h; subst h; rfl) ?_
  refine w_nilE 5 11 0 rfl ?_
  refine w_loopS (ι := Nat) (fun i => [(2, .ptr 9 0 0), (3, .ptr 10 0 0), (4, .val (.slice none 0 0)), (5, .slc 11 0 ((selK (actQ c p) i).length) none), (6, .val (.int .i64 ((i : Nat) : Int)))]) (fun i => [SO.ints false .i64 c.First, SO.ints false .i64 c.Head, SO.ints false .i64 c.Rev, SO.ints false .i64 c.Cap, SO.ints false .i64 c.Arc, SO.bools false c.Back, SO.ints false .i64 p.Res, SO.ints false .i64 p.Ex, SO.ints false .i64 p.H, .box [.val (.int .i64 c.N), .val (.int .i64 c.S), .val (.int .i64 c.T), .slc 0 0 c.First.length none, .slc 1 0 c.Head.length none, .slc 2 0 c.Rev.length none, .slc 3 0 c.Cap.length none, .slc 4 0 c.Arc.length none, .slc 5 0 c.Back.length none], .box [.slc 6 0 p.Res.length none, .slc 7 0 p.Ex.length none, .slc 8 0 p.H.length none], SO.ints true .i64 (selK (actQ c p) i)]) (fun i => c.N.toNat - i) (fun i => i ≤ c.N.toNat) (0) [0, 1, 2, 3, 4, 5, 6, 7, 8, 9, 10, 11] (by simp) ⟨.inr ⟨_, rfl, .inl rfl⟩, .inr ⟨_, rfl, .inl rfl⟩, .inr ⟨_, rfl, .inl rfl⟩, .inr ⟨_, rfl, .inl rfl⟩, .inr ⟨_, rfl, .inl rfl⟩, .inr ⟨_, rfl, .inl rfl⟩, .inr ⟨_, rfl, .inl rfl⟩, .inr ⟨_, rfl, .inl rfl⟩, .inr ⟨_, rfl, .inl rfl⟩, .inr ⟨_, rfl, .inl rfl⟩, .inr ⟨_, rfl, .inl rfl⟩, .inr ⟨_, rfl, .inl rfl⟩, trivial⟩ rfl (pre_ok rfl) hρ ⟨⟨_, rfl, rfl⟩, ⟨_, rfl, rfl⟩, ⟨_, rfl, rfl⟩, ⟨_, rfl, rfl⟩, ⟨_, rfl, rfl⟩, trivial⟩ ?_
  intro i hi
  have hsl := selK_len (actQ c p) i
  refine w_seq ?_
  refine w_seq ?_
  -- region 3
  refine w_region ?_
  refine rw_t 7 rfl rfl rfl (do_move rfl ?_)
  refine rw_t 8 rfl rfl rfl (do_fieldaddr rfl ?_)
  refine rw_t 9 rfl rfl rfl (do_load_box rfl rfl rfl ?_)
  refine rw_t 10 rfl rfl rfl (do_bin rfl rfl rfl ?_)
  refine rw_nil ?_
  refine w_cond rfl (fun hc1 => ?_) (fun hc1 => ?_)
  all_goals try simp only [bs] at hc1
  rotate_left
  · refine w_exit ?_ -- exit 0
    refine w_seq ?_
    -- region 7
    refine w_region ?_
    refine rw_t 35 rfl rfl rfl (do_move rfl ?_)
    refine rw_t 4 rfl rfl rfl (do_assign rfl ?_)
    refine rw_nil ?_
    have hi' : i = c.N.toNat := by omega
    subst hi'
    refine w_ret ?_
    -- RESULT .slc 11 0 ((selK (actQ c p) i).length) none, WANTED .slc 9 0 ((activeL c p).length) none
    exact ret_eq (.inl rfl) (.cons (res_tmp rfl) .nil) [0, 1, 2, 3, 4, 5, 6, 7, 8, 11] (rfl) ⟨.inr ⟨_, rfl, .inl rfl⟩, .inr ⟨_, rfl, .inl rfl⟩, .inr ⟨_, rfl, .inl rfl⟩, .inr ⟨_, rfl, .inl rfl⟩, .inr ⟨_, rfl, .inl rfl⟩, .inr ⟨_, rfl, .inl rfl⟩, .inr ⟨_, rfl, .inl rfl⟩, .inr ⟨_, rfl, .inl rfl⟩, .inr ⟨_, rfl, .inl rfl⟩, .inr ⟨_, rfl, .inl rfl⟩, trivial⟩ rfl (pre_ok rfl)
  refine w_skip ?_
  refine w_seq ?_
  refine w_block ?_
  refine w_seqB 30 (((((i : Nat) : Int) ≠ c.S ∧ ((i : Nat) : Int) ≠ c.T) ∧ (p.Ex.getD i 0) > 0)) ?_ ?_
  · -- region 5
    refine w_region ?_
    refine rw_t 13 rfl rfl rfl (do_move rfl ?_)
    refine rw_t 14 rfl rfl rfl (do_fieldaddr rfl ?_)
    refine rw_t 15 rfl rfl rfl (do_load_box rfl rfl rfl ?_)
    refine rw_t 16 rfl rfl rfl (do_bin rfl rfl rfl ?_)
    refine rw_t 17 rfl rfl rfl (do_move rfl ?_)
    refine rw_case 17 rfl (fun g1 => ?_) (fun g1 => ?_)
    · have kg1 := g1
      try simp only [bs] at kg1
      refine rw_gt 18 4 17 true rfl rfl rfl rfl rfl rfl g1 (do_move rfl ?_)
      refine rw_gt 19 4 17 true rfl rfl rfl rfl rfl rfl g1 (do_fieldaddr rfl ?_)
      refine rw_gt 20 4 17 true rfl rfl rfl rfl rfl rfl g1 (do_load_box rfl rfl rfl ?_)
      refine rw_gt 21 4 17 true rfl rfl rfl rfl rfl rfl g1 (do_bin rfl rfl rfl ?_)
      refine rw_t 22 rfl rfl rfl (do_pick_t rfl g1 rfl ?_)
      refine rw_t 23 rfl rfl rfl (do_move rfl ?_)
      refine rw_case 23 rfl (fun g2 => ?_) (fun g2 => ?_)
      · have kg2 := g2
        try simp only [bs] at kg2
        refine rw_gt 24 10 23 true rfl rfl rfl rfl rfl rfl g2 (do_fieldaddr rfl ?_)
        refine rw_gt 25 10 23 true rfl rfl rfl rfl rfl rfl g2 (do_load_box rfl rfl rfl ?_)
        refine rw_gt 26 10 23 true rfl rfl rfl rfl rfl rfl g2 (do_move rfl ?_)
        refine rw_gt 27 10 23 true rfl rfl rfl rfl rfl rfl g2 (do_ixn rfl rfl rfl (by first | omega | (simp only [ls] <;> omega)) ?_)
        refine rw_gt 28 10 23 true rfl rfl rfl rfl rfl rfl g2 (do_load_arr rfl rfl (by first | omega | (simp only [ls] <;> omega)) rfl ?_)
        refine rw_gt 29 10 23 true rfl rfl rfl rfl rfl rfl g2 (do_bin rfl rfl rfl ?_)
        refine rw_t 30 rfl rfl rfl (do_pick_t rfl g2 rfl ?_)
        refine rw_nil ?_
        refine ⟨rfl, ⟨_, rfl, by first | (simp; done) | (simp only [bs]; omega) | (simp [*]; done) | (simp; omega) | (constructor <;> intro h <;> simp_all <;> omega)⟩, ?_⟩
        repeat (refine ⟨⟨_, rfl, rfl⟩, ?_⟩)
        exact trivial
      · have kg2 := g2
        try simp only [bs] at kg2
        refine rw_gf 24 10 23 true rfl rfl rfl rfl rfl rfl (by rw [g2]; decide) ?_
        refine rw_gf 25 10 23 true rfl rfl rfl rfl rfl rfl (by rw [g2]; decide) ?_
        refine rw_gf 26 10 23 true rfl rfl rfl rfl rfl rfl (by rw [g2]; decide) ?_
        refine rw_gf 27 10 23 true rfl rfl rfl rfl rfl rfl (by rw [g2]; decide) ?_
        refine rw_gf 28 10 23 true rfl rfl rfl rfl rfl rfl (by rw [g2]; decide) ?_
        refine rw_gf 29 10 23 true rfl rfl rfl rfl rfl rfl (by rw [g2]; decide) ?_
        refine rw_t 30 rfl rfl rfl (do_pick_f rfl g2 rfl ?_)
        refine rw_nil ?_
        refine ⟨rfl, ⟨_, rfl, by first | (simp; done) | (simp only [bs]; omega) | (simp [*]; done) | (simp; omega) | (constructor <;> intro h <;> simp_all <;> omega)⟩, ?_⟩
        repeat (refine ⟨⟨_, rfl, rfl⟩, ?_⟩)
        exact trivial
    · have kg1 := g1
      try simp only [bs] at kg1
      refine rw_gf 18 4 17 true rfl rfl rfl rfl rfl rfl (by rw [g1]; decide) ?_
      refine rw_gf 19 4 17 true rfl rfl rfl rfl rfl rfl (by rw [g1]; decide) ?_
      refine rw_gf 20 4 17 true rfl rfl rfl rfl rfl rfl (by rw [g1]; decide) ?_
      refine rw_gf 21 4 17 true rfl rfl rfl rfl rfl rfl (by rw [g1]; decide) ?_
      refine rw_t 22 rfl rfl rfl (do_pick_f rfl g1 rfl ?_)
      refine rw_t 23 rfl rfl rfl (do_move rfl ?_)
      refine rw_gf 24 10 23 true rfl rfl rfl rfl rfl rfl (by decide) ?_
      refine rw_gf 25 10 23 true rfl rfl rfl rfl rfl rfl (by decide) ?_
      refine rw_gf 26 10 23 true rfl rfl rfl rfl rfl rfl (by decide) ?_
      refine rw_gf 27 10 23 true rfl rfl rfl rfl rfl rfl (by decide) ?_
      refine rw_gf 28 10 23 true rfl rfl rfl rfl rfl rfl (by decide) ?_
      refine rw_gf 29 10 23 true rfl rfl rfl rfl rfl rfl (by decide) ?_
      refine rw_t 30 rfl rfl rfl (do_pick_f rfl rfl rfl ?_)
      refine rw_nil ?_
      refine ⟨rfl, ⟨_, rfl, by first | (simp; done) | (simp only [bs]; omega) | (simp [*]; done) | (simp; omega) | (constructor <;> intro h <;> simp_all <;> omega)⟩, ?_⟩
      repeat (refine ⟨⟨_, rfl, rfl⟩, ?_⟩)
      exact trivial
  intro b1 hb1
  refine w_condP hb1 rfl (fun hc2 => ?_) (fun hc2 => ?_)
  · -- region 6
    refine w_region ?_
    refine rw_t 31 rfl rfl rfl (do_move rfl ?_)
    refine rw_t 32 rfl rfl rfl (do_move rfl ?_)
    refine rw_t 33 rfl rfl rfl (n_bs (nm := 12) Int (encI .i64) 0 [((i : Nat) : Int)] rfl rfl rfl rfl rfl (fun _ => rfl) (fun _ _ h => by simp [encI] at h; subst h; rfl) rfl ?_)
    refine rw_t 34 rfl rfl rfl (n_app_own (nm := 13) rfl rfl rfl rfl rfl (by first | omega | (simp only [ls] <;> omega)) (by first | omega | (simp only [ls] <;> omega)) (by omega) (by omega) rfl ?_)
    refine rw_t 5 rfl rfl rfl (do_assign rfl ?_)
    refine rw_nil ?_
    -- region 4
    refine w_region ?_
    refine rw_t 11 rfl rfl rfl (do_move rfl ?_)
    refine rw_t 12 rfl rfl rfl (do_add rfl rfl (by omega) ?_)
    refine rw_t 6 rfl rfl rfl (do_assign rfl ?_)
    refine rw_nil ?_
    have hq : actQ c p i = true := decide_eq_true hc2
    refine ⟨i + 1, [0, 1, 2, 3, 4, 5, 6, 7, 8, 9, 10, 13], by dsimp only; omega, by omega, ⟨.inr ⟨_, rfl, .inl rfl⟩, .inr ⟨_, rfl, .inl rfl⟩, .inr ⟨_, rfl, .inl rfl⟩, .inr ⟨_, rfl, .inl rfl⟩, .inr ⟨_, rfl, .inl rfl⟩, .inr ⟨_, rfl, .inl rfl⟩, .inr ⟨_, rfl, .inl rfl⟩, .inr ⟨_, rfl, .inl rfl⟩, .inr ⟨_, rfl, .inl rfl⟩, .inr ⟨_, rfl, .inl rfl⟩, .inr ⟨_, rfl, .inl rfl⟩, .inr ⟨_, rfl, .inl (congrArg (SO.ints true .i64) (selK_one hq))⟩, trivial⟩, rfl, pre_ok rfl, ⟨⟨_, rfl, rfl⟩, ⟨_, rfl, rfl⟩, ⟨_, rfl, rfl⟩, ⟨_, rfl, (congrArg (fun n => SV.slc 13 0 n none) (by rw [selK_one hq, List.length_append]; rfl : (selK (actQ c p) i).length + 1 = (selK (actQ c p) (i + 1)).length)).trans rfl⟩, ⟨_, rfl, rfl⟩, trivial⟩⟩
  · refine w_skip ?_
    -- region 4
    refine w_region ?_
    refine rw_t 11 rfl rfl rfl (do_move rfl ?_)
    refine rw_t 12 rfl rfl rfl (do_add rfl rfl (by omega) ?_)
    refine rw_t 6 rfl rfl rfl (do_assign rfl ?_)
    refine rw_nil ?_
    have hq : ¬ actQ c p i = true := fun q => hc2 (of_decide_eq_true q)
    refine ⟨i + 1, [0, 1, 2, 3, 4, 5, 6, 7, 8, 9, 10, 11], by dsimp only; omega, by omega, ⟨.inr ⟨_, rfl, .inl rfl⟩, .inr ⟨_, rfl, .inl rfl⟩, .inr ⟨_, rfl, .inl rfl⟩, .inr ⟨_, rfl, .inl rfl⟩, .inr ⟨_, rfl, .inl rfl⟩, .inr ⟨_, rfl, .inl rfl⟩, .inr ⟨_, rfl, .inl rfl⟩, .inr ⟨_, rfl, .inl rfl⟩, .inr ⟨_, rfl, .inl rfl⟩, .inr ⟨_, rfl, .inl rfl⟩, .inr ⟨_, rfl, .inl rfl⟩, .inr ⟨_, rfl, .inl (congrArg (SO.ints true .i64) (selK_none hq))⟩, trivial⟩, rfl, pre_ok rfl, ⟨⟨_, rfl, rfl⟩, ⟨_, rfl, rfl⟩, ⟨_, rfl, rfl⟩, ⟨_, rfl, (congrArg (fun n => SV.slc 11 0 n none) (by rw [selK_none hq] : (selK (actQ c p) i).length = (selK (actQ c p) (i + 1)).length)).trans rfl⟩, ⟨_, rfl, rfl⟩, trivial⟩⟩
-- f56 "acequia/acequiaref07.pushes"
set_option maxHeartbeats 8000000 in
set_option synthInstance.maxHeartbeats 400000 in
set_option synthInstance.maxSize 2000 in
theorem t_pushes (c : Csr) (p : Pre) (h : CsrG c) (hp : PreIn c p) (a : Int) (ha : 0 ≤ a ∧ a < c.Head.length) : Tri Try.prog 56 [.agg [.val (.int .i64 c.N), .val (.int .i64 c.S), .val (.int .i64 c.T), .slc 0 0 c.First.length none, .slc 1 0 c.Head.length none, .slc 2 0 c.Rev.length none, .slc 3 0 c.Cap.length none, .slc 4 0 c.Arc.length none, .slc 5 0 c.Back.length none], .agg [.slc 6 0 p.Res.length none, .slc 7 0 p.Ex.length none, .slc 8 0 p.H.length none], .val (.int .i64 a)] [SO.ints false .i64 c.First, SO.ints false .i64 c.Head, SO.ints false .i64 c.Rev, SO.ints false .i64 c.Cap, SO.ints false .i64 c.Arc, SO.bools false c.Back, SO.ints false .i64 p.Res, SO.ints false .i64 p.Ex, SO.ints false .i64 p.H] (fun s H => s = .val (.bool (decide (pushesP c p a))) ∧ H = [SO.ints false .i64 c.First, SO.ints false .i64 c.Head, SO.ints false .i64 c.Rev, SO.ints false .i64 c.Cap, SO.ints false .i64 c.Arc, SO.bools false c.Back, SO.ints false .i64 p.Res, SO.ints false .i64 p.Ex, SO.ints false .i64 p.H]) := by
  refine tri_of_w (fn := Try.f56) Try.func56 rfl (by simp [Try.f56]) ?_
  intro ρ w hρ
  refine w_seq ?_
  have hn := h.n
  have hf := h.first
  have hhd := h.head
  have hrl := h.rev
  have hcl := h.cap
  have hal := h.arc
  have hbl := h.back
  have hr := hp.res
  have hx := hp.ex
  have hh := hp.h
  obtain ⟨tv, ht1, ht2, ht3, ht4⟩ := h.toCsrT.tail_at ha.1 ha.2
  have hu : 0 ≤ tailOf c a ∧ tailOf c a < c.N := by omega
  have hd1 := h.hd a.toNat (by omega)
  have hy1 := hp.hi (c.Head.getD a.toNat 0).toNat
  -- region 0
  refine w_region ?_
  refine rw_t 3 rfl rfl rfl (n_box_agg (n := 9) rfl rfl ?_)
  refine rw_t 4 rfl rfl rfl (n_box_agg (n := 10) rfl rfl ?_)
  refine rw_t 6 rfl rfl rfl (do_assign rfl ?_)
  refine rw_nil ?_
  refine w_seq ?_
  -- region 1
  refine w_region ?_
  refine rw_t 8 rfl rfl rfl (n_load_boxagg [_, _, _, _, _, _, _, _, _] rfl rfl (Nat.le_of_ble_eq_true rfl) rfl ?_)
  refine rw_t 9 rfl rfl rfl (do_move rfl ?_)
  refine rw_t 10 rfl rfl rfl (do_callR (X' := .val (.int .i64 (tailOf c a))) rfl rfl (t_rTail (c := c) (a := a) (h.toCsrLen)) [0, 1, 2, 3, 4, 5] ⟨.inr ⟨_, rfl, srv⟩, .inr ⟨_, rfl, srv⟩, .inr ⟨_, rfl, srv⟩, .inr ⟨_, rfl, srv⟩, .inr ⟨_, rfl, srv⟩, .inr ⟨_, rfl, srv⟩, trivial⟩ rfl rfl rfl ?_)
  refine rw_t 7 rfl rfl rfl (do_assign rfl ?_)
  refine rw_nil ?_
  refine w_env [(2, .val (.int .i64 a)), (3, .ptr 9 0 0), (4, .ptr 10 0 0), (7, .val (.int .i64 (tailOf c a)))] ⟨⟨_, rfl, rfl⟩, ⟨_, rfl, rfl⟩, ⟨_, rfl, rfl⟩, ⟨_, rfl, rfl⟩, trivial⟩ ?_
  refine w_seqB 6 (((((tailOf c a ≠ c.S ∧ tailOf c a ≠ c.T) ∧ (p.Ex.getD ((tailOf c a).toNat) 0) > 0) ∧ (p.Res.getD a.toNat 0) > 0) ∧ (p.H.getD ((tailOf c a).toNat) 0) = ((p.H.getD ((c.Head.getD a.toNat 0).toNat) 0) + 1))) ?_ ?_
  · -- region 2
    refine w_draw mixed [0, 0, 2, 7, 15, 31, 31, 95, 255, 511, 1023, 2047, 4095, 2047, 16383, 32767, 65535, 131071, 262143, 524287, 1048575, 524287, 4194303, 8388607, 16777215, 33554431, 67108863, 134217727, 268435455, 134217727, 1073741823, 2147483647, 134217727, 4429185023, 134217727, 17314086911, 134217727, 120393302015, 257832255487, 545595064319, 1095350878207, 2194862505983] [4398046511103, 8796093022207, 17592186044415] (by kernel_rfl) (by kernel_rfl) rfl rfl rfl (hle hρ rfl) ?_
    refine ra_q (j := 0) rfl rfl rfl rfl (do_move rfl ⟨rfl, rfl⟩) (by rfl) ?_
    refine ra_q (j := 1) rfl rfl rfl rfl (do_fieldaddr rfl ⟨rfl, rfl⟩) (by rfl) ?_
    refine ra_q (j := 2) rfl rfl rfl rfl (do_load_box rfl rfl rfl ⟨rfl, rfl⟩) (by rfl) ?_
    refine ra_q (j := 3) rfl rfl rfl rfl (do_bin rfl rfl rfl ⟨rfl, rfl⟩) (by rfl) ?_
    refine ra_q (j := 4) rfl rfl rfl rfl (do_move rfl ⟨rfl, rfl⟩) (by rfl) ?_
    refine ra_case 15 rfl (fun g1 => ?_) (fun g1 => ?_)
    · have kg1 := g1
      try simp only [bs] at kg1
      refine ra_gt (j := 5) rfl rfl rfl rfl g1 rfl rfl rfl (do_move rfl ⟨rfl, rfl⟩) (by rfl) ?_
      refine ra_gt (j := 6) rfl rfl rfl rfl g1 rfl rfl rfl (do_fieldaddr rfl ⟨rfl, rfl⟩) (by rfl) ?_
      refine ra_gt (j := 7) rfl rfl rfl rfl g1 rfl rfl rfl (do_load_box rfl rfl rfl ⟨rfl, rfl⟩) (by rfl) ?_
      refine ra_gt (j := 8) rfl rfl rfl rfl g1 rfl rfl rfl (do_bin rfl rfl rfl ⟨rfl, rfl⟩) (by rfl) ?_
      refine ra_q (j := 9) rfl rfl rfl rfl (do_pick_t rfl g1 rfl ⟨rfl, rfl⟩) (by rfl) ?_
      refine ra_q (j := 10) rfl rfl rfl rfl (do_move rfl ⟨rfl, rfl⟩) (by rfl) ?_
      refine ra_case 21 rfl (fun g2 => ?_) (fun g2 => ?_)
      · have kg2 := g2
        try simp only [bs] at kg2
        refine ra_gt (j := 11) rfl rfl rfl rfl g2 rfl rfl rfl (do_fieldaddr rfl ⟨rfl, rfl⟩) (by rfl) ?_
        refine ra_gt (j := 12) rfl rfl rfl rfl g2 rfl rfl rfl (do_load_box rfl rfl rfl ⟨rfl, rfl⟩) (by rfl) ?_
        refine ra_gt (j := 13) rfl rfl rfl rfl g2 rfl rfl rfl (do_move rfl ⟨rfl, rfl⟩) (by rfl) ?_
        refine ra_gt (j := 14) rfl rfl rfl rfl g2 rfl rfl rfl (do_ix0 rfl rfl rfl (by first | omega | (simp only [ls] <;> omega)) ⟨rfl, rfl⟩) (by rfl) ?_
        refine ra_gt (j := 15) rfl rfl rfl rfl g2 rfl rfl rfl (do_load_arr rfl rfl (by first | omega | (simp only [ls] <;> omega)) rfl ⟨rfl, rfl⟩) (by rfl) ?_
        refine ra_gt (j := 16) rfl rfl rfl rfl g2 rfl rfl rfl (do_bin rfl rfl rfl ⟨rfl, rfl⟩) (by rfl) ?_
        refine ra_q (j := 17) rfl rfl rfl rfl (do_pick_t rfl g2 rfl ⟨rfl, rfl⟩) (by rfl) ?_
        refine ra_q (j := 18) rfl rfl rfl rfl (do_move rfl ⟨rfl, rfl⟩) (by rfl) ?_
        refine ra_case 29 rfl (fun g3 => ?_) (fun g3 => ?_)
        · have kg3 := g3
          try simp only [bs] at kg3
          refine ra_gt (j := 19) rfl rfl rfl rfl g3 rfl rfl rfl (do_fieldaddr rfl ⟨rfl, rfl⟩) (by rfl) ?_
          refine ra_gt (j := 20) rfl rfl rfl rfl g3 rfl rfl rfl (do_load_box rfl rfl rfl ⟨rfl, rfl⟩) (by rfl) ?_
          refine ra_gt (j := 21) rfl rfl rfl rfl g3 rfl rfl rfl (do_move rfl ⟨rfl, rfl⟩) (by rfl) ?_
          refine ra_gt (j := 22) rfl rfl rfl rfl g3 rfl rfl rfl (do_ix0 rfl rfl rfl (by first | omega | (simp only [ls] <;> omega)) ⟨rfl, rfl⟩) (by rfl) ?_
          refine ra_gt (j := 23) rfl rfl rfl rfl g3 rfl rfl rfl (do_load_arr rfl rfl (by first | omega | (simp only [ls] <;> omega)) rfl ⟨rfl, rfl⟩) (by rfl) ?_
          refine ra_gt (j := 24) rfl rfl rfl rfl g3 rfl rfl rfl (do_bin rfl rfl rfl ⟨rfl, rfl⟩) (by rfl) ?_
          refine ra_q (j := 25) rfl rfl rfl rfl (do_pick_t rfl g3 rfl ⟨rfl, rfl⟩) (by rfl) ?_
          refine ra_q (j := 26) rfl rfl rfl rfl (do_move rfl ⟨rfl, rfl⟩) (by rfl) ?_
          refine ra_case 37 rfl (fun g4 => ?_) (fun g4 => ?_)
          · have kg4 := g4
            try simp only [bs] at kg4
            refine ra_gt (j := 27) rfl rfl rfl rfl g4 rfl rfl rfl (do_fieldaddr rfl ⟨rfl, rfl⟩) (by rfl) ?_
            refine ra_gt (j := 28) rfl rfl rfl rfl g4 rfl rfl rfl (do_load_box rfl rfl rfl ⟨rfl, rfl⟩) (by rfl) ?_
            refine ra_gt (j := 29) rfl rfl rfl rfl g4 rfl rfl rfl (do_move rfl ⟨rfl, rfl⟩) (by rfl) ?_
            refine ra_gt (j := 30) rfl rfl rfl rfl g4 rfl rfl rfl (do_ix0 rfl rfl rfl (by first | omega | (simp only [ls] <;> omega)) ⟨rfl, rfl⟩) (by rfl) ?_
            refine ra_gt (j := 31) rfl rfl rfl rfl g4 rfl rfl rfl (do_load_arr rfl rfl (by first | omega | (simp only [ls] <;> omega)) rfl ⟨rfl, rfl⟩) (by rfl) ?_
            refine ra_gt (j := 32) rfl rfl rfl rfl g4 rfl rfl rfl (do_fieldaddr rfl ⟨rfl, rfl⟩) (by rfl) ?_
            refine ra_gt (j := 33) rfl rfl rfl rfl g4 rfl rfl rfl (do_load_box rfl rfl rfl ⟨rfl, rfl⟩) (by rfl) ?_
            refine ra_gt (j := 34) rfl rfl rfl rfl g4 rfl rfl rfl (do_fieldaddr rfl ⟨rfl, rfl⟩) (by rfl) ?_
            refine ra_gt (j := 35) rfl rfl rfl rfl g4 rfl rfl rfl (do_load_box rfl rfl rfl ⟨rfl, rfl⟩) (by rfl) ?_
            refine ra_gt (j := 36) rfl rfl rfl rfl g4 rfl rfl rfl (do_move rfl ⟨rfl, rfl⟩) (by rfl) ?_
            refine ra_gt (j := 37) rfl rfl rfl rfl g4 rfl rfl rfl (do_ix0 rfl rfl rfl (by first | omega | (simp only [ls] <;> omega)) ⟨rfl, rfl⟩) (by rfl) ?_
            refine ra_gt (j := 38) rfl rfl rfl rfl g4 rfl rfl rfl (do_load_arr rfl rfl (by first | omega | (simp only [ls] <;> omega)) rfl ⟨rfl, rfl⟩) (by rfl) ?_
            refine ra_gt (j := 39) rfl rfl rfl rfl g4 rfl rfl rfl (do_ix0 rfl rfl rfl (by first | omega | (simp only [ls] <;> omega)) ⟨rfl, rfl⟩) (by rfl) ?_
            refine ra_gt (j := 40) rfl rfl rfl rfl g4 rfl rfl rfl (do_load_arr rfl rfl (by first | omega | (simp only [ls] <;> omega)) rfl ⟨rfl, rfl⟩) (by rfl) ?_
            refine ra_gt (j := 41) rfl rfl rfl rfl g4 rfl rfl rfl (do_add rfl rfl (by omega) ⟨rfl, rfl⟩) (by rfl) ?_
            refine n_done ?_
            refine rw_gt 53 26 37 true rfl rfl rfl rfl rfl rfl g4 (do_bin rfl rfl rfl ?_)
            refine rw_t 54 rfl rfl rfl (do_pick_t rfl g4 rfl ?_)
            refine rw_t 6 rfl rfl rfl (do_assign rfl ?_)
            refine rw_nil ?_
            refine ⟨rfl, ⟨_, rfl, by first | (simp; done) | (simp only [bs]; omega) | (simp [*]; done) | (simp; omega) | (constructor <;> intro h <;> simp_all <;> omega)⟩, ?_⟩
            repeat (refine ⟨⟨_, rfl, rfl⟩, ?_⟩)
            exact trivial
          · have kg4 := g4
            try simp only [bs] at kg4
            refine ra_gf (j := 27) rfl rfl rfl rfl (by rw [g4]; decide) rfl rfl rfl ?_
            refine ra_gf (j := 28) rfl rfl rfl rfl (by rw [g4]; decide) rfl rfl rfl ?_
            refine ra_gf (j := 29) rfl rfl rfl rfl (by rw [g4]; decide) rfl rfl rfl ?_
            refine ra_gf (j := 30) rfl rfl rfl rfl (by rw [g4]; decide) rfl rfl rfl ?_
            refine ra_gf (j := 31) rfl rfl rfl rfl (by rw [g4]; decide) rfl rfl rfl ?_
            refine ra_gf (j := 32) rfl rfl rfl rfl (by rw [g4]; decide) rfl rfl rfl ?_
            refine ra_gf (j := 33) rfl rfl rfl rfl (by rw [g4]; decide) rfl rfl rfl ?_
            refine ra_gf (j := 34) rfl rfl rfl rfl (by rw [g4]; decide) rfl rfl rfl ?_
            refine ra_gf (j := 35) rfl rfl rfl rfl (by rw [g4]; decide) rfl rfl rfl ?_
            refine ra_gf (j := 36) rfl rfl rfl rfl (by rw [g4]; decide) rfl rfl rfl ?_
            refine ra_gf (j := 37) rfl rfl rfl rfl (by rw [g4]; decide) rfl rfl rfl ?_
            refine ra_gf (j := 38) rfl rfl rfl rfl (by rw [g4]; decide) rfl rfl rfl ?_
            refine ra_gf (j := 39) rfl rfl rfl rfl (by rw [g4]; decide) rfl rfl rfl ?_
            refine ra_gf (j := 40) rfl rfl rfl rfl (by rw [g4]; decide) rfl rfl rfl ?_
            refine ra_gf (j := 41) rfl rfl rfl rfl (by rw [g4]; decide) rfl rfl rfl ?_
            refine n_done ?_
            refine rw_gf 53 26 37 true rfl rfl rfl rfl rfl rfl (by rw [g4]; decide) ?_
            refine rw_t 54 rfl rfl rfl (do_pick_f rfl g4 rfl ?_)
            refine rw_t 6 rfl rfl rfl (do_assign rfl ?_)
            refine rw_nil ?_
            refine ⟨rfl, ⟨_, rfl, by first | (simp; done) | (simp only [bs]; omega) | (simp [*]; done) | (simp; omega) | (constructor <;> intro h <;> simp_all <;> omega)⟩, ?_⟩
            repeat (refine ⟨⟨_, rfl, rfl⟩, ?_⟩)
            exact trivial
        · have kg3 := g3
          try simp only [bs] at kg3
          refine ra_gf (j := 19) rfl rfl rfl rfl (by rw [g3]; decide) rfl rfl rfl ?_
          refine ra_gf (j := 20) rfl rfl rfl rfl (by rw [g3]; decide) rfl rfl rfl ?_
          refine ra_gf (j := 21) rfl rfl rfl rfl (by rw [g3]; decide) rfl rfl rfl ?_
          refine ra_gf (j := 22) rfl rfl rfl rfl (by rw [g3]; decide) rfl rfl rfl ?_
          refine ra_gf (j := 23) rfl rfl rfl rfl (by rw [g3]; decide) rfl rfl rfl ?_
          refine ra_gf (j := 24) rfl rfl rfl rfl (by rw [g3]; decide) rfl rfl rfl ?_
          refine ra_q (j := 25) rfl rfl rfl rfl (do_pick_f rfl g3 rfl ⟨rfl, rfl⟩) (by rfl) ?_
          refine ra_q (j := 26) rfl rfl rfl rfl (do_move rfl ⟨rfl, rfl⟩) (by rfl) ?_
          refine ra_gf (j := 27) rfl rfl rfl rfl (by decide) rfl rfl rfl ?_
          refine ra_gf (j := 28) rfl rfl rfl rfl (by decide) rfl rfl rfl ?_
          refine ra_gf (j := 29) rfl rfl rfl rfl (by decide) rfl rfl rfl ?_
          refine ra_gf (j := 30) rfl rfl rfl rfl (by decide) rfl rfl rfl ?_
          refine ra_gf (j := 31) rfl rfl rfl rfl (by decide) rfl rfl rfl ?_
          refine ra_gf (j := 32) rfl rfl rfl rfl (by decide) rfl rfl rfl ?_
          refine ra_gf (j := 33) rfl rfl rfl rfl (by decide) rfl rfl rfl ?_
          refine ra_gf (j := 34) rfl rfl rfl rfl (by decide) rfl rfl rfl ?_
          refine ra_gf (j := 35) rfl rfl rfl rfl (by decide) rfl rfl rfl ?_
          refine ra_gf (j := 36) rfl rfl rfl rfl (by decide) rfl rfl rfl ?_
          refine ra_gf (j := 37) rfl rfl rfl rfl (by decide) rfl rfl rfl ?_
          refine ra_gf (j := 38) rfl rfl rfl rfl (by decide) rfl rfl rfl ?_
          refine ra_gf (j := 39) rfl rfl rfl rfl (by decide) rfl rfl rfl ?_
          refine ra_gf (j := 40) rfl rfl rfl rfl (by decide) rfl rfl rfl ?_
          refine ra_gf (j := 41) rfl rfl rfl rfl (by decide) rfl rfl rfl ?_
          refine n_done ?_
          refine rw_gf 53 26 37 true rfl rfl rfl rfl rfl rfl (by decide) ?_
          refine rw_t 54 rfl rfl rfl (do_pick_f rfl rfl rfl ?_)
          refine rw_t 6 rfl rfl rfl (do_assign rfl ?_)
          refine rw_nil ?_
          refine ⟨rfl, ⟨_, rfl, by first | (simp; done) | (simp only [bs]; omega) | (simp [*]; done) | (simp; omega) | (constructor <;> intro h <;> simp_all <;> omega)⟩, ?_⟩
          repeat (refine ⟨⟨_, rfl, rfl⟩, ?_⟩)
          exact trivial
      · have kg2 := g2
        try simp only [bs] at kg2
        refine ra_gf (j := 11) rfl rfl rfl rfl (by rw [g2]; decide) rfl rfl rfl ?_
        refine ra_gf (j := 12) rfl rfl rfl rfl (by rw [g2]; decide) rfl rfl rfl ?_
        refine ra_gf (j := 13) rfl rfl rfl rfl (by rw [g2]; decide) rfl rfl rfl ?_
        refine ra_gf (j := 14) rfl rfl rfl rfl (by rw [g2]; decide) rfl rfl rfl ?_
        refine ra_gf (j := 15) rfl rfl rfl rfl (by rw [g2]; decide) rfl rfl rfl ?_
        refine ra_gf (j := 16) rfl rfl rfl rfl (by rw [g2]; decide) rfl rfl rfl ?_
        refine ra_q (j := 17) rfl rfl rfl rfl (do_pick_f rfl g2 rfl ⟨rfl, rfl⟩) (by rfl) ?_
        refine ra_q (j := 18) rfl rfl rfl rfl (do_move rfl ⟨rfl, rfl⟩) (by rfl) ?_
        refine ra_gf (j := 19) rfl rfl rfl rfl (by decide) rfl rfl rfl ?_
        refine ra_gf (j := 20) rfl rfl rfl rfl (by decide) rfl rfl rfl ?_
        refine ra_gf (j := 21) rfl rfl rfl rfl (by decide) rfl rfl rfl ?_
        refine ra_gf (j := 22) rfl rfl rfl rfl (by decide) rfl rfl rfl ?_
        refine ra_gf (j := 23) rfl rfl rfl rfl (by decide) rfl rfl rfl ?_
        refine ra_gf (j := 24) rfl rfl rfl rfl (by decide) rfl rfl rfl ?_
        refine ra_q (j := 25) rfl rfl rfl rfl (do_pick_f rfl rfl rfl ⟨rfl, rfl⟩) (by rfl) ?_
        refine ra_q (j := 26) rfl rfl rfl rfl (do_move rfl ⟨rfl, rfl⟩) (by rfl) ?_
        refine ra_gf (j := 27) rfl rfl rfl rfl (by decide) rfl rfl rfl ?_
        refine ra_gf (j := 28) rfl rfl rfl rfl (by decide) rfl rfl rfl ?_
        refine ra_gf (j := 29) rfl rfl rfl rfl (by decide) rfl rfl rfl ?_
        refine ra_gf (j := 30) rfl rfl rfl rfl (by decide) rfl rfl rfl ?_
        refine ra_gf (j := 31) rfl rfl rfl rfl (by decide) rfl rfl rfl ?_
        refine ra_gf (j := 32) rfl rfl rfl rfl (by decide) rfl rfl rfl ?_
        refine ra_gf (j := 33) rfl rfl rfl rfl (by decide) rfl rfl rfl ?_
        refine ra_gf (j := 34) rfl rfl rfl rfl (by decide) rfl rfl rfl ?_
        refine ra_gf (j := 35) rfl rfl rfl rfl (by decide) rfl rfl rfl ?_
        refine ra_gf (j := 36) rfl rfl rfl rfl (by decide) rfl rfl rfl ?_
        refine ra_gf (j := 37) rfl rfl rfl rfl (by decide) rfl rfl rfl ?_
        refine ra_gf (j := 38) rfl rfl rfl rfl (by decide) rfl rfl rfl ?_
        refine ra_gf (j := 39) rfl rfl rfl rfl (by decide) rfl rfl rfl ?_
        refine ra_gf (j := 40) rfl rfl rfl rfl (by decide) rfl rfl rfl ?_
        refine ra_gf (j := 41) rfl rfl rfl rfl (by decide) rfl rfl rfl ?_
        refine n_done ?_
        refine rw_gf 53 26 37 true rfl rfl rfl rfl rfl rfl (by decide) ?_
        refine rw_t 54 rfl rfl rfl (do_pick_f rfl rfl rfl ?_)
        refine rw_t 6 rfl rfl rfl (do_assign rfl ?_)
        refine rw_nil ?_
        refine ⟨rfl, ⟨_, rfl, by first | (simp; done) | (simp only [bs]; omega) | (simp [*]; done) | (simp; omega) | (constructor <;> intro h <;> simp_all <;> omega)⟩, ?_⟩
        repeat (refine ⟨⟨_, rfl, rfl⟩, ?_⟩)
        exact trivial
    · have kg1 := g1
      try simp only [bs] at kg1
      refine ra_gf (j := 5) rfl rfl rfl rfl (by rw [g1]; decide) rfl rfl rfl ?_
      refine ra_gf (j := 6) rfl rfl rfl rfl (by rw [g1]; decide) rfl rfl rfl ?_
      refine ra_gf (j := 7) rfl rfl rfl rfl (by rw [g1]; decide) rfl rfl rfl ?_
      refine ra_gf (j := 8) rfl rfl rfl rfl (by rw [g1]; decide) rfl rfl rfl ?_
      refine ra_q (j := 9) rfl rfl rfl rfl (do_pick_f rfl g1 rfl ⟨rfl, rfl⟩) (by rfl) ?_
      refine ra_q (j := 10) rfl rfl rfl rfl (do_move rfl ⟨rfl, rfl⟩) (by rfl) ?_
      refine ra_gf (j := 11) rfl rfl rfl rfl (by decide) rfl rfl rfl ?_
      refine ra_gf (j := 12) rfl rfl rfl rfl (by decide) rfl rfl rfl ?_
      refine ra_gf (j := 13) rfl rfl rfl rfl (by decide) rfl rfl rfl ?_
      refine ra_gf (j := 14) rfl rfl rfl rfl (by decide) rfl rfl rfl ?_
      refine ra_gf (j := 15) rfl rfl rfl rfl (by decide) rfl rfl rfl ?_
      refine ra_gf (j := 16) rfl rfl rfl rfl (by decide) rfl rfl rfl ?_
      refine ra_q (j := 17) rfl rfl rfl rfl (do_pick_f rfl rfl rfl ⟨rfl, rfl⟩) (by rfl) ?_
      refine ra_q (j := 18) rfl rfl rfl rfl (do_move rfl ⟨rfl, rfl⟩) (by rfl) ?_
      refine ra_gf (j := 19) rfl rfl rfl rfl (by decide) rfl rfl rfl ?_
      refine ra_gf (j := 20) rfl rfl rfl rfl (by decide) rfl rfl rfl ?_
      refine ra_gf (j := 21) rfl rfl rfl rfl (by decide) rfl rfl rfl ?_
      refine ra_gf (j := 22) rfl rfl rfl rfl (by decide) rfl rfl rfl ?_
      refine ra_gf (j := 23) rfl rfl rfl rfl (by decide) rfl rfl rfl ?_
      refine ra_gf (j := 24) rfl rfl rfl rfl (by decide) rfl rfl rfl ?_
      refine ra_q (j := 25) rfl rfl rfl rfl (do_pick_f rfl rfl rfl ⟨rfl, rfl⟩) (by rfl) ?_
      refine ra_q (j := 26) rfl rfl rfl rfl (do_move rfl ⟨rfl, rfl⟩) (by rfl) ?_
      refine ra_gf (j := 27) rfl rfl rfl rfl (by decide) rfl rfl rfl ?_
      refine ra_gf (j := 28) rfl rfl rfl rfl (by decide) rfl rfl rfl ?_
      refine ra_gf (j := 29) rfl rfl rfl rfl (by decide) rfl rfl rfl ?_
      refine ra_gf (j := 30) rfl rfl rfl rfl (by decide) rfl rfl rfl ?_
      refine ra_gf (j := 31) rfl rfl rfl rfl (by decide) rfl rfl rfl ?_
      refine ra_gf (j := 32) rfl rfl rfl rfl (by decide) rfl rfl rfl ?_
      refine ra_gf (j := 33) rfl rfl rfl rfl (by decide) rfl rfl rfl ?_
      refine ra_gf (j := 34) rfl rfl rfl rfl (by decide) rfl rfl rfl ?_
      refine ra_gf (j := 35) rfl rfl rfl rfl (by decide) rfl rfl rfl ?_
      refine ra_gf (j := 36) rfl rfl rfl rfl (by decide) rfl rfl rfl ?_
      refine ra_gf (j := 37) rfl rfl rfl rfl (by decide) rfl rfl rfl ?_
      refine ra_gf (j := 38) rfl rfl rfl rfl (by decide) rfl rfl rfl ?_
      refine ra_gf (j := 39) rfl rfl rfl rfl (by decide) rfl rfl rfl ?_
      refine ra_gf (j := 40) rfl rfl rfl rfl (by decide) rfl rfl rfl ?_
      refine ra_gf (j := 41) rfl rfl rfl rfl (by decide) rfl rfl rfl ?_
      refine n_done ?_
      refine rw_gf 53 26 37 true rfl rfl rfl rfl rfl rfl (by decide) ?_
      refine rw_t 54 rfl rfl rfl (do_pick_f rfl rfl rfl ?_)
      refine rw_t 6 rfl rfl rfl (do_assign rfl ?_)
      refine rw_nil ?_
      refine ⟨rfl, ⟨_, rfl, by first | (simp; done) | (simp only [bs]; omega) | (simp [*]; done) | (simp; omega) | (constructor <;> intro h <;> simp_all <;> omega)⟩, ?_⟩
      repeat (refine ⟨⟨_, rfl, rfl⟩, ?_⟩)
      exact trivial
  intro b1 hb1
  refine w_ret ?_
  exact ret_eq (.inl rfl) (.cons (res_tmp rfl) .nil) [0, 1, 2, 3, 4, 5, 6, 7, 8] (Eq.symm (bool_congr (dec_of hb1 ⟨fun q => ⟨⟨q.1, q.2.1⟩, q.2.2⟩, fun q => ⟨q.1.1, q.1.2, q.2⟩⟩))) ⟨.inr ⟨_, rfl, .inl rfl⟩, .inr ⟨_, rfl, .inl rfl⟩, .inr ⟨_, rfl, .inl rfl⟩, .inr ⟨_, rfl, .inl rfl⟩, .inr ⟨_, rfl, .inl rfl⟩, .inr ⟨_, rfl, .inl rfl⟩, .inr ⟨_, rfl, .inl rfl⟩, .inr ⟨_, rfl, .inl rfl⟩, .inr ⟨_, rfl, .inl rfl⟩, trivial⟩ rfl (pre_ok rfl)
-- f23 "acequia/acequiaref07.Push"
set_option maxHeartbeats 8000000 in
set_option synthInstance.maxHeartbeats 400000 in
set_option synthInstance.maxSize 2000 in
theorem t_rPush (c : Csr) (p : Pre) (h : CsrG c) (hp : PreIn c p) (hm : PushIn c p) (a : Int) : Tri Try.prog 23 [.agg [.val (.int .i64 c.N), .val (.int .i64 c.S), .val (.int .i64 c.T), .slc 0 0 c.First.length none, .slc 1 0 c.Head.length none, .slc 2 0 c.Rev.length none, .slc 3 0 c.Cap.length none, .slc 4 0 c.Arc.length none, .slc 5 0 c.Back.length none], .agg [.slc 6 0 p.Res.length none, .slc 7 0 p.Ex.length none, .slc 8 0 p.H.length none], .val (.int .i64 a)] [SO.ints false .i64 c.First, SO.ints false .i64 c.Head, SO.ints false .i64 c.Rev, SO.ints false .i64 c.Cap, SO.ints false .i64 c.Arc, SO.bools false c.Back, SO.ints false .i64 p.Res, SO.ints false .i64 p.Ex, SO.ints false .i64 p.H] (fun s H => s = .tup [.agg [.slc 9 0 ((pushR c p a).1.Res.length) none, .slc 10 0 ((pushR c p a).1.Ex.length) none, .slc 11 0 ((pushR c p a).1.H.length) none], .val (.int .i64 ((pushR c p a).2.1)), .val (.int .i64 ((pushR c p a).2.2))] ∧ H = [SO.ints false .i64 c.First, SO.ints false .i64 c.Head, SO.ints false .i64 c.Rev, SO.ints false .i64 c.Cap, SO.ints false .i64 c.Arc, SO.bools false c.Back, SO.ints false .i64 p.Res, SO.ints false .i64 p.Ex, SO.ints false .i64 p.H, SO.ints true .i64 ((pushR c p a).1.Res), SO.ints true .i64 ((pushR c p a).1.Ex), SO.ints true .i64 ((pushR c p a).1.H)]) := by
  refine tri_of_w (fn := Try.f23) Try.func23 rfl (by simp [Try.f23]) ?_
  intro ρ w hρ
  refine w_seq ?_
  have hn := h.n
  have hf := h.first
  have hhd := h.head
  have hrl := h.rev
  have hcl := h.cap
  have hal := h.arc
  have hbl := h.back
  have hr := hp.res
  have hx := hp.ex
  have hh := hp.h
  have hsm := h.small
  -- region 0
  refine w_region ?_
  refine rw_t 3 rfl rfl rfl (n_box_agg (n := 9) rfl rfl ?_)
  refine rw_t 4 rfl rfl rfl (n_box_agg (n := 10) rfl rfl ?_)
  refine rw_t 6 rfl rfl rfl (n_alloc (n := 11) rfl ?_)
  refine rw_t 7 rfl rfl rfl (do_assign rfl ?_)
  refine rw_t 8 rfl rfl rfl (do_assign rfl ?_)
  refine rw_nil ?_
  refine w_seq ?_
  refine w_seqB 20 ((a < 0 ∨ a ≥ ((c.Head.length : Nat) : Int))) ?_ ?_
  · -- region 1
    refine w_region ?_
    refine rw_t 12 rfl rfl rfl (do_move rfl ?_)
    refine rw_t 13 rfl rfl rfl (do_bin rfl rfl rfl ?_)
    refine rw_t 14 rfl rfl rfl (do_move rfl ?_)
    refine rw_case 14 rfl (fun g1 => ?_) (fun g1 => ?_)
    · have kg1 := g1
      try simp only [bs] at kg1
      refine rw_gf 15 2 14 false rfl rfl rfl rfl rfl rfl (by rw [g1]; decide) ?_
      refine rw_gf 16 2 14 false rfl rfl rfl rfl rfl rfl (by rw [g1]; decide) ?_
      refine rw_gf 17 2 14 false rfl rfl rfl rfl rfl rfl (by rw [g1]; decide) ?_
      refine rw_gf 18 2 14 false rfl rfl rfl rfl rfl rfl (by rw [g1]; decide) ?_
      refine rw_gf 19 2 14 false rfl rfl rfl rfl rfl rfl (by rw [g1]; decide) ?_
      refine rw_t 20 rfl rfl rfl (do_pick_t rfl g1 rfl ?_)
      refine rw_nil ?_
      refine ⟨rfl, ⟨_, rfl, by first | (simp; done) | (simp only [bs]; omega) | (simp [*]; done) | (simp; omega) | (constructor <;> intro h <;> simp_all <;> omega)⟩, ?_⟩
      repeat (refine ⟨⟨_, rfl, rfl⟩, ?_⟩)
      exact trivial
    · have kg1 := g1
      try simp only [bs] at kg1
      refine rw_gt 15 2 14 false rfl rfl rfl rfl rfl rfl g1 (do_move rfl ?_)
      refine rw_gt 16 2 14 false rfl rfl rfl rfl rfl rfl g1 (do_fieldaddr rfl ?_)
      refine rw_gt 17 2 14 false rfl rfl rfl rfl rfl rfl g1 (do_load_box rfl rfl rfl ?_)
      refine rw_gt 18 2 14 false rfl rfl rfl rfl rfl rfl g1 (do_len rfl ?_)
      refine rw_gt 19 2 14 false rfl rfl rfl rfl rfl rfl g1 (do_bin rfl rfl rfl ?_)
      refine rw_t 20 rfl rfl rfl (do_pick_f rfl g1 rfl ?_)
      refine rw_nil ?_
      refine ⟨rfl, ⟨_, rfl, by first | (simp; done) | (simp only [bs]; omega) | (simp [*]; done) | (simp; omega) | (constructor <;> intro h <;> simp_all <;> omega)⟩, ?_⟩
      repeat (refine ⟨⟨_, rfl, rfl⟩, ?_⟩)
      exact trivial
  intro b1 hb1
  refine w_condP hb1 rfl (fun hc1 => ?_) (fun hc1 => ?_)
  · refine w_seq ?_
    -- region 2
    refine w_region ?_
    refine rw_t 21 rfl rfl rfl (do_build (out := [_, _, _]) rfl rfl ?_)
    refine rw_u rfl rfl (n_store_whole rfl rfl rfl rfl rfl rfl ?_)
    refine rw_t 7 rfl rfl rfl (do_assign rfl ?_)
    refine rw_t 8 rfl rfl rfl (do_assign rfl ?_)
    refine rw_nil ?_
    have hno : ¬ (0 ≤ a ∧ a < c.Head.length) := by omega
    have e1 : pushR c p a = (Pre.none, 0, 2) := by unfold pushR; rw [if_neg hno]
    refine n_ghost Int 1 (encI .i64) 0 (fun _ => rfl) (fun _ _ h => by simp [encI] at h; subst h; rfl) ?_
    refine n_nilB 11 0 12 0 rfl rfl ?_
    refine n_ghost Int 1 (encI .i64) 0 (fun _ => rfl) (fun _ _ h => by simp [encI] at h; subst h; rfl) ?_
    refine n_nilB 11 1 13 0 rfl rfl ?_
    refine n_ghost Int 1 (encI .i64) 0 (fun _ => rfl) (fun _ _ h => by simp [encI] at h; subst h; rfl) ?_
    refine n_nilB 11 2 14 0 rfl rfl ?_
    refine w_ret ?_
    exact ret_eq (.inl rfl) (.cons (res_agg rfl rfl (Nat.le_of_ble_eq_true rfl)) (.cons (res_tmp rfl) (.cons (res_tmp rfl) .nil))) [0, 1, 2, 3, 4, 5, 6, 7, 8, 12, 13, 14] (by rw [e1]; rfl) ⟨.inr ⟨_, rfl, .inl rfl⟩, .inr ⟨_, rfl, .inl rfl⟩, .inr ⟨_, rfl, .inl rfl⟩, .inr ⟨_, rfl, .inl rfl⟩, .inr ⟨_, rfl, .inl rfl⟩, .inr ⟨_, rfl, .inl rfl⟩, .inr ⟨_, rfl, .inl rfl⟩, .inr ⟨_, rfl, .inl rfl⟩, .inr ⟨_, rfl, .inl rfl⟩, .inr ⟨_, rfl, .inl (congrArg (SO.ints true .i64) (by rw [e1]; try rfl))⟩, .inr ⟨_, rfl, .inl (congrArg (SO.ints true .i64) (by rw [e1]; try rfl))⟩, .inr ⟨_, rfl, .inl (congrArg (SO.ints true .i64) (by rw [e1]; try rfl))⟩, trivial⟩ rfl (pre_ok rfl)
  refine w_skip ?_
  refine w_seq ?_
  refine w_seq ?_
  have ha : 0 ≤ a ∧ a < c.Head.length := by omega
  obtain ⟨tv, ht1, ht2, ht3, ht4⟩ := h.toCsrT.tail_at ha.1 ha.2
  have hu : 0 ≤ tailOf c a ∧ tailOf c a < c.N := by omega
  -- region 3
  refine w_region ?_
  refine rw_t 22 rfl rfl rfl (n_load_boxagg [_, _, _, _, _, _, _, _, _] rfl rfl (Nat.le_of_ble_eq_true rfl) rfl ?_)
  refine rw_t 23 rfl rfl rfl (n_load_boxagg [_, _, _] rfl rfl (Nat.le_of_ble_eq_true rfl) rfl ?_)
  refine rw_t 24 rfl rfl rfl (do_move rfl ?_)
  refine rw_t 25 rfl rfl rfl (do_callR (X' := .val (.bool (decide (pushesP c p a)))) rfl rfl (t_pushes (c := c) (p := p) (a := a) (h) (hp) (ha)) [0, 1, 2, 3, 4, 5, 6, 7, 8] ⟨.inr ⟨_, rfl, srv⟩, .inr ⟨_, rfl, srv⟩, .inr ⟨_, rfl, srv⟩, .inr ⟨_, rfl, srv⟩, .inr ⟨_, rfl, srv⟩, .inr ⟨_, rfl, srv⟩, .inr ⟨_, rfl, srv⟩, .inr ⟨_, rfl, srv⟩, .inr ⟨_, rfl, srv⟩, trivial⟩ rfl rfl rfl ?_)
  refine rw_t 26 rfl rfl rfl (do_not rfl ?_)
  refine rw_nil ?_
  refine w_cond rfl (fun hc2 => ?_) (fun hc2 => ?_)
  all_goals try simp only [bs] at hc2
  · refine w_seq ?_
    -- region 4
    refine w_region ?_
    refine rw_t 27 rfl rfl rfl (do_build (out := [_, _, _]) rfl rfl ?_)
    refine rw_u rfl rfl (n_store_whole rfl rfl rfl rfl rfl rfl ?_)
    refine rw_t 7 rfl rfl rfl (do_assign rfl ?_)
    refine rw_t 8 rfl rfl rfl (do_assign rfl ?_)
    refine rw_nil ?_
    have hno : ¬ pushesP c p a := by simpa using hc2
    have e1 : pushR c p a = (Pre.none, 0, 30) := by unfold pushR; rw [if_pos ha, if_neg hno]
    refine n_ghost Int 1 (encI .i64) 0 (fun _ => rfl) (fun _ _ h => by simp [encI] at h; subst h; rfl) ?_
    refine n_nilB 11 0 12 0 rfl rfl ?_
    refine n_ghost Int 1 (encI .i64) 0 (fun _ => rfl) (fun _ _ h => by simp [encI] at h; subst h; rfl) ?_
    refine n_nilB 11 1 13 0 rfl rfl ?_
    refine n_ghost Int 1 (encI .i64) 0 (fun _ => rfl) (fun _ _ h => by simp [encI] at h; subst h; rfl) ?_
    refine n_nilB 11 2 14 0 rfl rfl ?_
    refine w_ret ?_
    exact ret_eq (.inl rfl) (.cons (res_agg rfl rfl (Nat.le_of_ble_eq_true rfl)) (.cons (res_tmp rfl) (.cons (res_tmp rfl) .nil))) [0, 1, 2, 3, 4, 5, 6, 7, 8, 12, 13, 14] (by rw [e1]; rfl) ⟨.inr ⟨_, rfl, .inl rfl⟩, .inr ⟨_, rfl, .inl rfl⟩, .inr ⟨_, rfl, .inl rfl⟩, .inr ⟨_, rfl, .inl rfl⟩, .inr ⟨_, rfl, .inl rfl⟩, .inr ⟨_, rfl, .inl rfl⟩, .inr ⟨_, rfl, .inl rfl⟩, .inr ⟨_, rfl, .inl rfl⟩, .inr ⟨_, rfl, .inl rfl⟩, .inr ⟨_, rfl, .inl (congrArg (SO.ints true .i64) (by rw [e1]; try rfl))⟩, .inr ⟨_, rfl, .inl (congrArg (SO.ints true .i64) (by rw [e1]; try rfl))⟩, .inr ⟨_, rfl, .inl (congrArg (SO.ints true .i64) (by rw [e1]; try rfl))⟩, trivial⟩ rfl (pre_ok rfl)
  refine w_skip ?_
  refine w_seq ?_
  have hpu : pushesP c p a := by simpa using hc2
  have htl := G_tail h ha
  have hv := h.rv a.toNat (by omega)
  have hd1 := h.hd a.toNat (by omega)
  -- region 5
  refine w_region ?_
  refine rw_t 28 rfl rfl rfl (n_load_boxagg [_, _, _, _, _, _, _, _, _] rfl rfl (Nat.le_of_ble_eq_true rfl) rfl ?_)
  refine rw_t 29 rfl rfl rfl (do_move rfl ?_)
  refine rw_t 30 rfl rfl rfl (do_callR (X' := .val (.int .i64 (tailOf c a))) rfl rfl (t_rTail (c := c) (a := a) (h.toCsrLen)) [0, 1, 2, 3, 4, 5] ⟨.inr ⟨_, rfl, srv⟩, .inr ⟨_, rfl, srv⟩, .inr ⟨_, rfl, srv⟩, .inr ⟨_, rfl, srv⟩, .inr ⟨_, rfl, srv⟩, .inr ⟨_, rfl, srv⟩, trivial⟩ rfl rfl rfl ?_)
  refine rw_t 9 rfl rfl rfl (do_assign rfl ?_)
  refine rw_nil ?_
  refine w_seq ?_
  -- region 6
  refine w_region ?_
  refine rw_t 31 rfl rfl rfl (do_fieldaddr rfl ?_)
  refine rw_t 32 rfl rfl rfl (do_load_box rfl rfl rfl ?_)
  refine rw_t 33 rfl rfl rfl (do_move rfl ?_)
  refine rw_t 34 rfl rfl rfl (do_ix0 rfl rfl rfl (by first | omega | (simp only [ls] <;> omega)) ?_)
  refine rw_t 35 rfl rfl rfl (do_load_arr rfl rfl (by first | omega | (simp only [ls] <;> omega)) rfl ?_)
  refine rw_t 10 rfl rfl rfl (do_assign rfl ?_)
  refine rw_nil ?_
  refine w_seq ?_
  refine w_seq ?_
  -- region 7
  refine w_region ?_
  refine rw_t 36 rfl rfl rfl (do_fieldaddr rfl ?_)
  refine rw_t 37 rfl rfl rfl (do_load_box rfl rfl rfl ?_)
  refine rw_t 38 rfl rfl rfl (do_move rfl ?_)
  refine rw_t 39 rfl rfl rfl (do_ix0 rfl rfl rfl (by first | omega | (simp only [ls] <;> omega)) ?_)
  refine rw_t 40 rfl rfl rfl (do_load_arr rfl rfl (by first | omega | (simp only [ls] <;> omega)) rfl ?_)
  refine rw_t 41 rfl rfl rfl (do_move rfl ?_)
  refine rw_t 42 rfl rfl rfl (do_bin rfl rfl rfl ?_)
  refine rw_nil ?_
  refine w_cond rfl (fun hc3 => ?_) (fun hc3 => ?_)
  all_goals try simp only [bs] at hc3
  · -- region 8
    refine w_region ?_
    refine rw_t 43 rfl rfl rfl (do_fieldaddr rfl ?_)
    refine rw_t 44 rfl rfl rfl (do_load_box rfl rfl rfl ?_)
    refine rw_t 45 rfl rfl rfl (do_move rfl ?_)
    refine rw_t 46 rfl rfl rfl (do_ix0 rfl rfl rfl (by first | omega | (simp only [ls] <;> omega)) ?_)
    refine rw_t 47 rfl rfl rfl (do_load_arr rfl rfl (by first | omega | (simp only [ls] <;> omega)) rfl ?_)
    refine rw_t 10 rfl rfl rfl (do_assign rfl ?_)
    refine rw_nil ?_
    refine w_seq ?_
    have mm := hm a ha hpu
    first | (rw [show pushD c p a = p.Res.getD a.toNat 0 from if_pos hc3] at mm) | (rw [show pushD c p a = p.Ex.getD (tailOf c a).toNat 0 from if_neg hc3] at mm)
    obtain ⟨m1, m2⟩ := mm.r1
    obtain ⟨m3, m4⟩ := mm.r2
    obtain ⟨m5, m6⟩ := mm.x1
    obtain ⟨m7, m8⟩ := mm.x2
    simp only [subAt] at m3 m4 m7 m8
    rw [← htl] at m5 m6 m7 m8
    -- region 9
    refine w_region ?_
    refine rw_t 48 rfl rfl rfl (n_load_boxagg [_, _, _] rfl rfl (Nat.le_of_ble_eq_true rfl) rfl ?_)
    refine rw_t 49 rfl rfl rfl (n_callN (X' := .agg [.slc 12 0 p.Res.length none, .slc 13 0 p.Ex.length none, .slc 14 0 p.H.length none]) (N' := [SO.ints true .i64 p.Res, SO.ints true .i64 p.Ex, SO.ints true .i64 p.H]) rfl rfl (t_rCopy (p := p) (by omega)) [6, 7, 8] ⟨.inr ⟨_, rfl, srv⟩, .inr ⟨_, rfl, srv⟩, .inr ⟨_, rfl, srv⟩, trivial⟩ rfl rfl rfl rfl rfl ?_)
    refine rw_t 11 rfl rfl rfl (n_alloc (n := 15) rfl ?_)
    refine rw_u rfl rfl (n_store_whole rfl rfl rfl rfl rfl rfl ?_)
    refine rw_nil ?_
    refine w_seq ?_
    -- region 10
    refine w_draw mixed [0, 1, 0, 0, 8, 0, 56, 120, 0, 504] [1023, 2047] (by kernel_rfl) (by kernel_rfl) rfl rfl rfl (hle hρ rfl) ?_
    refine ra_q (j := 0) rfl rfl rfl rfl (do_fieldaddr rfl ⟨rfl, rfl⟩) (by rfl) ?_
    refine ra_q (j := 1) rfl rfl rfl rfl (do_load_box rfl rfl rfl ⟨rfl, rfl⟩) (by rfl) ?_
    refine ra_q (j := 2) rfl rfl rfl rfl (do_move rfl ⟨rfl, rfl⟩) (by rfl) ?_
    refine ra_q (j := 3) rfl rfl rfl rfl (do_fieldaddr rfl ⟨rfl, rfl⟩) (by rfl) ?_
    refine ra_q (j := 4) rfl rfl rfl rfl (do_load_box rfl rfl rfl ⟨rfl, rfl⟩) (by rfl) ?_
    refine ra_q (j := 5) rfl rfl rfl rfl (do_move rfl ⟨rfl, rfl⟩) (by rfl) ?_
    refine ra_q (j := 6) rfl rfl rfl rfl (do_ix0 rfl rfl rfl (by first | omega | (simp only [ls] <;> omega)) ⟨rfl, rfl⟩) (by rfl) ?_
    refine ra_q (j := 7) rfl rfl rfl rfl (do_load_arr rfl rfl (by first | omega | (simp only [ls] <;> omega)) rfl ⟨rfl, rfl⟩) (by rfl) ?_
    refine ra_q (j := 8) rfl rfl rfl rfl (do_move rfl ⟨rfl, rfl⟩) (by rfl) ?_
    refine ra_q (j := 9) rfl rfl rfl rfl (do_sub rfl rfl (by omega) ⟨rfl, rfl⟩) (by rfl) ?_
    refine n_done ?_
    refine rw_t 60 rfl rfl rfl (do_ix0 rfl rfl rfl (by first | omega | (simp only [ls] <;> omega)) ?_)
    refine rw_u rfl rfl (n_store_arr (z := ((p.Res.getD a.toNat 0) - (p.Res.getD a.toNat 0))) rfl rfl rfl (by first | omega | (simp only [ls] <;> omega)) rfl (by decide) rfl ?_)
    refine rw_nil ?_
    refine w_seq ?_
    -- region 11
    refine w_draw mixed [0, 1, 0, 4, 0, 28, 60, 0, 128, 0, 512, 0, 3584, 7680, 16256, 32640, 0, 130944] [262143, 524287] (by kernel_rfl) (by kernel_rfl) rfl rfl rfl (hle hρ rfl) ?_
    refine ra_q (j := 0) rfl rfl rfl rfl (do_fieldaddr rfl ⟨rfl, rfl⟩) (by rfl) ?_
    refine ra_q (j := 1) rfl rfl rfl rfl (do_load_box rfl rfl rfl ⟨rfl, rfl⟩) (by rfl) ?_
    refine ra_q (j := 2) rfl rfl rfl rfl (do_fieldaddr rfl ⟨rfl, rfl⟩) (by rfl) ?_
    refine ra_q (j := 3) rfl rfl rfl rfl (do_load_box rfl rfl rfl ⟨rfl, rfl⟩) (by rfl) ?_
    refine ra_q (j := 4) rfl rfl rfl rfl (do_move rfl ⟨rfl, rfl⟩) (by rfl) ?_
    refine ra_q (j := 5) rfl rfl rfl rfl (do_ix0 rfl rfl rfl (by first | omega | (simp only [ls] <;> omega)) ⟨rfl, rfl⟩) (by rfl) ?_
    refine ra_q (j := 6) rfl rfl rfl rfl (do_load_arr rfl rfl (by first | omega | (simp only [ls] <;> omega)) rfl ⟨rfl, rfl⟩) (by rfl) ?_
    refine ra_q (j := 7) rfl rfl rfl rfl (do_fieldaddr rfl ⟨rfl, rfl⟩) (by rfl) ?_
    refine ra_q (j := 8) rfl rfl rfl rfl (do_load_box rfl rfl rfl ⟨rfl, rfl⟩) (by rfl) ?_
    refine ra_q (j := 9) rfl rfl rfl rfl (do_fieldaddr rfl ⟨rfl, rfl⟩) (by rfl) ?_
    refine ra_q (j := 10) rfl rfl rfl rfl (do_load_box rfl rfl rfl ⟨rfl, rfl⟩) (by rfl) ?_
    refine ra_q (j := 11) rfl rfl rfl rfl (do_move rfl ⟨rfl, rfl⟩) (by rfl) ?_
    refine ra_q (j := 12) rfl rfl rfl rfl (do_ix0 rfl rfl rfl (by first | omega | (simp only [ls] <;> omega)) ⟨rfl, rfl⟩) (by rfl) ?_
    refine ra_q (j := 13) rfl rfl rfl rfl (do_load_arr rfl rfl (by first | omega | (simp only [ls] <;> omega)) rfl ⟨rfl, rfl⟩) (by rfl) ?_
    refine ra_q (j := 14) rfl rfl rfl rfl (do_ix0 rfl rfl rfl (by first | omega | (simp only [ls] <;> omega)) ⟨rfl, rfl⟩) (by rfl) ?_
    refine ra_q (j := 15) rfl rfl rfl rfl (do_load_arr rfl rfl (by first | omega | (simp only [ls] <;> omega)) rfl ⟨rfl, rfl⟩) (by rfl) ?_
    refine ra_q (j := 16) rfl rfl rfl rfl (do_move rfl ⟨rfl, rfl⟩) (by rfl) ?_
    refine ra_q (j := 17) rfl rfl rfl rfl (do_add rfl rfl (by omega) ⟨rfl, rfl⟩) (by rfl) ?_
    refine n_done ?_
    refine rw_t 79 rfl rfl rfl (do_ix0 rfl rfl rfl (by first | omega | (simp only [ls] <;> omega)) ?_)
    refine rw_u rfl rfl (n_store_arr (z := (((p.Res.set a.toNat ((p.Res.getD a.toNat 0) - (p.Res.getD a.toNat 0))).getD ((c.Rev.getD a.toNat 0).toNat) 0) + (p.Res.getD a.toNat 0))) rfl rfl rfl (by first | omega | (simp only [ls] <;> omega)) rfl (by decide) rfl ?_)
    refine rw_nil ?_
    refine w_seq ?_
    -- region 12
    refine w_draw mixed [0, 1, 0, 0, 8, 0, 56, 120, 0, 504] [1023, 2047] (by kernel_rfl) (by kernel_rfl) rfl rfl rfl (hle hρ rfl) ?_
    refine ra_q (j := 0) rfl rfl rfl rfl (do_fieldaddr rfl ⟨rfl, rfl⟩) (by rfl) ?_
    refine ra_q (j := 1) rfl rfl rfl rfl (do_load_box rfl rfl rfl ⟨rfl, rfl⟩) (by rfl) ?_
    refine ra_q (j := 2) rfl rfl rfl rfl (do_move rfl ⟨rfl, rfl⟩) (by rfl) ?_
    refine ra_q (j := 3) rfl rfl rfl rfl (do_fieldaddr rfl ⟨rfl, rfl⟩) (by rfl) ?_
    refine ra_q (j := 4) rfl rfl rfl rfl (do_load_box rfl rfl rfl ⟨rfl, rfl⟩) (by rfl) ?_
    refine ra_q (j := 5) rfl rfl rfl rfl (do_move rfl ⟨rfl, rfl⟩) (by rfl) ?_
    refine ra_q (j := 6) rfl rfl rfl rfl (do_ix0 rfl rfl rfl (by first | omega | (simp only [ls] <;> omega)) ⟨rfl, rfl⟩) (by rfl) ?_
    refine ra_q (j := 7) rfl rfl rfl rfl (do_load_arr rfl rfl (by first | omega | (simp only [ls] <;> omega)) rfl ⟨rfl, rfl⟩) (by rfl) ?_
    refine ra_q (j := 8) rfl rfl rfl rfl (do_move rfl ⟨rfl, rfl⟩) (by rfl) ?_
    refine ra_q (j := 9) rfl rfl rfl rfl (do_sub rfl rfl (by omega) ⟨rfl, rfl⟩) (by rfl) ?_
    refine n_done ?_
    refine rw_t 90 rfl rfl rfl (do_ix0 rfl rfl rfl (by first | omega | (simp only [ls] <;> omega)) ?_)
    refine rw_u rfl rfl (n_store_arr (z := ((p.Ex.getD ((tailOf c a).toNat) 0) - (p.Res.getD a.toNat 0))) rfl rfl rfl (by first | omega | (simp only [ls] <;> omega)) rfl (by decide) rfl ?_)
    refine rw_nil ?_
    refine w_seq ?_
    -- region 13
    refine w_draw mixed [0, 1, 0, 4, 0, 28, 60, 0, 128, 0, 512, 0, 3584, 7680, 16256, 32640, 0, 130944] [262143, 524287] (by kernel_rfl) (by kernel_rfl) rfl rfl rfl (hle hρ rfl) ?_
    refine ra_q (j := 0) rfl rfl rfl rfl (do_fieldaddr rfl ⟨rfl, rfl⟩) (by rfl) ?_
    refine ra_q (j := 1) rfl rfl rfl rfl (do_load_box rfl rfl rfl ⟨rfl, rfl⟩) (by rfl) ?_
    refine ra_q (j := 2) rfl rfl rfl rfl (do_fieldaddr rfl ⟨rfl, rfl⟩) (by rfl) ?_
    refine ra_q (j := 3) rfl rfl rfl rfl (do_load_box rfl rfl rfl ⟨rfl, rfl⟩) (by rfl) ?_
    refine ra_q (j := 4) rfl rfl rfl rfl (do_move rfl ⟨rfl, rfl⟩) (by rfl) ?_
    refine ra_q (j := 5) rfl rfl rfl rfl (do_ix0 rfl rfl rfl (by first | omega | (simp only [ls] <;> omega)) ⟨rfl, rfl⟩) (by rfl) ?_
    refine ra_q (j := 6) rfl rfl rfl rfl (do_load_arr rfl rfl (by first | omega | (simp only [ls] <;> omega)) rfl ⟨rfl, rfl⟩) (by rfl) ?_
    refine ra_q (j := 7) rfl rfl rfl rfl (do_fieldaddr rfl ⟨rfl, rfl⟩) (by rfl) ?_
    refine ra_q (j := 8) rfl rfl rfl rfl (do_load_box rfl rfl rfl ⟨rfl, rfl⟩) (by rfl) ?_
    refine ra_q (j := 9) rfl rfl rfl rfl (do_fieldaddr rfl ⟨rfl, rfl⟩) (by rfl) ?_
    refine ra_q (j := 10) rfl rfl rfl rfl (do_load_box rfl rfl rfl ⟨rfl, rfl⟩) (by rfl) ?_
    refine ra_q (j := 11) rfl rfl rfl rfl (do_move rfl ⟨rfl, rfl⟩) (by rfl) ?_
    refine ra_q (j := 12) rfl rfl rfl rfl (do_ix0 rfl rfl rfl (by first | omega | (simp only [ls] <;> omega)) ⟨rfl, rfl⟩) (by rfl) ?_
    refine ra_q (j := 13) rfl rfl rfl rfl (do_load_arr rfl rfl (by first | omega | (simp only [ls] <;> omega)) rfl ⟨rfl, rfl⟩) (by rfl) ?_
    refine ra_q (j := 14) rfl rfl rfl rfl (do_ix0 rfl rfl rfl (by first | omega | (simp only [ls] <;> omega)) ⟨rfl, rfl⟩) (by rfl) ?_
    refine ra_q (j := 15) rfl rfl rfl rfl (do_load_arr rfl rfl (by first | omega | (simp only [ls] <;> omega)) rfl ⟨rfl, rfl⟩) (by rfl) ?_
    refine ra_q (j := 16) rfl rfl rfl rfl (do_move rfl ⟨rfl, rfl⟩) (by rfl) ?_
    refine ra_q (j := 17) rfl rfl rfl rfl (do_add rfl rfl (by omega) ⟨rfl, rfl⟩) (by rfl) ?_
    refine n_done ?_
    refine rw_t 109 rfl rfl rfl (do_ix0 rfl rfl rfl (by first | omega | (simp only [ls] <;> omega)) ?_)
    refine rw_u rfl rfl (n_store_arr (z := (((p.Ex.set ((tailOf c a).toNat) ((p.Ex.getD ((tailOf c a).toNat) 0) - (p.Res.getD a.toNat 0))).getD ((c.Head.getD a.toNat 0).toNat) 0) + (p.Res.getD a.toNat 0))) rfl rfl rfl (by first | omega | (simp only [ls] <;> omega)) rfl (by decide) rfl ?_)
    refine rw_nil ?_
    refine w_seq ?_
    -- region 14
    refine w_region ?_
    refine rw_t 110 rfl rfl rfl (n_load_boxagg [_, _, _] rfl rfl (Nat.le_of_ble_eq_true rfl) rfl ?_)
    refine rw_t 111 rfl rfl rfl (do_move rfl ?_)
    refine rw_u rfl rfl (n_store_whole rfl rfl rfl rfl rfl rfl ?_)
    refine rw_t 7 rfl rfl rfl (do_assign rfl ?_)
    refine rw_t 8 rfl rfl rfl (do_assign rfl ?_)
    refine rw_nil ?_
    have e1 : pushR c p a = (moveP c p a (p.Res.getD a.toNat 0), p.Res.getD a.toNat 0, 0) := by unfold pushR; rw [if_pos ha, if_pos hpu, show pushD c p a = p.Res.getD a.toNat 0 from if_pos hc3]
    obtain ⟨l1, l2, l3⟩ := moveP_len c p a (p.Res.getD a.toNat 0)
    refine w_ret ?_
    exact ret_eq (.inl rfl) (.cons (res_agg rfl rfl (Nat.le_of_ble_eq_true rfl)) (.cons (res_tmp rfl) (.cons (res_tmp rfl) .nil))) [0, 1, 2, 3, 4, 5, 6, 7, 8, 12, 13, 14] (by rw [e1]; first | (simp only [l1, l2, l3]; done) | (simp only [l1, l2, l3]; rfl)) ⟨.inr ⟨_, rfl, .inl rfl⟩, .inr ⟨_, rfl, .inl rfl⟩, .inr ⟨_, rfl, .inl rfl⟩, .inr ⟨_, rfl, .inl rfl⟩, .inr ⟨_, rfl, .inl rfl⟩, .inr ⟨_, rfl, .inl rfl⟩, .inr ⟨_, rfl, .inl rfl⟩, .inr ⟨_, rfl, .inl rfl⟩, .inr ⟨_, rfl, .inl rfl⟩, .inr ⟨_, rfl, .inl (congrArg (SO.ints true .i64) (by rw [e1]; try rfl))⟩, .inr ⟨_, rfl, .inl (congrArg (SO.ints true .i64) (by rw [e1]; show addAt (subAt p.Ex (c.Head.getD (c.Rev.getD a.toNat 0).toNat 0) _) _ _ = _; rw [← htl]; rfl))⟩, .inr ⟨_, rfl, .inl (congrArg (SO.ints true .i64) (by rw [e1]; try rfl))⟩, trivial⟩ rfl (pre_ok rfl)
  · refine w_skip ?_
    refine w_seq ?_
    have mm := hm a ha hpu
    first | (rw [show pushD c p a = p.Res.getD a.toNat 0 from if_pos hc3] at mm) | (rw [show pushD c p a = p.Ex.getD (tailOf c a).toNat 0 from if_neg hc3] at mm)
    obtain ⟨m1, m2⟩ := mm.r1
    obtain ⟨m3, m4⟩ := mm.r2
    obtain ⟨m5, m6⟩ := mm.x1
    obtain ⟨m7, m8⟩ := mm.x2
    simp only [subAt] at m3 m4 m7 m8
    rw [← htl] at m5 m6 m7 m8
    -- region 9
    refine w_region ?_
    refine rw_t 48 rfl rfl rfl (n_load_boxagg [_, _, _] rfl rfl (Nat.le_of_ble_eq_true rfl) rfl ?_)
    refine rw_t 49 rfl rfl rfl (n_callN (X' := .agg [.slc 12 0 p.Res.length none, .slc 13 0 p.Ex.length none, .slc 14 0 p.H.length none]) (N' := [SO.ints true .i64 p.Res, SO.ints true .i64 p.Ex, SO.ints true .i64 p.H]) rfl rfl (t_rCopy (p := p) (by omega)) [6, 7, 8] ⟨.inr ⟨_, rfl, srv⟩, .inr ⟨_, rfl, srv⟩, .inr ⟨_, rfl, srv⟩, trivial⟩ rfl rfl rfl rfl rfl ?_)
    refine rw_t 11 rfl rfl rfl (n_alloc (n := 15) rfl ?_)
    refine rw_u rfl rfl (n_store_whole rfl rfl rfl rfl rfl rfl ?_)
    refine rw_nil ?_
    refine w_seq ?_
    -- region 10
    refine w_draw mixed [0, 1, 0, 0, 8, 0, 56, 120, 0, 504] [1023, 2047] (by kernel_rfl) (by kernel_rfl) rfl rfl rfl (hle hρ rfl) ?_
    refine ra_q (j := 0) rfl rfl rfl rfl (do_fieldaddr rfl ⟨rfl, rfl⟩) (by rfl) ?_
    refine ra_q (j := 1) rfl rfl rfl rfl (do_load_box rfl rfl rfl ⟨rfl, rfl⟩) (by rfl) ?_
    refine ra_q (j := 2) rfl rfl rfl rfl (do_move rfl ⟨rfl, rfl⟩) (by rfl) ?_
    refine ra_q (j := 3) rfl rfl rfl rfl (do_fieldaddr rfl ⟨rfl, rfl⟩) (by rfl) ?_
    refine ra_q (j := 4) rfl rfl rfl rfl (do_load_box rfl rfl rfl ⟨rfl, rfl⟩) (by rfl) ?_
    refine ra_q (j := 5) rfl rfl rfl rfl (do_move rfl ⟨rfl, rfl⟩) (by rfl) ?_
    refine ra_q (j := 6) rfl rfl rfl rfl (do_ix0 rfl rfl rfl (by first | omega | (simp only [ls] <;> omega)) ⟨rfl, rfl⟩) (by rfl) ?_
    refine ra_q (j := 7) rfl rfl rfl rfl (do_load_arr rfl rfl (by first | omega | (simp only [ls] <;> omega)) rfl ⟨rfl, rfl⟩) (by rfl) ?_
    refine ra_q (j := 8) rfl rfl rfl rfl (do_move rfl ⟨rfl, rfl⟩) (by rfl) ?_
    refine ra_q (j := 9) rfl rfl rfl rfl (do_sub rfl rfl (by omega) ⟨rfl, rfl⟩) (by rfl) ?_
    refine n_done ?_
    refine rw_t 60 rfl rfl rfl (do_ix0 rfl rfl rfl (by first | omega | (simp only [ls] <;> omega)) ?_)
    refine rw_u rfl rfl (n_store_arr (z := ((p.Res.getD a.toNat 0) - (p.Ex.getD ((tailOf c a).toNat) 0))) rfl rfl rfl (by first | omega | (simp only [ls] <;> omega)) rfl (by decide) rfl ?_)
    refine rw_nil ?_
    refine w_seq ?_
    -- region 11
    refine w_draw mixed [0, 1, 0, 4, 0, 28, 60, 0, 128, 0, 512, 0, 3584, 7680, 16256, 32640, 0, 130944] [262143, 524287] (by kernel_rfl) (by kernel_rfl) rfl rfl rfl (hle hρ rfl) ?_
    refine ra_q (j := 0) rfl rfl rfl rfl (do_fieldaddr rfl ⟨rfl, rfl⟩) (by rfl) ?_
    refine ra_q (j := 1) rfl rfl rfl rfl (do_load_box rfl rfl rfl ⟨rfl, rfl⟩) (by rfl) ?_
    refine ra_q (j := 2) rfl rfl rfl rfl (do_fieldaddr rfl ⟨rfl, rfl⟩) (by rfl) ?_
    refine ra_q (j := 3) rfl rfl rfl rfl (do_load_box rfl rfl rfl ⟨rfl, rfl⟩) (by rfl) ?_
    refine ra_q (j := 4) rfl rfl rfl rfl (do_move rfl ⟨rfl, rfl⟩) (by rfl) ?_
    refine ra_q (j := 5) rfl rfl rfl rfl (do_ix0 rfl rfl rfl (by first | omega | (simp only [ls] <;> omega)) ⟨rfl, rfl⟩) (by rfl) ?_
    refine ra_q (j := 6) rfl rfl rfl rfl (do_load_arr rfl rfl (by first | omega | (simp only [ls] <;> omega)) rfl ⟨rfl, rfl⟩) (by rfl) ?_
    refine ra_q (j := 7) rfl rfl rfl rfl (do_fieldaddr rfl ⟨rfl, rfl⟩) (by rfl) ?_
    refine ra_q (j := 8) rfl rfl rfl rfl (do_load_box rfl rfl rfl ⟨rfl, rfl⟩) (by rfl) ?_
    refine ra_q (j := 9) rfl rfl rfl rfl (do_fieldaddr rfl ⟨rfl, rfl⟩) (by rfl) ?_
    refine ra_q (j := 10) rfl rfl rfl rfl (do_load_box rfl rfl rfl ⟨rfl, rfl⟩) (by rfl) ?_
    refine ra_q (j := 11) rfl rfl rfl rfl (do_move rfl ⟨rfl, rfl⟩) (by rfl) ?_
    refine ra_q (j := 12) rfl rfl rfl rfl (do_ix0 rfl rfl rfl (by first | omega | (simp only [ls] <;> omega)) ⟨rfl, rfl⟩) (by rfl) ?_
    refine ra_q (j := 13) rfl rfl rfl rfl (do_load_arr rfl rfl (by first | omega | (simp only [ls] <;> omega)) rfl ⟨rfl, rfl⟩) (by rfl) ?_
    refine ra_q (j := 14) rfl rfl rfl rfl (do_ix0 rfl rfl rfl (by first | omega | (simp only [ls] <;> omega)) ⟨rfl, rfl⟩) (by rfl) ?_
    refine ra_q (j := 15) rfl rfl rfl rfl (do_load_arr rfl rfl (by first | omega | (simp only [ls] <;> omega)) rfl ⟨rfl, rfl⟩) (by rfl) ?_
    refine ra_q (j := 16) rfl rfl rfl rfl (do_move rfl ⟨rfl, rfl⟩) (by rfl) ?_
    refine ra_q (j := 17) rfl rfl rfl rfl (do_add rfl rfl (by omega) ⟨rfl, rfl⟩) (by rfl) ?_
    refine n_done ?_
    refine rw_t 79 rfl rfl rfl (do_ix0 rfl rfl rfl (by first | omega | (simp only [ls] <;> omega)) ?_)
    refine rw_u rfl rfl (n_store_arr (z := (((p.Res.set a.toNat ((p.Res.getD a.toNat 0) - (p.Ex.getD ((tailOf c a).toNat) 0))).getD ((c.Rev.getD a.toNat 0).toNat) 0) + (p.Ex.getD ((tailOf c a).toNat) 0))) rfl rfl rfl (by first | omega | (simp only [ls] <;> omega)) rfl (by decide) rfl ?_)
    refine rw_nil ?_
    refine w_seq ?_
    -- region 12
    refine w_draw mixed [0, 1, 0, 0, 8, 0, 56, 120, 0, 504] [1023, 2047] (by kernel_rfl) (by kernel_rfl) rfl rfl rfl (hle hρ rfl) ?_
    refine ra_q (j := 0) rfl rfl rfl rfl (do_fieldaddr rfl ⟨rfl, rfl⟩) (by rfl) ?_
    refine ra_q (j := 1) rfl rfl rfl rfl (do_load_box rfl rfl rfl ⟨rfl, rfl⟩) (by rfl) ?_
    refine ra_q (j := 2) rfl rfl rfl rfl (do_move rfl ⟨rfl, rfl⟩) (by rfl) ?_
    refine ra_q (j := 3) rfl rfl rfl rfl (do_fieldaddr rfl ⟨rfl, rfl⟩) (by rfl) ?_
    refine ra_q (j := 4) rfl rfl rfl rfl (do_load_box rfl rfl rfl ⟨rfl, rfl⟩) (by rfl) ?_
    refine ra_q (j := 5) rfl rfl rfl rfl (do_move rfl ⟨rfl, rfl⟩) (by rfl) ?_
    refine ra_q (j := 6) rfl rfl rfl rfl (do_ix0 rfl rfl rfl (by first | omega | (simp only [ls] <;> omega)) ⟨rfl, rfl⟩) (by rfl) ?_
    refine ra_q (j := 7) rfl rfl rfl rfl (do_load_arr rfl rfl (by first | omega | (simp only [ls] <;> omega)) rfl ⟨rfl, rfl⟩) (by rfl) ?_
    refine ra_q (j := 8) rfl rfl rfl rfl (do_move rfl ⟨rfl, rfl⟩) (by rfl) ?_
    refine ra_q (j := 9) rfl rfl rfl rfl (do_sub rfl rfl (by omega) ⟨rfl, rfl⟩) (by rfl) ?_
    refine n_done ?_
    refine rw_t 90 rfl rfl rfl (do_ix0 rfl rfl rfl (by first | omega | (simp only [ls] <;> omega)) ?_)
    refine rw_u rfl rfl (n_store_arr (z := ((p.Ex.getD ((tailOf c a).toNat) 0) - (p.Ex.getD ((tailOf c a).toNat) 0))) rfl rfl rfl (by first | omega | (simp only [ls] <;> omega)) rfl (by decide) rfl ?_)
    refine rw_nil ?_
    refine w_seq ?_
    -- region 13
    refine w_draw mixed [0, 1, 0, 4, 0, 28, 60, 0, 128, 0, 512, 0, 3584, 7680, 16256, 32640, 0, 130944] [262143, 524287] (by kernel_rfl) (by kernel_rfl) rfl rfl rfl (hle hρ rfl) ?_
    refine ra_q (j := 0) rfl rfl rfl rfl (do_fieldaddr rfl ⟨rfl, rfl⟩) (by rfl) ?_
    refine ra_q (j := 1) rfl rfl rfl rfl (do_load_box rfl rfl rfl ⟨rfl, rfl⟩) (by rfl) ?_
    refine ra_q (j := 2) rfl rfl rfl rfl (do_fieldaddr rfl ⟨rfl, rfl⟩) (by rfl) ?_
    refine ra_q (j := 3) rfl rfl rfl rfl (do_load_box rfl rfl rfl ⟨rfl, rfl⟩) (by rfl) ?_
    refine ra_q (j := 4) rfl rfl rfl rfl (do_move rfl ⟨rfl, rfl⟩) (by rfl) ?_
    refine ra_q (j := 5) rfl rfl rfl rfl (do_ix0 rfl rfl rfl (by first | omega | (simp only [ls] <;> omega)) ⟨rfl, rfl⟩) (by rfl) ?_
    refine ra_q (j := 6) rfl rfl rfl rfl (do_load_arr rfl rfl (by first | omega | (simp only [ls] <;> omega)) rfl ⟨rfl, rfl⟩) (by rfl) ?_
    refine ra_q (j := 7) rfl rfl rfl rfl (do_fieldaddr rfl ⟨rfl, rfl⟩) (by rfl) ?_
    refine ra_q (j := 8) rfl rfl rfl rfl (do_load_box rfl rfl rfl ⟨rfl, rfl⟩) (by rfl) ?_
    refine ra_q (j := 9) rfl rfl rfl rfl (do_fieldaddr rfl ⟨rfl, rfl⟩) (by rfl) ?_
    refine ra_q (j := 10) rfl rfl rfl rfl (do_load_box rfl rfl rfl ⟨rfl, rfl⟩) (by rfl) ?_
    refine ra_q (j := 11) rfl rfl rfl rfl (do_move rfl ⟨rfl, rfl⟩) (by rfl) ?_
    refine ra_q (j := 12) rfl rfl rfl rfl (do_ix0 rfl rfl rfl (by first | omega | (simp only [ls] <;> omega)) ⟨rfl, rfl⟩) (by rfl) ?_
    refine ra_q (j := 13) rfl rfl rfl rfl (do_load_arr rfl rfl (by first | omega | (simp only [ls] <;> omega)) rfl ⟨rfl, rfl⟩) (by rfl) ?_
    refine ra_q (j := 14) rfl rfl rfl rfl (do_ix0 rfl rfl rfl (by first | omega | (simp only [ls] <;> omega)) ⟨rfl, rfl⟩) (by rfl) ?_
    refine ra_q (j := 15) rfl rfl rfl rfl (do_load_arr rfl rfl (by first | omega | (simp only [ls] <;> omega)) rfl ⟨rfl, rfl⟩) (by rfl) ?_
    refine ra_q (j := 16) rfl rfl rfl rfl (do_move rfl ⟨rfl, rfl⟩) (by rfl) ?_
    refine ra_q (j := 17) rfl rfl rfl rfl (do_add rfl rfl (by omega) ⟨rfl, rfl⟩) (by rfl) ?_
    refine n_done ?_
    refine rw_t 109 rfl rfl rfl (do_ix0 rfl rfl rfl (by first | omega | (simp only [ls] <;> omega)) ?_)
    refine rw_u rfl rfl (n_store_arr (z := (((p.Ex.set ((tailOf c a).toNat) ((p.Ex.getD ((tailOf c a).toNat) 0) - (p.Ex.getD ((tailOf c a).toNat) 0))).getD ((c.Head.getD a.toNat 0).toNat) 0) + (p.Ex.getD ((tailOf c a).toNat) 0))) rfl rfl rfl (by first | omega | (simp only [ls] <;> omega)) rfl (by decide) rfl ?_)
    refine rw_nil ?_
    refine w_seq ?_
    -- region 14
    refine w_region ?_
    refine rw_t 110 rfl rfl rfl (n_load_boxagg [_, _, _] rfl rfl (Nat.le_of_ble_eq_true rfl) rfl ?_)
    refine rw_t 111 rfl rfl rfl (do_move rfl ?_)
    refine rw_u rfl rfl (n_store_whole rfl rfl rfl rfl rfl rfl ?_)
    refine rw_t 7 rfl rfl rfl (do_assign rfl ?_)
    refine rw_t 8 rfl rfl rfl (do_assign rfl ?_)
    refine rw_nil ?_
    have e1 : pushR c p a = (moveP c p a (p.Ex.getD (tailOf c a).toNat 0), p.Ex.getD (tailOf c a).toNat 0, 0) := by unfold pushR; rw [if_pos ha, if_pos hpu, show pushD c p a = p.Ex.getD (tailOf c a).toNat 0 from if_neg hc3]
    obtain ⟨l1, l2, l3⟩ := moveP_len c p a (p.Ex.getD (tailOf c a).toNat 0)
    refine w_ret ?_
    exact ret_eq (.inl rfl) (.cons (res_agg rfl rfl (Nat.le_of_ble_eq_true rfl)) (.cons (res_tmp rfl) (.cons (res_tmp rfl) .nil))) [0, 1, 2, 3, 4, 5, 6, 7, 8, 12, 13, 14] (by rw [e1]; first | (simp only [l1, l2, l3]; done) | (simp only [l1, l2, l3]; rfl)) ⟨.inr ⟨_, rfl, .inl rfl⟩, .inr ⟨_, rfl, .inl rfl⟩, .inr ⟨_, rfl, .inl rfl⟩, .inr ⟨_, rfl, .inl rfl⟩, .inr ⟨_, rfl, .inl rfl⟩, .inr ⟨_, rfl, .inl rfl⟩, .inr ⟨_, rfl, .inl rfl⟩, .inr ⟨_, rfl, .inl rfl⟩, .inr ⟨_, rfl, .inl rfl⟩, .inr ⟨_, rfl, .inl (congrArg (SO.ints true .i64) (by rw [e1]; try rfl))⟩, .inr ⟨_, rfl, .inl (congrArg (SO.ints true .i64) (by rw [e1]; show addAt (subAt p.Ex (c.Head.getD (c.Rev.getD a.toNat 0).toNat 0) _) _ _ = _; rw [← htl]; rfl))⟩, .inr ⟨_, rfl, .inl (congrArg (SO.ints true .i64) (by rw [e1]; try rfl))⟩, trivial⟩ rfl (pre_ok rfl)
end Go.Proofs

set_option linter.unusedVariables false
set_option linter.unusedSimpArgs false
namespace Go.Proofs
open Go Go.Sx Go.RowKit
theorem lowL_yes {c : Csr} {p : Pre} {a0 m : Int} {k : Nat} (h1 : p.Res.getD (a0 + k).toNat 0 > 0) (h2 : p.H.getD (c.Head.getD (a0 + k).toNat 0).toNat 0 < lowL c p a0 m k) : lowL c p a0 m (k + 1) = p.H.getD (c.Head.getD (a0 + k).toNat 0).toNat 0 := by
  simp only [lowL]; rw [if_pos h1, if_pos h2]
theorem lowL_no {c : Csr} {p : Pre} {a0 m : Int} {k : Nat} (h : ¬ (p.Res.getD (a0 + k).toNat 0 > 0 ∧ p.H.getD (c.Head.getD (a0 + k).toNat 0).toNat 0 < lowL c p a0 m k)) : lowL c p a0 m (k + 1) = lowL c p a0 m k := by
  simp only [lowL]
  by_cases q : p.Res.getD (a0 + k).toNat 0 > 0
  · rw [if_pos q, if_neg (fun w => h ⟨q, w⟩)]
  · rw [if_neg q]
-- f25 "acequia/acequiaref07.Lift"
set_option maxHeartbeats 8000000 in
set_option synthInstance.maxHeartbeats 400000 in
set_option synthInstance.maxSize 2000 in
theorem t_rLift (c : Csr) (p : Pre) (h : CsrG c) (hp : PreIn c p) (u : Int) : Tri Try.prog 25 [.agg [.val (.int .i64 c.N), .val (.int .i64 c.S), .val (.int .i64 c.T), .slc 0 0 c.First.length none, .slc 1 0 c.Head.length none, .slc 2 0 c.Rev.length none, .slc 3 0 c.Cap.length none, .slc 4 0 c.Arc.length none, .slc 5 0 c.Back.length none], .agg [.slc 6 0 p.Res.length none, .slc 7 0 p.Ex.length none, .slc 8 0 p.H.length none], .val (.int .i64 u)] [SO.ints false .i64 c.First, SO.ints false .i64 c.Head, SO.ints false .i64 c.Rev, SO.ints false .i64 c.Cap, SO.ints false .i64 c.Arc, SO.bools false c.Back, SO.ints false .i64 p.Res, SO.ints false .i64 p.Ex, SO.ints false .i64 p.H] (fun s H => s = .tup [.agg [.slc 9 0 ((liftR c p u).1.Res.length) none, .slc 10 0 ((liftR c p u).1.Ex.length) none, .slc 11 0 ((liftR c p u).1.H.length) none], .val (.int .i64 ((liftR c p u).2))] ∧ H = [SO.ints false .i64 c.First, SO.ints false .i64 c.Head, SO.ints false .i64 c.Rev, SO.ints false .i64 c.Cap, SO.ints false .i64 c.Arc, SO.bools false c.Back, SO.ints false .i64 p.Res, SO.ints false .i64 p.Ex, SO.ints false .i64 p.H, SO.ints true .i64 ((liftR c p u).1.Res), SO.ints true .i64 ((liftR c p u).1.Ex), SO.ints true .i64 ((liftR c p u).1.H)]) := by
  refine tri_of_w (fn := Try.f25) Try.func25 rfl (by simp [Try.f25]) ?_
  intro ρ w hρ
  refine w_seq ?_
  have hn := h.n
  have hf := h.first
  have hhd := h.head
  have hrl := h.rev
  have hcl := h.cap
  have hal := h.arc
  have hbl := h.back
  have hr := hp.res
  have hx := hp.ex
  have hh := hp.h
  have hsm := h.small
  -- region 0
  refine w_region ?_
  refine rw_t 3 rfl rfl rfl (n_box_agg (n := 9) rfl rfl ?_)
  refine rw_t 4 rfl rfl rfl (n_box_agg (n := 10) rfl rfl ?_)
  refine rw_t 6 rfl rfl rfl (n_alloc (n := 11) rfl ?_)
  refine rw_t 7 rfl rfl rfl (do_assign rfl ?_)
  refine rw_nil ?_
  refine w_seq ?_
  refine w_seqB 18 ((u < 0 ∨ u ≥ c.N)) ?_ ?_
  · -- region 1
    refine w_region ?_
    refine rw_t 11 rfl rfl rfl (do_move rfl ?_)
    refine rw_t 12 rfl rfl rfl (do_bin rfl rfl rfl ?_)
    refine rw_t 13 rfl rfl rfl (do_move rfl ?_)
    refine rw_case 13 rfl (fun g1 => ?_) (fun g1 => ?_)
    · have kg1 := g1
      try simp only [bs] at kg1
      refine rw_gf 14 2 13 false rfl rfl rfl rfl rfl rfl (by rw [g1]; decide) ?_
      refine rw_gf 15 2 13 false rfl rfl rfl rfl rfl rfl (by rw [g1]; decide) ?_
      refine rw_gf 16 2 13 false rfl rfl rfl rfl rfl rfl (by rw [g1]; decide) ?_
      refine rw_gf 17 2 13 false rfl rfl rfl rfl rfl rfl (by rw [g1]; decide) ?_
      refine rw_t 18 rfl rfl rfl (do_pick_t rfl g1 rfl ?_)
      refine rw_nil ?_
      refine ⟨rfl, ⟨_, rfl, by first | (simp; done) | (simp only [bs]; omega) | (simp [*]; done) | (simp; omega) | (constructor <;> intro h <;> simp_all <;> omega)⟩, ?_⟩
      repeat (refine ⟨⟨_, rfl, rfl⟩, ?_⟩)
      exact trivial
    · have kg1 := g1
      try simp only [bs] at kg1
      refine rw_gt 14 2 13 false rfl rfl rfl rfl rfl rfl g1 (do_move rfl ?_)
      refine rw_gt 15 2 13 false rfl rfl rfl rfl rfl rfl g1 (do_fieldaddr rfl ?_)
      refine rw_gt 16 2 13 false rfl rfl rfl rfl rfl rfl g1 (do_load_box rfl rfl rfl ?_)
      refine rw_gt 17 2 13 false rfl rfl rfl rfl rfl rfl g1 (do_bin rfl rfl rfl ?_)
      refine rw_t 18 rfl rfl rfl (do_pick_f rfl g1 rfl ?_)
      refine rw_nil ?_
      refine ⟨rfl, ⟨_, rfl, by first | (simp; done) | (simp only [bs]; omega) | (simp [*]; done) | (simp; omega) | (constructor <;> intro h <;> simp_all <;> omega)⟩, ?_⟩
      repeat (refine ⟨⟨_, rfl, rfl⟩, ?_⟩)
      exact trivial
  intro b1 hb1
  refine w_condP hb1 rfl (fun hc1 => ?_) (fun hc1 => ?_)
  · refine w_seq ?_
    -- region 2
    refine w_region ?_
    refine rw_t 19 rfl rfl rfl (do_build (out := [_, _, _]) rfl rfl ?_)
    refine rw_u rfl rfl (n_store_whole rfl rfl rfl rfl rfl rfl ?_)
    refine rw_t 7 rfl rfl rfl (do_assign rfl ?_)
    refine rw_nil ?_
    have hno : ¬ (0 ≤ u ∧ u < c.N) := by omega
    have e1 : liftR c p u = (Pre.none, 2) := by unfold liftR; rw [if_neg hno]
    refine n_ghost Int 1 (encI .i64) 0 (fun _ => rfl) (fun _ _ h => by simp [encI] at h; subst h; rfl) ?_
    refine n_nilB 11 0 12 0 rfl rfl ?_
    refine n_ghost Int 1 (encI .i64) 0 (fun _ => rfl) (fun _ _ h => by simp [encI] at h; subst h; rfl) ?_
    refine n_nilB 11 1 13 0 rfl rfl ?_
    refine n_ghost Int 1 (encI .i64) 0 (fun _ => rfl) (fun _ _ h => by simp [encI] at h; subst h; rfl) ?_
    refine n_nilB 11 2 14 0 rfl rfl ?_
    refine w_ret ?_
    exact ret_eq (.inl rfl) (.cons (res_agg rfl rfl (Nat.le_of_ble_eq_true rfl)) (.cons (res_tmp rfl) .nil)) [0, 1, 2, 3, 4, 5, 6, 7, 8, 12, 13, 14] (by rw [e1]; rfl) ⟨.inr ⟨_, rfl, .inl rfl⟩, .inr ⟨_, rfl, .inl rfl⟩, .inr ⟨_, rfl, .inl rfl⟩, .inr ⟨_, rfl, .inl rfl⟩, .inr ⟨_, rfl, .inl rfl⟩, .inr ⟨_, rfl, .inl rfl⟩, .inr ⟨_, rfl, .inl rfl⟩, .inr ⟨_, rfl, .inl rfl⟩, .inr ⟨_, rfl, .inl rfl⟩, .inr ⟨_, rfl, .inl (congrArg (SO.ints true .i64) (by rw [e1]; try rfl))⟩, .inr ⟨_, rfl, .inl (congrArg (SO.ints true .i64) (by rw [e1]; try rfl))⟩, .inr ⟨_, rfl, .inl (congrArg (SO.ints true .i64) (by rw [e1]; try rfl))⟩, trivial⟩ rfl (pre_ok rfl)
  refine w_skip ?_
  refine w_seq ?_
  have hu : 0 ≤ u ∧ u < c.N := by omega
  have hm := h.mono u.toNat (by omega)
  have hmt : (u + 1).toNat = u.toNat + 1 := by omega
  rw [← hmt] at hm
  have hmo : manyOf c u = (c.First.getD (u + 1).toNat 0 - c.First.getD u.toNat 0).toNat := rfl
  have hsm := h.small
  refine w_seqB 37 (((u = c.S ∨ u = c.T) ∨ (p.Ex.getD u.toNat 0) ≤ 0)) ?_ ?_
  · -- region 3
    refine w_region ?_
    refine rw_t 20 rfl rfl rfl (do_move rfl ?_)
    refine rw_t 21 rfl rfl rfl (do_fieldaddr rfl ?_)
    refine rw_t 22 rfl rfl rfl (do_load_box rfl rfl rfl ?_)
    refine rw_t 23 rfl rfl rfl (do_bin rfl rfl rfl ?_)
    refine rw_t 24 rfl rfl rfl (do_move rfl ?_)
    refine rw_case 24 rfl (fun g2 => ?_) (fun g2 => ?_)
    · have kg2 := g2
      try simp only [bs] at kg2
      refine rw_gf 25 4 24 false rfl rfl rfl rfl rfl rfl (by rw [g2]; decide) ?_
      refine rw_gf 26 4 24 false rfl rfl rfl rfl rfl rfl (by rw [g2]; decide) ?_
      refine rw_gf 27 4 24 false rfl rfl rfl rfl rfl rfl (by rw [g2]; decide) ?_
      refine rw_gf 28 4 24 false rfl rfl rfl rfl rfl rfl (by rw [g2]; decide) ?_
      refine rw_t 29 rfl rfl rfl (do_pick_t rfl g2 rfl ?_)
      refine rw_t 30 rfl rfl rfl (do_move rfl ?_)
      refine rw_gf 31 10 30 false rfl rfl rfl rfl rfl rfl (by decide) ?_
      refine rw_gf 32 10 30 false rfl rfl rfl rfl rfl rfl (by decide) ?_
      refine rw_gf 33 10 30 false rfl rfl rfl rfl rfl rfl (by decide) ?_
      refine rw_gf 34 10 30 false rfl rfl rfl rfl rfl rfl (by decide) ?_
      refine rw_gf 35 10 30 false rfl rfl rfl rfl rfl rfl (by decide) ?_
      refine rw_gf 36 10 30 false rfl rfl rfl rfl rfl rfl (by decide) ?_
      refine rw_t 37 rfl rfl rfl (do_pick_t rfl rfl rfl ?_)
      refine rw_nil ?_
      refine ⟨rfl, ⟨_, rfl, by first | (simp; done) | (simp only [bs]; omega) | (simp [*]; done) | (simp; omega) | (constructor <;> intro h <;> simp_all <;> omega)⟩, ?_⟩
      repeat (refine ⟨⟨_, rfl, rfl⟩, ?_⟩)
      exact trivial
    · have kg2 := g2
      try simp only [bs] at kg2
      refine rw_gt 25 4 24 false rfl rfl rfl rfl rfl rfl g2 (do_move rfl ?_)
      refine rw_gt 26 4 24 false rfl rfl rfl rfl rfl rfl g2 (do_fieldaddr rfl ?_)
      refine rw_gt 27 4 24 false rfl rfl rfl rfl rfl rfl g2 (do_load_box rfl rfl rfl ?_)
      refine rw_gt 28 4 24 false rfl rfl rfl rfl rfl rfl g2 (do_bin rfl rfl rfl ?_)
      refine rw_t 29 rfl rfl rfl (do_pick_f rfl g2 rfl ?_)
      refine rw_t 30 rfl rfl rfl (do_move rfl ?_)
      refine rw_case 30 rfl (fun g3 => ?_) (fun g3 => ?_)
      · have kg3 := g3
        try simp only [bs] at kg3
        refine rw_gf 31 10 30 false rfl rfl rfl rfl rfl rfl (by rw [g3]; decide) ?_
        refine rw_gf 32 10 30 false rfl rfl rfl rfl rfl rfl (by rw [g3]; decide) ?_
        refine rw_gf 33 10 30 false rfl rfl rfl rfl rfl rfl (by rw [g3]; decide) ?_
        refine rw_gf 34 10 30 false rfl rfl rfl rfl rfl rfl (by rw [g3]; decide) ?_
        refine rw_gf 35 10 30 false rfl rfl rfl rfl rfl rfl (by rw [g3]; decide) ?_
        refine rw_gf 36 10 30 false rfl rfl rfl rfl rfl rfl (by rw [g3]; decide) ?_
        refine rw_t 37 rfl rfl rfl (do_pick_t rfl g3 rfl ?_)
        refine rw_nil ?_
        refine ⟨rfl, ⟨_, rfl, by first | (simp; done) | (simp only [bs]; omega) | (simp [*]; done) | (simp; omega) | (constructor <;> intro h <;> simp_all <;> omega)⟩, ?_⟩
        repeat (refine ⟨⟨_, rfl, rfl⟩, ?_⟩)
        exact trivial
      · have kg3 := g3
        try simp only [bs] at kg3
        refine rw_gt 31 10 30 false rfl rfl rfl rfl rfl rfl g3 (do_fieldaddr rfl ?_)
        refine rw_gt 32 10 30 false rfl rfl rfl rfl rfl rfl g3 (do_load_box rfl rfl rfl ?_)
        refine rw_gt 33 10 30 false rfl rfl rfl rfl rfl rfl g3 (do_move rfl ?_)
        refine rw_gt 34 10 30 false rfl rfl rfl rfl rfl rfl g3 (do_ix0 rfl rfl rfl (by first | omega | (simp only [ls] <;> omega)) ?_)
        refine rw_gt 35 10 30 false rfl rfl rfl rfl rfl rfl g3 (do_load_arr rfl rfl (by first | omega | (simp only [ls] <;> omega)) rfl ?_)
        refine rw_gt 36 10 30 false rfl rfl rfl rfl rfl rfl g3 (do_bin rfl rfl rfl ?_)
        refine rw_t 37 rfl rfl rfl (do_pick_f rfl g3 rfl ?_)
        refine rw_nil ?_
        refine ⟨rfl, ⟨_, rfl, by first | (simp; done) | (simp only [bs]; omega) | (simp [*]; done) | (simp; omega) | (constructor <;> intro h <;> simp_all <;> omega)⟩, ?_⟩
        repeat (refine ⟨⟨_, rfl, rfl⟩, ?_⟩)
        exact trivial
  intro b2 hb2
  refine w_condP hb2 rfl (fun hc2 => ?_) (fun hc2 => ?_)
  · refine w_seq ?_
    -- region 4
    refine w_region ?_
    refine rw_t 38 rfl rfl rfl (do_build (out := [_, _, _]) rfl rfl ?_)
    refine rw_u rfl rfl (n_store_whole rfl rfl rfl rfl rfl rfl ?_)
    refine rw_t 7 rfl rfl rfl (do_assign rfl ?_)
    refine rw_nil ?_
    have hno : ¬ stuckP c p u := fun q => by have := q.2; unfold activeP at this; omega
    have e1 : liftR c p u = (Pre.none, 30) := by unfold liftR; rw [if_pos hu, if_neg hno]
    refine n_ghost Int 1 (encI .i64) 0 (fun _ => rfl) (fun _ _ h => by simp [encI] at h; subst h; rfl) ?_
    refine n_nilB 11 0 12 0 rfl rfl ?_
    refine n_ghost Int 1 (encI .i64) 0 (fun _ => rfl) (fun _ _ h => by simp [encI] at h; subst h; rfl) ?_
    refine n_nilB 11 1 13 0 rfl rfl ?_
    refine n_ghost Int 1 (encI .i64) 0 (fun _ => rfl) (fun _ _ h => by simp [encI] at h; subst h; rfl) ?_
    refine n_nilB 11 2 14 0 rfl rfl ?_
    refine w_ret ?_
    exact ret_eq (.inl rfl) (.cons (res_agg rfl rfl (Nat.le_of_ble_eq_true rfl)) (.cons (res_tmp rfl) .nil)) [0, 1, 2, 3, 4, 5, 6, 7, 8, 12, 13, 14] (by rw [e1]; rfl) ⟨.inr ⟨_, rfl, .inl rfl⟩, .inr ⟨_, rfl, .inl rfl⟩, .inr ⟨_, rfl, .inl rfl⟩, .inr ⟨_, rfl, .inl rfl⟩, .inr ⟨_, rfl, .inl rfl⟩, .inr ⟨_, rfl, .inl rfl⟩, .inr ⟨_, rfl, .inl rfl⟩, .inr ⟨_, rfl, .inl rfl⟩, .inr ⟨_, rfl, .inl rfl⟩, .inr ⟨_, rfl, .inl (congrArg (SO.ints true .i64) (by rw [e1]; try rfl))⟩, .inr ⟨_, rfl, .inl (congrArg (SO.ints true .i64) (by rw [e1]; try rfl))⟩, .inr ⟨_, rfl, .inl (congrArg (SO.ints true .i64) (by rw [e1]; try rfl))⟩, trivial⟩ rfl (pre_ok rfl)
  refine w_skip ?_
  refine w_seq ?_
  have hact : activeP c p u := by unfold activeP; omega
  -- region 5
  refine w_region ?_
  refine rw_t 39 rfl rfl rfl (do_fieldaddr rfl ?_)
  refine rw_t 40 rfl rfl rfl (do_load_box rfl rfl rfl ?_)
  refine rw_t 41 rfl rfl rfl (do_mul rfl rfl (by omega) ?_)
  refine rw_t 8 rfl rfl rfl (do_assign rfl ?_)
  refine rw_nil ?_
  refine w_seq ?_
  refine w_seq ?_
  -- region 6
  refine w_region ?_
  refine rw_t 42 rfl rfl rfl (do_fieldaddr rfl ?_)
  refine rw_t 43 rfl rfl rfl (do_load_box rfl rfl rfl ?_)
  refine rw_t 44 rfl rfl rfl (do_move rfl ?_)
  refine rw_t 45 rfl rfl rfl (do_ix0 rfl rfl rfl (by first | omega | (simp only [ls] <;> omega)) ?_)
  refine rw_t 46 rfl rfl rfl (do_load_arr rfl rfl (by first | omega | (simp only [ls] <;> omega)) rfl ?_)
  refine rw_t 9 rfl rfl rfl (do_assign rfl ?_)
  refine rw_nil ?_
  refine w_block ?_
  refine w_loopS (ι := Nat) (fun i => [(2, .val (.int .i64 u)), (3, .ptr 9 0 0), (4, .ptr 10 0 0), (6, .ptr 11 0 0), (8, .val (.int .i64 (lowL c p (c.First.getD u.toNat 0) (2 * c.N) i))), (9, .val (.int .i64 (c.First.getD u.toNat 0 + (i : Int))))]) (fun i => [SO.ints false .i64 c.First, SO.ints false .i64 c.Head, SO.ints false .i64 c.Rev, SO.ints false .i64 c.Cap, SO.ints false .i64 c.Arc, SO.bools false c.Back, SO.ints false .i64 p.Res, SO.ints false .i64 p.Ex, SO.ints false .i64 p.H, .box [.val (.int .i64 c.N), .val (.int .i64 c.S), .val (.int .i64 c.T), .slc 0 0 c.First.length none, .slc 1 0 c.Head.length none, .slc 2 0 c.Rev.length none, .slc 3 0 c.Cap.length none, .slc 4 0 c.Arc.length none, .slc 5 0 c.Back.length none], .box [.slc 6 0 p.Res.length none, .slc 7 0 p.Ex.length none, .slc 8 0 p.H.length none], .box [.val (.slice none 0 0), .val (.slice none 0 0), .val (.slice none 0 0)]]) (fun i => manyOf c u - i) (fun i => i ≤ manyOf c u ∧ ∀ j : Nat, j < i → ¬ admP c p u (c.First.getD u.toNat 0 + j)) (0) [0, 1, 2, 3, 4, 5, 6, 7, 8, 9, 10, 11] (⟨by simp, fun j hj => by omega⟩) ⟨.inr ⟨_, rfl, .inl rfl⟩, .inr ⟨_, rfl, .inl rfl⟩, .inr ⟨_, rfl, .inl rfl⟩, .inr ⟨_, rfl, .inl rfl⟩, .inr ⟨_, rfl, .inl rfl⟩, .inr ⟨_, rfl, .inl rfl⟩, .inr ⟨_, rfl, .inl rfl⟩, .inr ⟨_, rfl, .inl rfl⟩, .inr ⟨_, rfl, .inl rfl⟩, .inr ⟨_, rfl, .inl rfl⟩, .inr ⟨_, rfl, .inl rfl⟩, .inr ⟨_, rfl, .inl rfl⟩, trivial⟩ rfl (pre_ok rfl) hρ ⟨⟨_, rfl, rfl⟩, ⟨_, rfl, rfl⟩, ⟨_, rfl, rfl⟩, ⟨_, rfl, rfl⟩, ⟨_, rfl, Eq.symm (val_congr (rfl))⟩, ⟨_, rfl, Eq.symm (val_congr (by simp))⟩, trivial⟩ ?_
  rintro i ⟨g1, g2⟩
  refine w_seq ?_
  refine w_seq ?_
  -- region 7
  refine w_region ?_
  refine rw_t 47 rfl rfl rfl (do_move rfl ?_)
  refine rw_t 48 rfl rfl rfl (do_fieldaddr rfl ?_)
  refine rw_t 49 rfl rfl rfl (do_load_box rfl rfl rfl ?_)
  refine rw_t 50 rfl rfl rfl (do_move rfl ?_)
  refine rw_t 51 rfl rfl rfl (do_add rfl rfl (by omega) ?_)
  refine rw_t 52 rfl rfl rfl (do_ix0 rfl rfl rfl (by first | omega | (simp only [ls] <;> omega)) ?_)
  refine rw_t 53 rfl rfl rfl (do_load_arr rfl rfl (by first | omega | (simp only [ls] <;> omega)) rfl ?_)
  refine rw_t 54 rfl rfl rfl (do_bin rfl rfl rfl ?_)
  refine rw_nil ?_
  refine w_cond rfl (fun hc3 => ?_) (fun hc3 => ?_)
  all_goals try simp only [bs] at hc3
  rotate_left
  · refine w_exit ?_ -- exit 0
    refine w_seq ?_
    have hl10 := lowL_in (c := c) hp.hi (c.First.getD u.toNat 0) (m := 2 * c.N) (by omega) i
    -- region 13
    refine w_region ?_
    refine rw_t 90 rfl rfl rfl (n_load_boxagg [_, _, _] rfl rfl (Nat.le_of_ble_eq_true rfl) rfl ?_)
    refine rw_t 91 rfl rfl rfl (n_callN (X' := .agg [.slc 12 0 p.Res.length none, .slc 13 0 p.Ex.length none, .slc 14 0 p.H.length none]) (N' := [SO.ints true .i64 p.Res, SO.ints true .i64 p.Ex, SO.ints true .i64 p.H]) rfl rfl (t_rCopy (p := p) (by omega)) [6, 7, 8] ⟨.inr ⟨_, rfl, srv⟩, .inr ⟨_, rfl, srv⟩, .inr ⟨_, rfl, srv⟩, trivial⟩ rfl rfl rfl rfl rfl ?_)
    refine rw_t 10 rfl rfl rfl (n_alloc (n := 15) rfl ?_)
    refine rw_u rfl rfl (n_store_whole rfl rfl rfl rfl rfl rfl ?_)
    refine rw_nil ?_
    refine w_seq ?_
    -- region 14
    refine w_region ?_
    refine rw_t 92 rfl rfl rfl (do_fieldaddr rfl ?_)
    refine rw_t 93 rfl rfl rfl (do_load_box rfl rfl rfl ?_)
    refine rw_t 94 rfl rfl rfl (do_move rfl ?_)
    refine rw_t 95 rfl rfl rfl (do_move rfl ?_)
    refine rw_t 96 rfl rfl rfl (do_add rfl rfl (by omega) ?_)
    refine rw_t 97 rfl rfl rfl (do_ix0 rfl rfl rfl (by first | omega | (simp only [ls] <;> omega)) ?_)
    refine rw_u rfl rfl (n_store_arr (z := (lowL c p (c.First.getD u.toNat 0) (2 * c.N) i + 1)) rfl rfl rfl (by first | omega | (simp only [ls] <;> omega)) rfl (by decide) rfl ?_)
    refine rw_nil ?_
    refine w_seq ?_
    -- region 15
    refine w_region ?_
    refine rw_t 98 rfl rfl rfl (n_load_boxagg [_, _, _] rfl rfl (Nat.le_of_ble_eq_true rfl) rfl ?_)
    refine rw_u rfl rfl (n_store_whole rfl rfl rfl rfl rfl rfl ?_)
    refine rw_t 7 rfl rfl rfl (do_assign rfl ?_)
    refine rw_nil ?_
    have hi' : i = manyOf c u := by omega
    subst hi'
    have hsk : stuckP c p u := ⟨g2, hact⟩
    have e1 : liftR c p u = (⟨p.Res, p.Ex, p.H.set u.toNat (leastL c p u + 1)⟩, 0) := by unfold liftR; rw [if_pos hu, if_pos hsk]
    refine w_ret ?_
    exact ret_eq (.inl rfl) (.cons (res_agg rfl rfl (Nat.le_of_ble_eq_true rfl)) (.cons (res_tmp rfl) .nil)) [0, 1, 2, 3, 4, 5, 6, 7, 8, 12, 13, 14] (by rw [e1]; simp only [List.length_set]; try rfl) ⟨.inr ⟨_, rfl, .inl rfl⟩, .inr ⟨_, rfl, .inl rfl⟩, .inr ⟨_, rfl, .inl rfl⟩, .inr ⟨_, rfl, .inl rfl⟩, .inr ⟨_, rfl, .inl rfl⟩, .inr ⟨_, rfl, .inl rfl⟩, .inr ⟨_, rfl, .inl rfl⟩, .inr ⟨_, rfl, .inl rfl⟩, .inr ⟨_, rfl, .inl rfl⟩, .inr ⟨_, rfl, .inl (congrArg (SO.ints true .i64) (by rw [e1]; try rfl))⟩, .inr ⟨_, rfl, .inl (congrArg (SO.ints true .i64) (by rw [e1]; try rfl))⟩, .inr ⟨_, rfl, .inl (congrArg (SO.ints true .i64) (by rw [e1]; try rfl))⟩, trivial⟩ rfl (pre_ok rfl)
  refine w_skip ?_
  refine w_seq ?_
  refine w_block ?_
  refine w_seq ?_
  refine w_seq ?_
  have ht9 := tail_of_arc h.toCsrT (u := u) (a := c.First.getD u.toNat 0 + (i : Int)) hu (by omega) (by rw [← hmt]; omega)
  have hd8 := h.hd (c.First.getD u.toNat 0 + (i : Int)).toNat (by omega)
  have hl8 := lowL_in (c := c) hp.hi (c.First.getD u.toNat 0) (m := 2 * c.N) (by omega) i
  -- region 9
  refine w_region ?_
  refine rw_t 57 rfl rfl rfl (n_load_boxagg [_, _, _, _, _, _, _, _, _] rfl rfl (Nat.le_of_ble_eq_true rfl) rfl ?_)
  refine rw_t 58 rfl rfl rfl (n_load_boxagg [_, _, _] rfl rfl (Nat.le_of_ble_eq_true rfl) rfl ?_)
  refine rw_t 59 rfl rfl rfl (do_move rfl ?_)
  refine rw_t 60 rfl rfl rfl (do_callR (X' := .val (.bool (decide (pushesP c p (c.First.getD u.toNat 0 + (i : Int)))))) rfl rfl (t_pushes (c := c) (p := p) (a := (c.First.getD u.toNat 0 + (i : Int))) (h) (hp) (⟨ht9.1, ht9.2.1⟩)) [0, 1, 2, 3, 4, 5, 6, 7, 8] ⟨.inr ⟨_, rfl, srv⟩, .inr ⟨_, rfl, srv⟩, .inr ⟨_, rfl, srv⟩, .inr ⟨_, rfl, srv⟩, .inr ⟨_, rfl, srv⟩, .inr ⟨_, rfl, srv⟩, .inr ⟨_, rfl, srv⟩, .inr ⟨_, rfl, srv⟩, .inr ⟨_, rfl, srv⟩, trivial⟩ rfl rfl rfl ?_)
  refine rw_nil ?_
  refine w_cond rfl (fun hc4 => ?_) (fun hc4 => ?_)
  all_goals try simp only [bs] at hc4
  · refine w_seq ?_
    -- region 10
    refine w_region ?_
    refine rw_t 61 rfl rfl rfl (do_build (out := [_, _, _]) rfl rfl ?_)
    refine rw_u rfl rfl (n_store_whole rfl rfl rfl rfl rfl rfl ?_)
    refine rw_t 7 rfl rfl rfl (do_assign rfl ?_)
    refine rw_nil ?_
    have hno : ¬ stuckP c p u := fun q => q.1 i (by omega) (by have w := hc4.2; rwa [ht9.2.2] at w)
    have e1 : liftR c p u = (Pre.none, 30) := by unfold liftR; rw [if_pos hu, if_neg hno]
    refine n_ghost Int 1 (encI .i64) 0 (fun _ => rfl) (fun _ _ h => by simp [encI] at h; subst h; rfl) ?_
    refine n_nilB 11 0 12 0 rfl rfl ?_
    refine n_ghost Int 1 (encI .i64) 0 (fun _ => rfl) (fun _ _ h => by simp [encI] at h; subst h; rfl) ?_
    refine n_nilB 11 1 13 0 rfl rfl ?_
    refine n_ghost Int 1 (encI .i64) 0 (fun _ => rfl) (fun _ _ h => by simp [encI] at h; subst h; rfl) ?_
    refine n_nilB 11 2 14 0 rfl rfl ?_
    refine w_ret ?_
    exact ret_eq (.inl rfl) (.cons (res_agg rfl rfl (Nat.le_of_ble_eq_true rfl)) (.cons (res_tmp rfl) .nil)) [0, 1, 2, 3, 4, 5, 6, 7, 8, 12, 13, 14] (by rw [e1]; rfl) ⟨.inr ⟨_, rfl, .inl rfl⟩, .inr ⟨_, rfl, .inl rfl⟩, .inr ⟨_, rfl, .inl rfl⟩, .inr ⟨_, rfl, .inl rfl⟩, .inr ⟨_, rfl, .inl rfl⟩, .inr ⟨_, rfl, .inl rfl⟩, .inr ⟨_, rfl, .inl rfl⟩, .inr ⟨_, rfl, .inl rfl⟩, .inr ⟨_, rfl, .inl rfl⟩, .inr ⟨_, rfl, .inl (congrArg (SO.ints true .i64) (by rw [e1]; try rfl))⟩, .inr ⟨_, rfl, .inl (congrArg (SO.ints true .i64) (by rw [e1]; try rfl))⟩, .inr ⟨_, rfl, .inl (congrArg (SO.ints true .i64) (by rw [e1]; try rfl))⟩, trivial⟩ rfl (pre_ok rfl)
  refine w_skip ?_
  refine w_seqB 80 (((p.Res.getD ((c.First.getD u.toNat 0 + (i : Int)).toNat) 0) > 0 ∧ (p.H.getD ((c.Head.getD ((c.First.getD u.toNat 0 + (i : Int)).toNat) 0).toNat) 0) < lowL c p (c.First.getD u.toNat 0) (2 * c.N) i)) ?_ ?_
  · -- region 11
    refine w_draw mixed [0, 1, 0, 7, 15, 31, 63, 127, 255, 127, 639, 127, 3711, 7807, 16383, 32767, 127] [131071, 262143] (by kernel_rfl) (by kernel_rfl) rfl rfl rfl (hle hρ rfl) ?_
    refine ra_q (j := 0) rfl rfl rfl rfl (do_fieldaddr rfl ⟨rfl, rfl⟩) (by rfl) ?_
    refine ra_q (j := 1) rfl rfl rfl rfl (do_load_box rfl rfl rfl ⟨rfl, rfl⟩) (by rfl) ?_
    refine ra_q (j := 2) rfl rfl rfl rfl (do_move rfl ⟨rfl, rfl⟩) (by rfl) ?_
    refine ra_q (j := 3) rfl rfl rfl rfl (do_ix0 rfl rfl rfl (by first | omega | (simp only [ls] <;> omega)) ⟨rfl, rfl⟩) (by rfl) ?_
    refine ra_q (j := 4) rfl rfl rfl rfl (do_load_arr rfl rfl (by first | omega | (simp only [ls] <;> omega)) rfl ⟨rfl, rfl⟩) (by rfl) ?_
    refine ra_q (j := 5) rfl rfl rfl rfl (do_bin rfl rfl rfl ⟨rfl, rfl⟩) (by rfl) ?_
    refine ra_q (j := 6) rfl rfl rfl rfl (do_move rfl ⟨rfl, rfl⟩) (by rfl) ?_
    refine ra_case 68 rfl (fun g4 => ?_) (fun g4 => ?_)
    · have kg4 := g4
      try simp only [bs] at kg4
      refine ra_gt (j := 7) rfl rfl rfl rfl g4 rfl rfl rfl (do_fieldaddr rfl ⟨rfl, rfl⟩) (by rfl) ?_
      refine ra_gt (j := 8) rfl rfl rfl rfl g4 rfl rfl rfl (do_load_box rfl rfl rfl ⟨rfl, rfl⟩) (by rfl) ?_
      refine ra_gt (j := 9) rfl rfl rfl rfl g4 rfl rfl rfl (do_fieldaddr rfl ⟨rfl, rfl⟩) (by rfl) ?_
      refine ra_gt (j := 10) rfl rfl rfl rfl g4 rfl rfl rfl (do_load_box rfl rfl rfl ⟨rfl, rfl⟩) (by rfl) ?_
      refine ra_gt (j := 11) rfl rfl rfl rfl g4 rfl rfl rfl (do_move rfl ⟨rfl, rfl⟩) (by rfl) ?_
      refine ra_gt (j := 12) rfl rfl rfl rfl g4 rfl rfl rfl (do_ix0 rfl rfl rfl (by first | omega | (simp only [ls] <;> omega)) ⟨rfl, rfl⟩) (by rfl) ?_
      refine ra_gt (j := 13) rfl rfl rfl rfl g4 rfl rfl rfl (do_load_arr rfl rfl (by first | omega | (simp only [ls] <;> omega)) rfl ⟨rfl, rfl⟩) (by rfl) ?_
      refine ra_gt (j := 14) rfl rfl rfl rfl g4 rfl rfl rfl (do_ix0 rfl rfl rfl (by first | omega | (simp only [ls] <;> omega)) ⟨rfl, rfl⟩) (by rfl) ?_
      refine ra_gt (j := 15) rfl rfl rfl rfl g4 rfl rfl rfl (do_load_arr rfl rfl (by first | omega | (simp only [ls] <;> omega)) rfl ⟨rfl, rfl⟩) (by rfl) ?_
      refine ra_gt (j := 16) rfl rfl rfl rfl g4 rfl rfl rfl (do_move rfl ⟨rfl, rfl⟩) (by rfl) ?_
      refine n_done ?_
      refine rw_gt 79 6 68 true rfl rfl rfl rfl rfl rfl g4 (do_bin rfl rfl rfl ?_)
      refine rw_t 80 rfl rfl rfl (do_pick_t rfl g4 rfl ?_)
      refine rw_nil ?_
      refine ⟨rfl, ⟨_, rfl, by first | (simp; done) | (simp only [bs]; omega) | (simp [*]; done) | (simp; omega) | (constructor <;> intro h <;> simp_all <;> omega)⟩, ?_⟩
      repeat (refine ⟨⟨_, rfl, rfl⟩, ?_⟩)
      exact trivial
    · have kg4 := g4
      try simp only [bs] at kg4
      refine ra_gf (j := 7) rfl rfl rfl rfl (by rw [g4]; decide) rfl rfl rfl ?_
      refine ra_gf (j := 8) rfl rfl rfl rfl (by rw [g4]; decide) rfl rfl rfl ?_
      refine ra_gf (j := 9) rfl rfl rfl rfl (by rw [g4]; decide) rfl rfl rfl ?_
      refine ra_gf (j := 10) rfl rfl rfl rfl (by rw [g4]; decide) rfl rfl rfl ?_
      refine ra_gf (j := 11) rfl rfl rfl rfl (by rw [g4]; decide) rfl rfl rfl ?_
      refine ra_gf (j := 12) rfl rfl rfl rfl (by rw [g4]; decide) rfl rfl rfl ?_
      refine ra_gf (j := 13) rfl rfl rfl rfl (by rw [g4]; decide) rfl rfl rfl ?_
      refine ra_gf (j := 14) rfl rfl rfl rfl (by rw [g4]; decide) rfl rfl rfl ?_
      refine ra_gf (j := 15) rfl rfl rfl rfl (by rw [g4]; decide) rfl rfl rfl ?_
      refine ra_gf (j := 16) rfl rfl rfl rfl (by rw [g4]; decide) rfl rfl rfl ?_
      refine n_done ?_
      refine rw_gf 79 6 68 true rfl rfl rfl rfl rfl rfl (by rw [g4]; decide) ?_
      refine rw_t 80 rfl rfl rfl (do_pick_f rfl g4 rfl ?_)
      refine rw_nil ?_
      refine ⟨rfl, ⟨_, rfl, by first | (simp; done) | (simp only [bs]; omega) | (simp [*]; done) | (simp; omega) | (constructor <;> intro h <;> simp_all <;> omega)⟩, ?_⟩
      repeat (refine ⟨⟨_, rfl, rfl⟩, ?_⟩)
      exact trivial
  intro b3 hb3
  refine w_condP hb3 rfl (fun hc5 => ?_) (fun hc5 => ?_)
  · -- region 12
    refine w_env [(2, .val (.int .i64 u)), (3, .ptr 9 0 0), (4, .ptr 10 0 0), (6, .ptr 11 0 0), (9, .val (.int .i64 (c.First.getD u.toNat 0 + (i : Int)))), (47, .val (.int .i64 (c.First.getD u.toNat 0 + (i : Int)))), (48, .ptr 9 0 3), (49, .slc 0 0 c.First.length none), (50, .val (.int .i64 u)), (51, .val (.int .i64 (u + 1))), (52, .ptr 0 ((u + 1).toNat) 0), (53, .val (.int .i64 (c.First.getD ((u + 1).toNat) 0))), (54, .val (.bool (decide ((c.First.getD u.toNat 0 + (i : Int)) < (c.First.getD ((u + 1).toNat) 0))))), (57, .agg [.val (.int .i64 c.N), .val (.int .i64 c.S), .val (.int .i64 c.T), .slc 0 0 c.First.length none, .slc 1 0 c.Head.length none, .slc 2 0 c.Rev.length none, .slc 3 0 c.Cap.length none, .slc 4 0 c.Arc.length none, .slc 5 0 c.Back.length none]), (58, .agg [.slc 6 0 p.Res.length none, .slc 7 0 p.Ex.length none, .slc 8 0 p.H.length none]), (59, .val (.int .i64 (c.First.getD u.toNat 0 + (i : Int)))), (60, .val (.bool (decide (pushesP c p (c.First.getD u.toNat 0 + (i : Int)))))), (80, .val (.bool b3))] ⟨⟨_, rfl, rfl⟩, ⟨_, rfl, rfl⟩, ⟨_, rfl, rfl⟩, ⟨_, rfl, rfl⟩, ⟨_, rfl, rfl⟩, ⟨_, rfl, rfl⟩, ⟨_, rfl, rfl⟩, ⟨_, rfl, rfl⟩, ⟨_, rfl, rfl⟩, ⟨_, rfl, rfl⟩, ⟨_, rfl, rfl⟩, ⟨_, rfl, rfl⟩, ⟨_, rfl, rfl⟩, ⟨_, rfl, rfl⟩, ⟨_, rfl, rfl⟩, ⟨_, rfl, rfl⟩, ⟨_, rfl, rfl⟩, ⟨_, rfl, rfl⟩, trivial⟩ ?_
    refine w_draw mixed [0, 1, 0, 4, 0, 28, 60] [127, 255, 511] (by kernel_rfl) (by kernel_rfl) rfl rfl rfl (hle hρ rfl) ?_
    refine ra_q (j := 0) rfl rfl rfl rfl (do_fieldaddr rfl ⟨rfl, rfl⟩) (by rfl) ?_
    refine ra_q (j := 1) rfl rfl rfl rfl (do_load_box rfl rfl rfl ⟨rfl, rfl⟩) (by rfl) ?_
    refine ra_q (j := 2) rfl rfl rfl rfl (do_fieldaddr rfl ⟨rfl, rfl⟩) (by rfl) ?_
    refine ra_q (j := 3) rfl rfl rfl rfl (do_load_box rfl rfl rfl ⟨rfl, rfl⟩) (by rfl) ?_
    refine ra_q (j := 4) rfl rfl rfl rfl (do_move rfl ⟨rfl, rfl⟩) (by rfl) ?_
    refine ra_q (j := 5) rfl rfl rfl rfl (do_ix0 rfl rfl rfl (by first | omega | (simp only [ls] <;> omega)) ⟨rfl, rfl⟩) (by rfl) ?_
    refine ra_q (j := 6) rfl rfl rfl rfl (do_load_arr rfl rfl (by first | omega | (simp only [ls] <;> omega)) rfl ⟨rfl, rfl⟩) (by rfl) ?_
    refine n_done ?_
    refine rw_t 88 rfl rfl rfl (do_ix0 rfl rfl rfl (by first | omega | (simp only [ls] <;> omega)) ?_)
    refine rw_t 89 rfl rfl rfl (do_load_arr rfl rfl (by first | omega | (simp only [ls] <;> omega)) rfl ?_)
    refine rw_t 8 rfl rfl rfl (do_assign rfl ?_)
    refine rw_nil ?_
    -- region 8
    refine w_region ?_
    refine rw_t 55 rfl rfl rfl (do_move rfl ?_)
    refine rw_t 56 rfl rfl rfl (do_add rfl rfl (by omega) ?_)
    refine rw_t 9 rfl rfl rfl (do_assign rfl ?_)
    refine rw_nil ?_
    refine ⟨i + 1, [0, 1, 2, 3, 4, 5, 6, 7, 8, 9, 10, 11], by dsimp only; omega, ⟨by omega, fun j hj => by rcases Nat.lt_or_ge j i with q | q; exact g2 j q; have : j = i := (by omega); subst this; exact fun w => hc4 ⟨by rw [ht9.2.2]; exact hact, by rw [ht9.2.2]; exact w⟩⟩, ⟨.inr ⟨_, rfl, .inl rfl⟩, .inr ⟨_, rfl, .inl rfl⟩, .inr ⟨_, rfl, .inl rfl⟩, .inr ⟨_, rfl, .inl rfl⟩, .inr ⟨_, rfl, .inl rfl⟩, .inr ⟨_, rfl, .inl rfl⟩, .inr ⟨_, rfl, .inl rfl⟩, .inr ⟨_, rfl, .inl rfl⟩, .inr ⟨_, rfl, .inl rfl⟩, .inr ⟨_, rfl, .inl rfl⟩, .inr ⟨_, rfl, .inl rfl⟩, .inr ⟨_, rfl, .inl rfl⟩, trivial⟩, rfl, pre_ok rfl, ⟨⟨_, rfl, rfl⟩, ⟨_, rfl, rfl⟩, ⟨_, rfl, rfl⟩, ⟨_, rfl, rfl⟩, ⟨_, rfl, Eq.symm (val_congr (lowL_yes hc5.1 hc5.2))⟩, ⟨_, rfl, Eq.symm (val_congr (by omega))⟩, trivial⟩⟩
  · refine w_skip ?_
    -- region 8
    refine w_region ?_
    refine rw_t 55 rfl rfl rfl (do_move rfl ?_)
    refine rw_t 56 rfl rfl rfl (do_add rfl rfl (by omega) ?_)
    refine rw_t 9 rfl rfl rfl (do_assign rfl ?_)
    refine rw_nil ?_
    refine ⟨i + 1, [0, 1, 2, 3, 4, 5, 6, 7, 8, 9, 10, 11], by dsimp only; omega, ⟨by omega, fun j hj => by rcases Nat.lt_or_ge j i with q | q; exact g2 j q; have : j = i := (by omega); subst this; exact fun w => hc4 ⟨by rw [ht9.2.2]; exact hact, by rw [ht9.2.2]; exact w⟩⟩, ⟨.inr ⟨_, rfl, .inl rfl⟩, .inr ⟨_, rfl, .inl rfl⟩, .inr ⟨_, rfl, .inl rfl⟩, .inr ⟨_, rfl, .inl rfl⟩, .inr ⟨_, rfl, .inl rfl⟩, .inr ⟨_, rfl, .inl rfl⟩, .inr ⟨_, rfl, .inl rfl⟩, .inr ⟨_, rfl, .inl rfl⟩, .inr ⟨_, rfl, .inl rfl⟩, .inr ⟨_, rfl, .inl rfl⟩, .inr ⟨_, rfl, .inl rfl⟩, .inr ⟨_, rfl, .inl rfl⟩, trivial⟩, rfl, pre_ok rfl, ⟨⟨_, rfl, rfl⟩, ⟨_, rfl, rfl⟩, ⟨_, rfl, rfl⟩, ⟨_, rfl, rfl⟩, ⟨_, rfl, Eq.symm (val_congr (lowL_no hc5))⟩, ⟨_, rfl, Eq.symm (val_congr (by omega))⟩, trivial⟩⟩
end Go.Proofs

set_option linter.unusedVariables false
set_option linter.unusedSimpArgs false
namespace Go.Proofs
open Go Go.Sx Go.RowKit
theorem lift_zero {c : Csr} {p : Pre} {u : Int} (hu : 0 ≤ u ∧ u < c.N) : (liftR c p u).2 = 0 ↔ stuckP c p u := by
  unfold liftR
  rw [if_pos hu]
  by_cases h : stuckP c p u
  · rw [if_pos h]; exact ⟨fun _ => h, fun _ => rfl⟩
  · rw [if_neg h]; exact ⟨fun q => (by cases q), fun q => (h q).elim⟩
-- f18 "acequia/acequiaref07.May"
set_option maxHeartbeats 8000000 in
set_option synthInstance.maxHeartbeats 400000 in
set_option synthInstance.maxSize 2000 in
theorem t_rMay (c : Csr) (p : Pre) (h : CsrG c) (hp : PreIn c p) : Tri Try.prog 18 [.agg [.val (.int .i64 c.N), .val (.int .i64 c.S), .val (.int .i64 c.T), .slc 0 0 c.First.length none, .slc 1 0 c.Head.length none, .slc 2 0 c.Rev.length none, .slc 3 0 c.Cap.length none, .slc 4 0 c.Arc.length none, .slc 5 0 c.Back.length none], .agg [.slc 6 0 p.Res.length none, .slc 7 0 p.Ex.length none, .slc 8 0 p.H.length none]] [SO.ints false .i64 c.First, SO.ints false .i64 c.Head, SO.ints false .i64 c.Rev, SO.ints false .i64 c.Cap, SO.ints false .i64 c.Arc, SO.bools false c.Back, SO.ints false .i64 p.Res, SO.ints false .i64 p.Ex, SO.ints false .i64 p.H] (fun s H => s = .tup [.slc 9 0 ((pushL c p).length) none, .slc 10 0 ((stuckL c p).length) none] ∧ H = [SO.ints false .i64 c.First, SO.ints false .i64 c.Head, SO.ints false .i64 c.Rev, SO.ints false .i64 c.Cap, SO.ints false .i64 c.Arc, SO.bools false c.Back, SO.ints false .i64 p.Res, SO.ints false .i64 p.Ex, SO.ints false .i64 p.H, SO.ints true .i64 (pushL c p), SO.ints true .i64 (stuckL c p)]) := by
  refine tri_of_w (fn := Try.f18) Try.func18 rfl (by simp [Try.f18]) ?_
  intro ρ w hρ
  refine w_seq ?_
  have hn := h.n
  have hf := h.first
  have hhd := h.head
  have hrl := h.rev
  have hcl := h.cap
  have hal := h.arc
  have hbl := h.back
  have hr := hp.res
  have hx := hp.ex
  have hh := hp.h
  have hsm := h.small
  -- region 0
  refine w_region ?_
  refine rw_t 2 rfl rfl rfl (n_box_agg (n := 9) rfl rfl ?_)
  refine rw_t 3 rfl rfl rfl (n_box_agg (n := 10) rfl rfl ?_)
  refine rw_t 4 rfl rfl rfl (do_assign rfl ?_)
  refine rw_t 5 rfl rfl rfl (do_assign rfl ?_)
  refine rw_nil ?_
  refine w_seq ?_
  -- region 1
  refine w_region ?_
  refine rw_t 6 rfl rfl rfl (do_assign rfl ?_)
  refine rw_t 7 rfl rfl rfl (do_assign rfl ?_)
  refine rw_nil ?_
  refine w_seq ?_
  refine w_seq ?_
  -- region 2
  refine w_region ?_
  refine rw_t 8 rfl rfl rfl (do_assign rfl ?_)
  refine rw_nil ?_
  refine w_block ?_
  refine n_ghost Int 1 (encI .i64) 0 (fun _ => rfl) (fun _ _ h => by simp [encI] at h; subst h; rfl) ?_
  refine w_nilE 6 11 0 rfl ?_
  refine w_loopS (ι := Nat) (fun i => [(2, .ptr 9 0 0), (3, .ptr 10 0 0), (4, .val (.slice none 0 0)), (5, .val (.slice none 0 0)), (6, .slc 11 0 ((selK (pusQ c p) i).length) none), (7, .val (.slice none 0 0)), (8, .val (.int .i64 ((i : Nat) : Int)))]) (fun i => [SO.ints false .i64 c.First, SO.ints false .i64 c.Head, SO.ints false .i64 c.Rev, SO.ints false .i64 c.Cap, SO.ints false .i64 c.Arc, SO.bools false c.Back, SO.ints false .i64 p.Res, SO.ints false .i64 p.Ex, SO.ints false .i64 p.H, .box [.val (.int .i64 c.N), .val (.int .i64 c.S), .val (.int .i64 c.T), .slc 0 0 c.First.length none, .slc 1 0 c.Head.length none, .slc 2 0 c.Rev.length none, .slc 3 0 c.Cap.length none, .slc 4 0 c.Arc.length none, .slc 5 0 c.Back.length none], .box [.slc 6 0 p.Res.length none, .slc 7 0 p.Ex.length none, .slc 8 0 p.H.length none], SO.ints true .i64 (selK (pusQ c p) i)]) (fun i => c.Head.length - i) (fun i => i ≤ c.Head.length) (0) [0, 1, 2, 3, 4, 5, 6, 7, 8, 9, 10, 11] (by simp) ⟨.inr ⟨_, rfl, .inl rfl⟩, .inr ⟨_, rfl, .inl rfl⟩, .inr ⟨_, rfl, .inl rfl⟩, .inr ⟨_, rfl, .inl rfl⟩, .inr ⟨_, rfl, .inl rfl⟩, .inr ⟨_, rfl, .inl rfl⟩, .inr ⟨_, rfl, .inl rfl⟩, .inr ⟨_, rfl, .inl rfl⟩, .inr ⟨_, rfl, .inl rfl⟩, .inr ⟨_, rfl, .inl rfl⟩, .inr ⟨_, rfl, .inl rfl⟩, .inr ⟨_, rfl, .inl rfl⟩, trivial⟩ rfl (pre_ok rfl) hρ ⟨⟨_, rfl, rfl⟩, ⟨_, rfl, rfl⟩, ⟨_, rfl, rfl⟩, ⟨_, rfl, rfl⟩, ⟨_, rfl, rfl⟩, ⟨_, rfl, rfl⟩, ⟨_, rfl, rfl⟩, trivial⟩ ?_
  intro i hi
  have hsl := selK_len (pusQ c p) i
  refine w_seq ?_
  refine w_seq ?_
  -- region 3
  refine w_region ?_
  refine rw_t 12 rfl rfl rfl (do_move rfl ?_)
  refine rw_t 13 rfl rfl rfl (do_fieldaddr rfl ?_)
  refine rw_t 14 rfl rfl rfl (do_load_box rfl rfl rfl ?_)
  refine rw_t 15 rfl rfl rfl (do_len rfl ?_)
  refine rw_t 16 rfl rfl rfl (do_bin rfl rfl rfl ?_)
  refine rw_nil ?_
  refine w_cond rfl (fun hc1 => ?_) (fun hc1 => ?_)
  all_goals try simp only [bs] at hc1
  rotate_left
  · refine w_exit ?_ -- exit 0
    refine w_seq ?_
    refine w_seq ?_
    -- region 7
    refine w_region ?_
    refine rw_t 9 rfl rfl rfl (do_assign rfl ?_)
    refine rw_nil ?_
    refine w_block ?_
    refine n_ghost Int 1 (encI .i64) 0 (fun _ => rfl) (fun _ _ h => by simp [encI] at h; subst h; rfl) ?_
    refine w_nilE 7 12 0 rfl ?_
    refine w_loopS (ι := Nat) (fun j => [(2, .ptr 9 0 0), (3, .ptr 10 0 0), (4, .val (.slice none 0 0)), (5, .val (.slice none 0 0)), (6, .slc 11 0 ((selK (pusQ c p) i).length) none), (7, .slc 12 0 ((selK (stuQ c p) j).length) none), (9, .val (.int .i64 ((j : Nat) : Int)))]) (fun j => [SO.ints false .i64 c.First, SO.ints false .i64 c.Head, SO.ints false .i64 c.Rev, SO.ints false .i64 c.Cap, SO.ints false .i64 c.Arc, SO.bools false c.Back, SO.ints false .i64 p.Res, SO.ints false .i64 p.Ex, SO.ints false .i64 p.H, .box [.val (.int .i64 c.N), .val (.int .i64 c.S), .val (.int .i64 c.T), .slc 0 0 c.First.length none, .slc 1 0 c.Head.length none, .slc 2 0 c.Rev.length none, .slc 3 0 c.Cap.length none, .slc 4 0 c.Arc.length none, .slc 5 0 c.Back.length none], .box [.slc 6 0 p.Res.length none, .slc 7 0 p.Ex.length none, .slc 8 0 p.H.length none], SO.ints true .i64 (selK (pusQ c p) i), SO.ints true .i64 (selK (stuQ c p) j)]) (fun j => c.N.toNat - j) (fun j => j ≤ c.N.toNat) (0) [0, 1, 2, 3, 4, 5, 6, 7, 8, 9, 10, 11, 12] (by simp) ⟨.inr ⟨_, rfl, .inl rfl⟩, .inr ⟨_, rfl, .inl rfl⟩, .inr ⟨_, rfl, .inl rfl⟩, .inr ⟨_, rfl, .inl rfl⟩, .inr ⟨_, rfl, .inl rfl⟩, .inr ⟨_, rfl, .inl rfl⟩, .inr ⟨_, rfl, .inl rfl⟩, .inr ⟨_, rfl, .inl rfl⟩, .inr ⟨_, rfl, .inl rfl⟩, .inr ⟨_, rfl, .inl rfl⟩, .inr ⟨_, rfl, .inl rfl⟩, .inr ⟨_, rfl, .inl rfl⟩, .inr ⟨_, rfl, .inl rfl⟩, trivial⟩ rfl (pre_ok rfl) hρ ⟨⟨_, rfl, rfl⟩, ⟨_, rfl, rfl⟩, ⟨_, rfl, rfl⟩, ⟨_, rfl, rfl⟩, ⟨_, rfl, rfl⟩, ⟨_, rfl, rfl⟩, ⟨_, rfl, rfl⟩, trivial⟩ ?_
    intro j hj
    have hsj := selK_len (stuQ c p) j
    refine w_seq ?_
    refine w_seq ?_
    -- region 8
    refine w_region ?_
    refine rw_t 27 rfl rfl rfl (do_move rfl ?_)
    refine rw_t 28 rfl rfl rfl (do_fieldaddr rfl ?_)
    refine rw_t 29 rfl rfl rfl (do_load_box rfl rfl rfl ?_)
    refine rw_t 30 rfl rfl rfl (do_bin rfl rfl rfl ?_)
    refine rw_nil ?_
    refine w_cond rfl (fun hc2 => ?_) (fun hc2 => ?_)
    all_goals try simp only [bs] at hc2
    rotate_left
    · refine w_exit ?_ -- exit 2
      refine w_seq ?_
      -- region 13
      refine w_region ?_
      refine rw_t 46 rfl rfl rfl (do_move rfl ?_)
      refine rw_t 47 rfl rfl rfl (do_move rfl ?_)
      refine rw_t 4 rfl rfl rfl (do_assign rfl ?_)
      refine rw_t 5 rfl rfl rfl (do_assign rfl ?_)
      refine rw_nil ?_
      have hi' : i = c.Head.length := by omega
      have hj' : j = c.N.toNat := by omega
      subst hi'
      subst hj'
      refine w_ret ?_
      -- RESULT .tup [.slc 11 0 ((selK (pusQ c p) i).length) none, .slc 12 0 ((selK (stuQ c p) j).length) none], WANTED .tup [.slc 9 0 ((pushL c p).length) none, .slc 10 0 ((stuckL c p).length) none]
      exact ret_eq (.inl rfl) (.cons (res_tmp rfl) (.cons (res_tmp rfl) .nil)) [0, 1, 2, 3, 4, 5, 6, 7, 8, 11, 12] (rfl) ⟨.inr ⟨_, rfl, .inl rfl⟩, .inr ⟨_, rfl, .inl rfl⟩, .inr ⟨_, rfl, .inl rfl⟩, .inr ⟨_, rfl, .inl rfl⟩, .inr ⟨_, rfl, .inl rfl⟩, .inr ⟨_, rfl, .inl rfl⟩, .inr ⟨_, rfl, .inl rfl⟩, .inr ⟨_, rfl, .inl rfl⟩, .inr ⟨_, rfl, .inl rfl⟩, .inr ⟨_, rfl, .inl rfl⟩, .inr ⟨_, rfl, .inl rfl⟩, trivial⟩ rfl (pre_ok rfl)
    refine w_skip ?_
    refine w_seq ?_
    refine w_block ?_
    refine w_seq ?_
    -- region 10
    refine w_region ?_
    refine rw_t 34 rfl rfl rfl (n_load_boxagg [_, _, _, _, _, _, _, _, _] rfl rfl (Nat.le_of_ble_eq_true rfl) rfl ?_)
    refine rw_t 35 rfl rfl rfl (n_load_boxagg [_, _, _] rfl rfl (Nat.le_of_ble_eq_true rfl) rfl ?_)
    refine rw_t 36 rfl rfl rfl (do_move rfl ?_)
    refine rw_t 37 rfl rfl rfl (n_callN (X' := .tup [.agg [.slc 13 0 ((liftR c p ((j : Nat) : Int)).1.Res.length) none, .slc 14 0 ((liftR c p ((j : Nat) : Int)).1.Ex.length) none, .slc 15 0 ((liftR c p ((j : Nat) : Int)).1.H.length) none], .val (.int .i64 ((liftR c p ((j : Nat) : Int)).2))]) (N' := [SO.ints true .i64 ((liftR c p ((j : Nat) : Int)).1.Res), SO.ints true .i64 ((liftR c p ((j : Nat) : Int)).1.Ex), SO.ints true .i64 ((liftR c p ((j : Nat) : Int)).1.H)]) rfl rfl (t_rLift (c := c) (p := p) (u := ((j : Nat) : Int)) (h) (hp)) [0, 1, 2, 3, 4, 5, 6, 7, 8] ⟨.inr ⟨_, rfl, srv⟩, .inr ⟨_, rfl, srv⟩, .inr ⟨_, rfl, srv⟩, .inr ⟨_, rfl, srv⟩, .inr ⟨_, rfl, srv⟩, .inr ⟨_, rfl, srv⟩, .inr ⟨_, rfl, srv⟩, .inr ⟨_, rfl, srv⟩, .inr ⟨_, rfl, srv⟩, trivial⟩ rfl rfl rfl rfl rfl ?_)
    refine rw_t 33 rfl rfl rfl (do_move rfl ?_)
    refine rw_t 38 rfl rfl rfl (do_extract rfl rfl ?_)
    refine rw_t 39 rfl rfl rfl (do_extract rfl rfl ?_)
    refine rw_t 10 rfl rfl rfl (n_alloc (n := 16) rfl ?_)
    refine rw_u rfl rfl (n_store_whole rfl rfl rfl rfl rfl rfl ?_)
    refine rw_t 11 rfl rfl rfl (do_assign rfl ?_)
    refine rw_nil ?_
    refine w_seq ?_
    -- region 11
    refine w_region ?_
    refine rw_t 40 rfl rfl rfl (do_move rfl ?_)
    refine rw_t 41 rfl rfl rfl (do_bin rfl rfl rfl ?_)
    refine rw_nil ?_
    refine w_cond rfl (fun hc3 => ?_) (fun hc3 => ?_)
    all_goals try simp only [bs] at hc3
    · -- region 12
      refine w_region ?_
      refine rw_t 42 rfl rfl rfl (do_move rfl ?_)
      refine rw_t 43 rfl rfl rfl (do_move rfl ?_)
      refine rw_t 44 rfl rfl rfl (n_bs (nm := 17) Int (encI .i64) 0 [((j : Nat) : Int)] rfl rfl rfl rfl rfl (fun _ => rfl) (fun _ _ h => by simp [encI] at h; subst h; rfl) rfl ?_)
      refine rw_t 45 rfl rfl rfl (n_app_own (nm := 18) rfl rfl rfl rfl rfl (by first | omega | (simp only [ls] <;> omega)) (by first | omega | (simp only [ls] <;> omega)) (by omega) (by omega) rfl ?_)
      refine rw_t 7 rfl rfl rfl (do_assign rfl ?_)
      refine rw_nil ?_
      -- region 9
      refine w_region ?_
      refine rw_t 31 rfl rfl rfl (do_move rfl ?_)
      refine rw_t 32 rfl rfl rfl (do_add rfl rfl (by omega) ?_)
      refine rw_t 9 rfl rfl rfl (do_assign rfl ?_)
      refine rw_nil ?_
      have hq : stuQ c p j = true := decide_eq_true ((lift_zero (by omega)).1 hc3)
      refine ⟨j + 1, [0, 1, 2, 3, 4, 5, 6, 7, 8, 9, 10, 11, 18], by dsimp only; omega, by omega, ⟨.inr ⟨_, rfl, .inl rfl⟩, .inr ⟨_, rfl, .inl rfl⟩, .inr ⟨_, rfl, .inl rfl⟩, .inr ⟨_, rfl, .inl rfl⟩, .inr ⟨_, rfl, .inl rfl⟩, .inr ⟨_, rfl, .inl rfl⟩, .inr ⟨_, rfl, .inl rfl⟩, .inr ⟨_, rfl, .inl rfl⟩, .inr ⟨_, rfl, .inl rfl⟩, .inr ⟨_, rfl, .inl rfl⟩, .inr ⟨_, rfl, .inl rfl⟩, .inr ⟨_, rfl, .inl rfl⟩, .inr ⟨_, rfl, .inl (congrArg (SO.ints true .i64) (selK_one hq))⟩, trivial⟩, rfl, pre_ok rfl, ⟨⟨_, rfl, rfl⟩, ⟨_, rfl, rfl⟩, ⟨_, rfl, rfl⟩, ⟨_, rfl, rfl⟩, ⟨_, rfl, rfl⟩, ⟨_, rfl, (congrArg (fun n => SV.slc 18 0 n none) (by rw [selK_one hq, List.length_append]; rfl : (selK (stuQ c p) j).length + 1 = (selK (stuQ c p) (j + 1)).length)).trans rfl⟩, ⟨_, rfl, rfl⟩, trivial⟩⟩
    · refine w_skip ?_
      -- region 9
      refine w_region ?_
      refine rw_t 31 rfl rfl rfl (do_move rfl ?_)
      refine rw_t 32 rfl rfl rfl (do_add rfl rfl (by omega) ?_)
      refine rw_t 9 rfl rfl rfl (do_assign rfl ?_)
      refine rw_nil ?_
      have hq : ¬ stuQ c p j = true := fun q => (fun w => hc3 ((lift_zero (by omega)).2 w)) (of_decide_eq_true q)
      refine ⟨j + 1, [0, 1, 2, 3, 4, 5, 6, 7, 8, 9, 10, 11, 12], by dsimp only; omega, by omega, ⟨.inr ⟨_, rfl, .inl rfl⟩, .inr ⟨_, rfl, .inl rfl⟩, .inr ⟨_, rfl, .inl rfl⟩, .inr ⟨_, rfl, .inl rfl⟩, .inr ⟨_, rfl, .inl rfl⟩, .inr ⟨_, rfl, .inl rfl⟩, .inr ⟨_, rfl, .inl rfl⟩, .inr ⟨_, rfl, .inl rfl⟩, .inr ⟨_, rfl, .inl rfl⟩, .inr ⟨_, rfl, .inl rfl⟩, .inr ⟨_, rfl, .inl rfl⟩, .inr ⟨_, rfl, .inl rfl⟩, .inr ⟨_, rfl, .inl (congrArg (SO.ints true .i64) (selK_none hq))⟩, trivial⟩, rfl, pre_ok rfl, ⟨⟨_, rfl, rfl⟩, ⟨_, rfl, rfl⟩, ⟨_, rfl, rfl⟩, ⟨_, rfl, rfl⟩, ⟨_, rfl, rfl⟩, ⟨_, rfl, (congrArg (fun n => SV.slc 12 0 n none) (by rw [selK_none hq] : (selK (stuQ c p) j).length = (selK (stuQ c p) (j + 1)).length)).trans rfl⟩, ⟨_, rfl, rfl⟩, trivial⟩⟩
  refine w_skip ?_
  refine w_seq ?_
  refine w_block ?_
  refine w_seq ?_
  -- region 5
  refine w_region ?_
  refine rw_t 19 rfl rfl rfl (n_load_boxagg [_, _, _, _, _, _, _, _, _] rfl rfl (Nat.le_of_ble_eq_true rfl) rfl ?_)
  refine rw_t 20 rfl rfl rfl (n_load_boxagg [_, _, _] rfl rfl (Nat.le_of_ble_eq_true rfl) rfl ?_)
  refine rw_t 21 rfl rfl rfl (do_move rfl ?_)
  refine rw_t 22 rfl rfl rfl (do_callR (X' := .val (.bool (decide (pushesP c p ((i : Nat) : Int))))) rfl rfl (t_pushes (c := c) (p := p) (a := ((i : Nat) : Int)) (h) (hp) (by omega)) [0, 1, 2, 3, 4, 5, 6, 7, 8] ⟨.inr ⟨_, rfl, srv⟩, .inr ⟨_, rfl, srv⟩, .inr ⟨_, rfl, srv⟩, .inr ⟨_, rfl, srv⟩, .inr ⟨_, rfl, srv⟩, .inr ⟨_, rfl, srv⟩, .inr ⟨_, rfl, srv⟩, .inr ⟨_, rfl, srv⟩, .inr ⟨_, rfl, srv⟩, trivial⟩ rfl rfl rfl ?_)
  refine rw_nil ?_
  refine w_cond rfl (fun hc4 => ?_) (fun hc4 => ?_)
  all_goals try simp only [bs] at hc4
  · -- region 6
    refine w_region ?_
    refine rw_t 23 rfl rfl rfl (do_move rfl ?_)
    refine rw_t 24 rfl rfl rfl (do_move rfl ?_)
    refine rw_t 25 rfl rfl rfl (n_bs (nm := 12) Int (encI .i64) 0 [((i : Nat) : Int)] rfl rfl rfl rfl rfl (fun _ => rfl) (fun _ _ h => by simp [encI] at h; subst h; rfl) rfl ?_)
    refine rw_t 26 rfl rfl rfl (n_app_own (nm := 13) rfl rfl rfl rfl rfl (by first | omega | (simp only [ls] <;> omega)) (by first | omega | (simp only [ls] <;> omega)) (by omega) (by omega) rfl ?_)
    refine rw_t 6 rfl rfl rfl (do_assign rfl ?_)
    refine rw_nil ?_
    -- region 4
    refine w_region ?_
    refine rw_t 17 rfl rfl rfl (do_move rfl ?_)
    refine rw_t 18 rfl rfl rfl (do_add rfl rfl (by omega) ?_)
    refine rw_t 8 rfl rfl rfl (do_assign rfl ?_)
    refine rw_nil ?_
    have hq : pusQ c p i = true := decide_eq_true (hc4)
    refine ⟨i + 1, [0, 1, 2, 3, 4, 5, 6, 7, 8, 9, 10, 13], by dsimp only; omega, by omega, ⟨.inr ⟨_, rfl, .inl rfl⟩, .inr ⟨_, rfl, .inl rfl⟩, .inr ⟨_, rfl, .inl rfl⟩, .inr ⟨_, rfl, .inl rfl⟩, .inr ⟨_, rfl, .inl rfl⟩, .inr ⟨_, rfl, .inl rfl⟩, .inr ⟨_, rfl, .inl rfl⟩, .inr ⟨_, rfl, .inl rfl⟩, .inr ⟨_, rfl, .inl rfl⟩, .inr ⟨_, rfl, .inl rfl⟩, .inr ⟨_, rfl, .inl rfl⟩, .inr ⟨_, rfl, .inl (congrArg (SO.ints true .i64) (selK_one hq))⟩, trivial⟩, rfl, pre_ok rfl, ⟨⟨_, rfl, rfl⟩, ⟨_, rfl, rfl⟩, ⟨_, rfl, rfl⟩, ⟨_, rfl, rfl⟩, ⟨_, rfl, (congrArg (fun n => SV.slc 13 0 n none) (by rw [selK_one hq, List.length_append]; rfl : (selK (pusQ c p) i).length + 1 = (selK (pusQ c p) (i + 1)).length)).trans rfl⟩, ⟨_, rfl, rfl⟩, ⟨_, rfl, rfl⟩, trivial⟩⟩
  · refine w_skip ?_
    -- region 4
    refine w_region ?_
    refine rw_t 17 rfl rfl rfl (do_move rfl ?_)
    refine rw_t 18 rfl rfl rfl (do_add rfl rfl (by omega) ?_)
    refine rw_t 8 rfl rfl rfl (do_assign rfl ?_)
    refine rw_nil ?_
    have hq : ¬ pusQ c p i = true := fun q => (hc4) (of_decide_eq_true q)
    refine ⟨i + 1, [0, 1, 2, 3, 4, 5, 6, 7, 8, 9, 10, 11], by dsimp only; omega, by omega, ⟨.inr ⟨_, rfl, .inl rfl⟩, .inr ⟨_, rfl, .inl rfl⟩, .inr ⟨_, rfl, .inl rfl⟩, .inr ⟨_, rfl, .inl rfl⟩, .inr ⟨_, rfl, .inl rfl⟩, .inr ⟨_, rfl, .inl rfl⟩, .inr ⟨_, rfl, .inl rfl⟩, .inr ⟨_, rfl, .inl rfl⟩, .inr ⟨_, rfl, .inl rfl⟩, .inr ⟨_, rfl, .inl rfl⟩, .inr ⟨_, rfl, .inl rfl⟩, .inr ⟨_, rfl, .inl (congrArg (SO.ints true .i64) (selK_none hq))⟩, trivial⟩, rfl, pre_ok rfl, ⟨⟨_, rfl, rfl⟩, ⟨_, rfl, rfl⟩, ⟨_, rfl, rfl⟩, ⟨_, rfl, rfl⟩, ⟨_, rfl, (congrArg (fun n => SV.slc 11 0 n none) (by rw [selK_none hq] : (selK (pusQ c p) i).length = (selK (pusQ c p) (i + 1)).length)).trans rfl⟩, ⟨_, rfl, rfl⟩, ⟨_, rfl, rfl⟩, trivial⟩⟩
end Go.Proofs

set_option linter.unusedVariables false
set_option linter.unusedSimpArgs false
namespace Go.Proofs
open Go Go.Sx Go.RowKit
def sameP (a b : Pre) : Prop := a.Res = b.Res ∧ a.Ex = b.Ex ∧ a.H = b.H
instance (a b : Pre) : Decidable (sameP a b) := by unfold sameP; infer_instance
def cntS (c : Csr) (i : Nat) : Nat := min (i - (c.First.getD c.S.toNat 0).toNat) (manyOf c c.S)
theorem cnt_no {c : Csr} (h : CsrT c) {i : Nat} (hi : i < c.Head.length) (ht : tailOf c i ≠ c.S) : cntS c (i + 1) = cntS c i := by
  have hS := h.s
  have hm := h.mono c.S.toNat (by omega)
  have hmt : (c.S + 1).toNat = c.S.toNat + 1 := by omega
  have hno : ¬ (c.First.getD c.S.toNat 0 ≤ (i : Int) ∧ (i : Int) < c.First.getD (c.S.toNat + 1) 0) := fun q => ht (tail_of_arc h hS q.1 q.2).2.2
  unfold cntS manyOf
  rw [hmt]
  omega
theorem cnt_yes {c : Csr} (h : CsrT c) {i : Nat} (hi : i < c.Head.length) (ht : tailOf c i = c.S) : cntS c (i + 1) = cntS c i + 1 ∧ cntS c i < manyOf c c.S ∧ c.First.getD c.S.toNat 0 + (cntS c i : Int) = i := by
  have hS := h.s
  have hm := h.mono c.S.toNat (by omega)
  have hmt : (c.S + 1).toNat = c.S.toNat + 1 := by omega
  obtain ⟨v, hv, ⟨q1, q2⟩, q3, -⟩ := h.tail_at (a := (i : Int)) (by omega) (by omega)
  have hvS : v = c.S.toNat := by omega
  subst hvS
  unfold cntS manyOf
  rw [hmt]
  omega
theorem begK_next {c : Csr} (h : CsrG c) {i : Nat} (hi : i < c.Head.length) (ht : tailOf c i = c.S) : begK c (cntS c (i + 1)) =
    ⟨((begK c (cntS c i)).Res.set i 0).set (c.Rev.getD i 0).toNat (((begK c (cntS c i)).Res.set i 0).getD (c.Rev.getD i 0).toNat 0 + (begK c (cntS c i)).Res.getD i 0),
     ((begK c (cntS c i)).Ex.set c.S.toNat ((begK c (cntS c i)).Ex.getD c.S.toNat 0 - (begK c (cntS c i)).Res.getD i 0)).set (c.Head.getD i 0).toNat (((begK c (cntS c i)).Ex.set c.S.toNat ((begK c (cntS c i)).Ex.getD c.S.toNat 0 - (begK c (cntS c i)).Res.getD i 0)).getD (c.Head.getD i 0).toNat 0 + (begK c (cntS c i)).Res.getD i 0),
     (begK c (cntS c i)).H⟩ := by
  obtain ⟨e1, e2, e3⟩ := cnt_yes h.toCsrT hi ht
  have e4 := h.rtl i hi
  rw [ht] at e4
  rw [e1]
  show moveP c (begK c (cntS c i)) _ _ = _
  rw [e3]
  unfold moveP addAt subAt
  rw [Int.toNat_natCast, ← e4, Int.sub_self]
theorem beg_in {c : Csr} (h : CsrG c) (hb : BegIn c) {i : Nat} (hi : i < c.Head.length) (ht : tailOf c i = c.S) :
    In1 (((begK c (cntS c i)).Res.set i 0).getD (c.Rev.getD i 0).toNat 0 + (begK c (cntS c i)).Res.getD i 0) ∧ In1 ((begK c (cntS c i)).Ex.getD c.S.toNat 0 - (begK c (cntS c i)).Res.getD i 0) ∧
    In1 (((begK c (cntS c i)).Ex.set c.S.toNat ((begK c (cntS c i)).Ex.getD c.S.toNat 0 - (begK c (cntS c i)).Res.getD i 0)).getD (c.Head.getD i 0).toNat 0 + (begK c (cntS c i)).Res.getD i 0) := by
  obtain ⟨e1, e2, e3⟩ := cnt_yes h.toCsrT hi ht
  have e4 := h.rtl i hi
  rw [ht] at e4
  have hm := hb (cntS c i) e2
  rw [e3, Int.toNat_natCast] at hm
  have x1 := hm.r2; have x2 := hm.x1; have x3 := hm.x2
  unfold subAt at x1 x3
  rw [Int.toNat_natCast, Int.sub_self] at x1
  rw [Int.toNat_natCast, ← e4] at x2 x3
  exact ⟨x1, x2, x3⟩
-- f15 "acequia/acequialow.SamePre"
set_option maxHeartbeats 8000000 in
set_option synthInstance.maxHeartbeats 400000 in
set_option synthInstance.maxSize 2000 in
theorem t_same (a b : Pre) (hl : a.Res.length < 4611686018427387904 ∧ a.Ex.length < 4611686018427387904 ∧ a.H.length < 4611686018427387904) : Tri Try.prog 15 [.agg [.slc 0 0 a.Res.length none, .slc 1 0 a.Ex.length none, .slc 2 0 a.H.length none], .agg [.slc 3 0 b.Res.length none, .slc 4 0 b.Ex.length none, .slc 5 0 b.H.length none]] [SO.ints false .i64 a.Res, SO.ints false .i64 a.Ex, SO.ints false .i64 a.H, SO.ints false .i64 b.Res, SO.ints false .i64 b.Ex, SO.ints false .i64 b.H] (fun s H => s = .val (.bool (decide (sameP a b))) ∧ H = [SO.ints false .i64 a.Res, SO.ints false .i64 a.Ex, SO.ints false .i64 a.H, SO.ints false .i64 b.Res, SO.ints false .i64 b.Ex, SO.ints false .i64 b.H]) := by
  refine tri_of_w (fn := Try.f15) Try.func15 rfl (by simp [Try.f15]) ?_
  intro ρ w hρ
  refine w_seq ?_
  -- region 0
  refine w_region ?_
  refine rw_t 2 rfl rfl rfl (n_box_agg (n := 6) rfl rfl ?_)
  refine rw_t 3 rfl rfl rfl (n_box_agg (n := 7) rfl rfl ?_)
  refine rw_t 4 rfl rfl rfl (do_assign rfl ?_)
  refine rw_nil ?_
  refine w_env [(2, .ptr 6 0 0), (3, .ptr 7 0 0)] ⟨⟨_, rfl, rfl⟩, ⟨_, rfl, rfl⟩, trivial⟩ ?_
  refine w_seqB 4 (((a.Res = b.Res ∧ a.Ex = b.Ex) ∧ a.H = b.H)) ?_ ?_
  · -- region 1
    refine w_region ?_
    refine rw_t 5 rfl rfl rfl (do_fieldaddr rfl ?_)
    refine rw_t 6 rfl rfl rfl (do_load_box rfl rfl rfl ?_)
    refine rw_t 7 rfl rfl rfl (do_fieldaddr rfl ?_)
    refine rw_t 8 rfl rfl rfl (do_load_box rfl rfl rfl ?_)
    refine rw_t 9 rfl rfl rfl (do_callR (X' := .val (.bool (decide (a.Res = b.Res)))) rfl rfl (t_Longs (a := a.Res) (b := b.Res) (by omega)) [0, 3] ⟨.inr ⟨_, rfl, srv⟩, .inr ⟨_, rfl, srv⟩, trivial⟩ rfl rfl rfl ?_)
    refine rw_t 10 rfl rfl rfl (do_move rfl ?_)
    refine rw_case 10 rfl (fun g1 => ?_) (fun g1 => ?_)
    · have kg1 := g1
      try simp only [bs] at kg1
      refine rw_gt 11 5 10 true rfl rfl rfl rfl rfl rfl g1 (do_fieldaddr rfl ?_)
      refine rw_gt 12 5 10 true rfl rfl rfl rfl rfl rfl g1 (do_load_box rfl rfl rfl ?_)
      refine rw_gt 13 5 10 true rfl rfl rfl rfl rfl rfl g1 (do_fieldaddr rfl ?_)
      refine rw_gt 14 5 10 true rfl rfl rfl rfl rfl rfl g1 (do_load_box rfl rfl rfl ?_)
      refine rw_gt 15 5 10 true rfl rfl rfl rfl rfl rfl g1 (do_callR (X' := .val (.bool (decide (a.Ex = b.Ex)))) rfl rfl (t_Longs (a := a.Ex) (b := b.Ex) (by omega)) [1, 4] ⟨.inr ⟨_, rfl, srv⟩, .inr ⟨_, rfl, srv⟩, trivial⟩ rfl rfl rfl ?_)
      refine rw_t 16 rfl rfl rfl (do_pick_t rfl g1 rfl ?_)
      refine rw_t 17 rfl rfl rfl (do_move rfl ?_)
      refine rw_case 17 rfl (fun g2 => ?_) (fun g2 => ?_)
      · have kg2 := g2
        try simp only [bs] at kg2
        refine rw_gt 18 12 17 true rfl rfl rfl rfl rfl rfl g2 (do_fieldaddr rfl ?_)
        refine rw_gt 19 12 17 true rfl rfl rfl rfl rfl rfl g2 (do_load_box rfl rfl rfl ?_)
        refine rw_gt 20 12 17 true rfl rfl rfl rfl rfl rfl g2 (do_fieldaddr rfl ?_)
        refine rw_gt 21 12 17 true rfl rfl rfl rfl rfl rfl g2 (do_load_box rfl rfl rfl ?_)
        refine rw_gt 22 12 17 true rfl rfl rfl rfl rfl rfl g2 (do_callR (X' := .val (.bool (decide (a.H = b.H)))) rfl rfl (t_Ints (a := a.H) (b := b.H) (by omega)) [2, 5] ⟨.inr ⟨_, rfl, srv⟩, .inr ⟨_, rfl, srv⟩, trivial⟩ rfl rfl rfl ?_)
        refine rw_t 23 rfl rfl rfl (do_pick_t rfl g2 rfl ?_)
        refine rw_t 4 rfl rfl rfl (do_assign rfl ?_)
        refine rw_nil ?_
        refine ⟨rfl, ⟨_, rfl, by first | (simp; done) | (simp only [bs]; omega) | (simp [*]; done) | (simp; omega) | (constructor <;> intro h <;> simp_all <;> omega)⟩, ?_⟩
        repeat (refine ⟨⟨_, rfl, rfl⟩, ?_⟩)
        exact trivial
      · have kg2 := g2
        try simp only [bs] at kg2
        refine rw_gf 18 12 17 true rfl rfl rfl rfl rfl rfl (by rw [g2]; decide) ?_
        refine rw_gf 19 12 17 true rfl rfl rfl rfl rfl rfl (by rw [g2]; decide) ?_
        refine rw_gf 20 12 17 true rfl rfl rfl rfl rfl rfl (by rw [g2]; decide) ?_
        refine rw_gf 21 12 17 true rfl rfl rfl rfl rfl rfl (by rw [g2]; decide) ?_
        refine rw_gf 22 12 17 true rfl rfl rfl rfl rfl rfl (by rw [g2]; decide) ?_
        refine rw_t 23 rfl rfl rfl (do_pick_f rfl g2 rfl ?_)
        refine rw_t 4 rfl rfl rfl (do_assign rfl ?_)
        refine rw_nil ?_
        refine ⟨rfl, ⟨_, rfl, by first | (simp; done) | (simp only [bs]; omega) | (simp [*]; done) | (simp; omega) | (constructor <;> intro h <;> simp_all <;> omega)⟩, ?_⟩
        repeat (refine ⟨⟨_, rfl, rfl⟩, ?_⟩)
        exact trivial
    · have kg1 := g1
      try simp only [bs] at kg1
      refine rw_gf 11 5 10 true rfl rfl rfl rfl rfl rfl (by rw [g1]; decide) ?_
      refine rw_gf 12 5 10 true rfl rfl rfl rfl rfl rfl (by rw [g1]; decide) ?_
      refine rw_gf 13 5 10 true rfl rfl rfl rfl rfl rfl (by rw [g1]; decide) ?_
      refine rw_gf 14 5 10 true rfl rfl rfl rfl rfl rfl (by rw [g1]; decide) ?_
      refine rw_gf 15 5 10 true rfl rfl rfl rfl rfl rfl (by rw [g1]; decide) ?_
      refine rw_t 16 rfl rfl rfl (do_pick_f rfl g1 rfl ?_)
      refine rw_t 17 rfl rfl rfl (do_move rfl ?_)
      refine rw_gf 18 12 17 true rfl rfl rfl rfl rfl rfl (by decide) ?_
      refine rw_gf 19 12 17 true rfl rfl rfl rfl rfl rfl (by decide) ?_
      refine rw_gf 20 12 17 true rfl rfl rfl rfl rfl rfl (by decide) ?_
      refine rw_gf 21 12 17 true rfl rfl rfl rfl rfl rfl (by decide) ?_
      refine rw_gf 22 12 17 true rfl rfl rfl rfl rfl rfl (by decide) ?_
      refine rw_t 23 rfl rfl rfl (do_pick_f rfl rfl rfl ?_)
      refine rw_t 4 rfl rfl rfl (do_assign rfl ?_)
      refine rw_nil ?_
      refine ⟨rfl, ⟨_, rfl, by first | (simp; done) | (simp only [bs]; omega) | (simp [*]; done) | (simp; omega) | (constructor <;> intro h <;> simp_all <;> omega)⟩, ?_⟩
      repeat (refine ⟨⟨_, rfl, rfl⟩, ?_⟩)
      exact trivial
  intro b1 hb1
  refine w_ret ?_
  exact ret_eq (.inl rfl) (.cons (res_tmp rfl) .nil) [0, 1, 2, 3, 4, 5] (Eq.symm (bool_congr (dec_of hb1 (by unfold sameP; rw [and_assoc])))) ⟨.inr ⟨_, rfl, .inl rfl⟩, .inr ⟨_, rfl, .inl rfl⟩, .inr ⟨_, rfl, .inl rfl⟩, .inr ⟨_, rfl, .inl rfl⟩, .inr ⟨_, rfl, .inl rfl⟩, .inr ⟨_, rfl, .inl rfl⟩, trivial⟩ rfl (pre_ok rfl)
-- f26 "acequia/acequialow.CopyPre"
set_option maxHeartbeats 8000000 in
set_option synthInstance.maxHeartbeats 400000 in
set_option synthInstance.maxSize 2000 in
theorem t_CopyPre (p : Pre) (hl : p.Res.length ≤ 17592186044416 ∧ p.Ex.length ≤ 17592186044416 ∧ p.H.length ≤ 17592186044416) : Tri Try.prog 26 [.agg [.slc 0 0 p.Res.length none, .slc 1 0 p.Ex.length none, .slc 2 0 p.H.length none]] [SO.ints false .i64 p.Res, SO.ints false .i64 p.Ex, SO.ints false .i64 p.H] (fun s H => s = .agg [.slc 3 0 p.Res.length none, .slc 4 0 p.Ex.length none, .slc 5 0 p.H.length none] ∧ H = [SO.ints false .i64 p.Res, SO.ints false .i64 p.Ex, SO.ints false .i64 p.H, SO.ints true .i64 p.Res, SO.ints true .i64 p.Ex, SO.ints true .i64 p.H]) := by
  refine tri_of_w (fn := Try.f26) Try.func26 rfl (by simp [Try.f26]) ?_
  intro ρ w hρ
  refine w_seq ?_
  -- region 0
  refine w_region ?_
  refine rw_t 1 rfl rfl rfl (n_box_agg (n := 3) rfl rfl ?_)
  refine rw_t 2 rfl rfl rfl (n_alloc (n := 4) rfl ?_)
  refine rw_nil ?_
  refine w_seq ?_
  -- region 1
  refine w_draw mixed [0, 0, 2, 7, 0, 0, 32, 127, 0, 0, 512] [2047, 4095, 8191] (by kernel_rfl) (by kernel_rfl) rfl rfl rfl (hle hρ rfl) ?_
  refine ra_n (j := 0) rfl rfl rfl rfl (g_bs (nm := 5) Int (encI .i64) 0 [] rfl rfl rfl rfl rfl (fun _ => rfl) (fun _ _ h => by simp [encI] at h; subst h; rfl) rfl ⟨rfl, rfl⟩) (by rfl) (by rfl) (by rfl) ?_
  refine ra_q (j := 1) rfl rfl rfl rfl (do_fieldaddr rfl ⟨rfl, rfl⟩) (by rfl) ?_
  refine ra_q (j := 2) rfl rfl rfl rfl (do_load_box rfl rfl rfl ⟨rfl, rfl⟩) (by rfl) ?_
  refine ra_n (j := 3) rfl rfl rfl rfl (g_app_e (nm := 6) rfl rfl rfl rfl rfl (by first | omega | (simp only [ls] <;> omega)) (by omega) (by omega) rfl ⟨rfl, rfl⟩) (by rfl) (by rfl) (by rfl) ?_
  refine ra_n (j := 4) rfl rfl rfl rfl (g_bs (nm := 7) Int (encI .i64) 0 [] rfl rfl rfl rfl rfl (fun _ => rfl) (fun _ _ h => by simp [encI] at h; subst h; rfl) rfl ⟨rfl, rfl⟩) (by rfl) (by rfl) (by rfl) ?_
  refine ra_q (j := 5) rfl rfl rfl rfl (do_fieldaddr rfl ⟨rfl, rfl⟩) (by rfl) ?_
  refine ra_q (j := 6) rfl rfl rfl rfl (do_load_box rfl rfl rfl ⟨rfl, rfl⟩) (by rfl) ?_
  refine ra_n (j := 7) rfl rfl rfl rfl (g_app_e (nm := 8) rfl rfl rfl rfl rfl (by first | omega | (simp only [ls] <;> omega)) (by omega) (by omega) rfl ⟨rfl, rfl⟩) (by rfl) (by rfl) (by rfl) ?_
  refine ra_n (j := 8) rfl rfl rfl rfl (g_bs (nm := 9) Int (encI .i64) 0 [] rfl rfl rfl rfl rfl (fun _ => rfl) (fun _ _ h => by simp [encI] at h; subst h; rfl) rfl ⟨rfl, rfl⟩) (by rfl) (by rfl) (by rfl) ?_
  refine ra_q (j := 9) rfl rfl rfl rfl (do_fieldaddr rfl ⟨rfl, rfl⟩) (by rfl) ?_
  refine ra_q (j := 10) rfl rfl rfl rfl (do_load_box rfl rfl rfl ⟨rfl, rfl⟩) (by rfl) ?_
  refine n_done ?_
  refine rw_t 14 rfl rfl rfl (n_app_e (nm := 10) rfl rfl rfl rfl rfl (by first | omega | (simp only [ls] <;> omega)) (by omega) (by omega) rfl ?_)
  refine rw_t 15 rfl rfl rfl (do_build (out := [_, _, _]) rfl rfl ?_)
  refine rw_u rfl rfl (n_store_whole rfl rfl rfl rfl rfl rfl ?_)
  refine rw_nil ?_
  refine w_ret ?_
  exact ret_eq (.inl rfl) (.cons (res_agg rfl rfl (Nat.le_of_ble_eq_true rfl)) .nil) [0, 1, 2, 6, 8, 10] (rfl) ⟨.inr ⟨_, rfl, .inl rfl⟩, .inr ⟨_, rfl, .inl rfl⟩, .inr ⟨_, rfl, .inl rfl⟩, .inr ⟨_, rfl, .inl rfl⟩, .inr ⟨_, rfl, .inl rfl⟩, .inr ⟨_, rfl, .inl rfl⟩, trivial⟩ rfl (pre_ok rfl)
-- f12 "acequia/acequiaref07.Begin"
set_option maxHeartbeats 8000000 in
set_option synthInstance.maxHeartbeats 400000 in
set_option synthInstance.maxSize 2000 in
theorem t_rBegin (c : Csr) (h : CsrG c) (hb : BegIn c) : Tri Try.prog 12 [.agg [.val (.int .i64 c.N), .val (.int .i64 c.S), .val (.int .i64 c.T), .slc 0 0 c.First.length none, .slc 1 0 c.Head.length none, .slc 2 0 c.Rev.length none, .slc 3 0 c.Cap.length none, .slc 4 0 c.Arc.length none, .slc 5 0 c.Back.length none]] [SO.ints false .i64 c.First, SO.ints false .i64 c.Head, SO.ints false .i64 c.Rev, SO.ints false .i64 c.Cap, SO.ints false .i64 c.Arc, SO.bools false c.Back] (fun s H => s = .agg [.slc 6 0 ((begC c).Res.length) none, .slc 7 0 ((begC c).Ex.length) none, .slc 8 0 ((begC c).H.length) none] ∧ H = [SO.ints false .i64 c.First, SO.ints false .i64 c.Head, SO.ints false .i64 c.Rev, SO.ints false .i64 c.Cap, SO.ints false .i64 c.Arc, SO.bools false c.Back, SO.ints true .i64 ((begC c).Res), SO.ints true .i64 ((begC c).Ex), SO.ints true .i64 ((begC c).H)]) := by
  refine tri_of_w (fn := Try.f12) Try.func12 rfl (by simp [Try.f12]) ?_
  intro ρ w hρ
  refine w_seq ?_
  have hn := h.n
  have hf := h.first
  have hhd := h.head
  have hrl := h.rev
  have hcl := h.cap
  have hal := h.arc
  have hbl := h.back
  have hS := h.s
  have hsm := h.small
  have hm := h.mono c.S.toNat (by omega)
  have hmt : (c.S + 1).toNat = c.S.toNat + 1 := by omega
  have hz : cntS c 0 = 0 := by unfold cntS; omega
  -- region 0
  refine w_region ?_
  refine rw_t 1 rfl rfl rfl (n_box_agg (n := 6) rfl rfl ?_)
  refine rw_t 2 rfl rfl rfl (n_alloc (n := 7) rfl ?_)
  refine rw_nil ?_
  refine w_seq ?_
  -- region 1
  refine w_draw mixed [0, 1, 3, 0, 8, 24, 63, 0] [255] (by kernel_rfl) (by kernel_rfl) rfl rfl rfl (hle hρ rfl) ?_
  refine ra_q (j := 0) rfl rfl rfl rfl (do_fieldaddr rfl ⟨rfl, rfl⟩) (by rfl) ?_
  refine ra_q (j := 1) rfl rfl rfl rfl (do_load_box rfl rfl rfl ⟨rfl, rfl⟩) (by rfl) ?_
  refine ra_n (j := 2) rfl rfl rfl rfl (g_make (nm := 8) Int (encI .i64) 0 rfl rfl rfl (fun _ => rfl) (fun _ _ h => by simp [encI] at h; subst h; rfl) (by omega) (by omega) (by omega) rfl ⟨rfl, rfl⟩) (by rfl) (by rfl) (by rfl) ?_
  refine ra_q (j := 3) rfl rfl rfl rfl (do_fieldaddr rfl ⟨rfl, rfl⟩) (by rfl) ?_
  refine ra_q (j := 4) rfl rfl rfl rfl (do_load_box rfl rfl rfl ⟨rfl, rfl⟩) (by rfl) ?_
  refine ra_n (j := 5) rfl rfl rfl rfl (g_make (nm := 9) Int (encI .i64) 0 rfl rfl rfl (fun _ => rfl) (fun _ _ h => by simp [encI] at h; subst h; rfl) (by omega) (by omega) (by omega) rfl ⟨rfl, rfl⟩) (by rfl) (by rfl) (by rfl) ?_
  refine ra_q (j := 6) rfl rfl rfl rfl (do_build (out := [_, _, _]) rfl rfl ⟨rfl, rfl⟩) (by rfl) ?_
  refine ra_n (j := 7) rfl rfl rfl rfl (g_alloc (n := 10) rfl ⟨rfl, rfl⟩) (by rfl) (by rfl) (by rfl) ?_
  refine n_done ?_
  refine rw_u rfl rfl (n_store_whole rfl rfl rfl rfl rfl rfl ?_)
  refine rw_nil ?_
  refine w_seq ?_
  -- region 2
  refine w_region ?_
  refine rw_t 13 rfl rfl rfl (do_fieldaddr rfl ?_)
  refine rw_t 14 rfl rfl rfl (do_load_box rfl rfl rfl ?_)
  refine rw_t 15 rfl rfl rfl (do_fieldaddr rfl ?_)
  refine rw_t 16 rfl rfl rfl (do_load_box rfl rfl rfl ?_)
  refine rw_weak 14 (.slc 3 0 0 (some 0)) rfl nil_weak ?_
  refine rw_t 17 rfl rfl rfl (n_app_e (nm := 11) rfl rfl rfl rfl rfl (by first | omega | (simp only [ls] <;> omega)) (by omega) (by omega) rfl ?_)
  refine rw_t 18 rfl rfl rfl (do_fieldaddr rfl ?_)
  refine rw_u rfl rfl (n_store_box (f := 0) rfl rfl rfl (Nat.le_of_ble_eq_true rfl) rfl ?_)
  refine rw_nil ?_
  refine w_seq ?_
  -- region 3
  refine w_region ?_
  refine rw_t 19 rfl rfl rfl (do_fieldaddr rfl ?_)
  refine rw_t 20 rfl rfl rfl (do_load_box rfl rfl rfl ?_)
  refine rw_t 21 rfl rfl rfl (do_fieldaddr rfl ?_)
  refine rw_t 22 rfl rfl rfl (do_load_box rfl rfl rfl ?_)
  refine rw_t 23 rfl rfl rfl (do_fieldaddr rfl ?_)
  refine rw_t 24 rfl rfl rfl (do_load_box rfl rfl rfl ?_)
  refine rw_t 25 rfl rfl rfl (do_ix0 rfl rfl rfl (by first | omega | (simp only [ls] <;> omega)) ?_)
  refine rw_u rfl rfl (n_store_arr (z := c.N) rfl rfl rfl (by first | omega | (simp only [ls] <;> omega)) rfl (by decide) rfl ?_)
  refine rw_nil ?_
  refine w_seq ?_
  refine w_seq ?_
  -- region 4
  refine w_region ?_
  refine rw_t 4 rfl rfl rfl (do_assign rfl ?_)
  refine rw_nil ?_
  refine w_block ?_
  refine n_capB 10 1 rfl rfl ?_
  refine n_capB 10 2 rfl rfl ?_
  refine w_loopS (ι := Nat) (fun i => [(1, .ptr 6 0 0), (2, .ptr 7 0 0), (3, .ptr 10 0 0), (4, .val (.int .i64 ((i : Nat) : Int)))]) (fun i => [SO.ints false .i64 c.First, SO.ints false .i64 c.Head, SO.ints false .i64 c.Rev, SO.ints false .i64 c.Cap, SO.ints false .i64 c.Arc, SO.bools false c.Back, .box [.val (.int .i64 c.N), .val (.int .i64 c.S), .val (.int .i64 c.T), .slc 0 0 c.First.length none, .slc 1 0 c.Head.length none, .slc 2 0 c.Rev.length none, .slc 3 0 c.Cap.length none, .slc 4 0 c.Arc.length none, .slc 5 0 c.Back.length none], .box [.val (.slice none 0 0), .val (.slice none 0 0), .val (.slice none 0 0)], SO.ints true .i64 ((begK c (cntS c i)).Ex), SO.ints true .i64 ((begK c (cntS c i)).H), .box [.slc 11 0 ((begK c (cntS c i)).Res.length) none, .slc 8 0 ((begK c (cntS c i)).Ex.length) none, .slc 9 0 ((begK c (cntS c i)).H.length) none], SO.ints true .i64 ((begK c (cntS c i)).Res)]) (fun i => c.Head.length - i) (fun i => i ≤ c.Head.length) (0) [0, 1, 2, 3, 4, 5, 6, 7, 8, 9, 10, 11] (by simp) ⟨.inr ⟨_, rfl, .inl rfl⟩, .inr ⟨_, rfl, .inl rfl⟩, .inr ⟨_, rfl, .inl rfl⟩, .inr ⟨_, rfl, .inl rfl⟩, .inr ⟨_, rfl, .inl rfl⟩, .inr ⟨_, rfl, .inl rfl⟩, .inr ⟨_, rfl, .inl rfl⟩, .inr ⟨_, rfl, .inl rfl⟩, .inr ⟨_, rfl, .inl (congrArg (SO.ints true .i64) (by rw [hz]; rfl))⟩, .inr ⟨_, rfl, .inl (congrArg (SO.ints true .i64) (by rw [hz]; rfl))⟩, .inr ⟨_, rfl, .inl (box_congr (cons_congr (congrArg (fun n => SV.slc 11 0 n none) (by rw [hz]; rfl)) (cons_congr (congrArg (fun n => SV.slc 8 0 n none) (by rw [hz, (begK_len h.toCsrLen 0).ex])) (cons_congr (congrArg (fun n => SV.slc 9 0 n none) (by rw [hz, (begK_len h.toCsrLen 0).h])) ((rfl : ([] : List SV) = []))))))⟩, .inr ⟨_, rfl, .inl (congrArg (SO.ints true .i64) (by rw [hz]; rfl))⟩, trivial⟩ rfl (pre_ok rfl) hρ ⟨⟨_, rfl, rfl⟩, ⟨_, rfl, rfl⟩, ⟨_, rfl, rfl⟩, ⟨_, rfl, rfl⟩, trivial⟩ ?_
  intro i hi
  have hlk := begK_len h.toCsrLen (cntS c i)
  have hlk1 := begK_len h.toCsrLen (cntS c (i + 1))
  refine w_seq ?_
  refine w_seq ?_
  -- region 5
  refine w_region ?_
  refine rw_t 26 rfl rfl rfl (do_move rfl ?_)
  refine rw_t 27 rfl rfl rfl (do_fieldaddr rfl ?_)
  refine rw_t 28 rfl rfl rfl (do_load_box rfl rfl rfl ?_)
  refine rw_t 29 rfl rfl rfl (do_len rfl ?_)
  refine rw_t 30 rfl rfl rfl (do_bin rfl rfl rfl ?_)
  refine rw_nil ?_
  refine w_cond rfl (fun hc1 => ?_) (fun hc1 => ?_)
  all_goals try simp only [bs] at hc1
  rotate_left
  · refine w_exit ?_ -- exit 0
    refine w_seq ?_
    -- region 13
    refine w_region ?_
    refine rw_t 99 rfl rfl rfl (n_load_boxagg [_, _, _] rfl rfl (Nat.le_of_ble_eq_true rfl) rfl ?_)
    refine rw_u rfl rfl (n_store_whole rfl rfl rfl rfl rfl rfl ?_)
    refine rw_nil ?_
    have hi' : cntS c i = (c.First.getD (c.S + 1).toNat 0 - c.First.getD c.S.toNat 0).toNat := by have hiL : i = c.Head.length := (by omega); unfold cntS manyOf; rw [hmt]; omega
    have e1 : begC c = begK c (cntS c i) := by unfold begC; rw [hi']
    refine w_ret ?_
    exact ret_eq (.inl rfl) (.cons (res_agg rfl rfl (Nat.le_of_ble_eq_true rfl)) .nil) [0, 1, 2, 3, 4, 5, 11, 8, 9] (by rw [e1]; rfl) ⟨.inr ⟨_, rfl, .inl rfl⟩, .inr ⟨_, rfl, .inl rfl⟩, .inr ⟨_, rfl, .inl rfl⟩, .inr ⟨_, rfl, .inl rfl⟩, .inr ⟨_, rfl, .inl rfl⟩, .inr ⟨_, rfl, .inl rfl⟩, .inr ⟨_, rfl, .inl (congrArg (SO.ints true .i64) (by rw [e1]))⟩, .inr ⟨_, rfl, .inl (congrArg (SO.ints true .i64) (by rw [e1]))⟩, .inr ⟨_, rfl, .inl (congrArg (SO.ints true .i64) (by rw [e1]))⟩, trivial⟩ rfl (pre_ok rfl)
  refine w_skip ?_
  refine w_seq ?_
  refine w_block ?_
  refine w_seq ?_
  refine w_seq ?_
  -- region 7
  refine w_draw mixed [0, 0, 3, 0, 8] [31] (by kernel_rfl) (by kernel_rfl) rfl rfl rfl (hle hρ rfl) ?_
  refine ra_q (j := 0) rfl rfl rfl rfl (n_load_boxagg [_, _, _, _, _, _, _, _, _] rfl rfl (Nat.le_of_ble_eq_true rfl) rfl ⟨rfl, rfl⟩) (by rfl) ?_
  refine ra_q (j := 1) rfl rfl rfl rfl (do_move rfl ⟨rfl, rfl⟩) (by rfl) ?_
  refine ra_q (j := 2) rfl rfl rfl rfl (do_callR (X' := .val (.int .i64 (tailOf c ((i : Nat) : Int)))) rfl rfl (t_rTail (c := c) (a := ((i : Nat) : Int)) (h.toCsrLen)) [0, 1, 2, 3, 4, 5] ⟨.inr ⟨_, rfl, srv⟩, .inr ⟨_, rfl, srv⟩, .inr ⟨_, rfl, srv⟩, .inr ⟨_, rfl, srv⟩, .inr ⟨_, rfl, srv⟩, .inr ⟨_, rfl, srv⟩, trivial⟩ rfl rfl rfl ⟨rfl, rfl⟩) (by rfl) ?_
  refine ra_q (j := 3) rfl rfl rfl rfl (do_fieldaddr rfl ⟨rfl, rfl⟩) (by rfl) ?_
  refine ra_q (j := 4) rfl rfl rfl rfl (do_load_box rfl rfl rfl ⟨rfl, rfl⟩) (by rfl) ?_
  refine n_done ?_
  refine rw_t 38 rfl rfl rfl (do_bin rfl rfl rfl ?_)
  refine rw_nil ?_
  refine w_cond rfl (fun hc2 => ?_) (fun hc2 => ?_)
  all_goals try simp only [bs] at hc2
  · refine w_exit ?_ -- exit 1
    -- region 6
    refine w_region ?_
    refine rw_t 31 rfl rfl rfl (do_move rfl ?_)
    refine rw_t 32 rfl rfl rfl (do_add rfl rfl (by omega) ?_)
    refine rw_t 4 rfl rfl rfl (do_assign rfl ?_)
    refine rw_nil ?_
    have hcn := cnt_no h.toCsrT (show i < c.Head.length by omega) (by simpa using hc2)
    refine ⟨i + 1, [0, 1, 2, 3, 4, 5, 6, 7, 8, 9, 10, 11], by dsimp only; omega, by omega, ⟨.inr ⟨_, rfl, .inl rfl⟩, .inr ⟨_, rfl, .inl rfl⟩, .inr ⟨_, rfl, .inl rfl⟩, .inr ⟨_, rfl, .inl rfl⟩, .inr ⟨_, rfl, .inl rfl⟩, .inr ⟨_, rfl, .inl rfl⟩, .inr ⟨_, rfl, .inl rfl⟩, .inr ⟨_, rfl, .inl rfl⟩, .inr ⟨_, rfl, .inl (congrArg (SO.ints true .i64) (by rw [hcn]))⟩, .inr ⟨_, rfl, .inl (congrArg (SO.ints true .i64) (by rw [hcn]))⟩, .inr ⟨_, rfl, .inl (box_congr (cons_congr (congrArg (fun n => SV.slc 11 0 n none) (hlk1.res.trans hlk.res.symm)) (cons_congr (congrArg (fun n => SV.slc 8 0 n none) (hlk1.ex.trans hlk.ex.symm)) (cons_congr (congrArg (fun n => SV.slc 9 0 n none) (hlk1.h.trans hlk.h.symm)) ((rfl : ([] : List SV) = []))))))⟩, .inr ⟨_, rfl, .inl (congrArg (SO.ints true .i64) (by rw [hcn]))⟩, trivial⟩, rfl, pre_ok rfl, ⟨⟨_, rfl, rfl⟩, ⟨_, rfl, rfl⟩, ⟨_, rfl, rfl⟩, ⟨_, rfl, rfl⟩, trivial⟩⟩
  refine w_skip ?_
  refine w_seq ?_
  have htl : tailOf c i = c.S := hc2
  have hl8 := begK_len h.toCsrLen (cntS c i)
  have hl1 := hl8.res
  have hl2 := hl8.ex
  have hrv := h.rv i (by omega)
  have hdd := h.hd i (by omega)
  obtain ⟨⟨m1, m2⟩, ⟨m3, m4⟩, ⟨m5, m6⟩⟩ := beg_in h hb (show i < c.Head.length by omega) htl
  -- region 8
  refine w_region ?_
  refine rw_t 39 rfl rfl rfl (do_fieldaddr rfl ?_)
  refine rw_t 40 rfl rfl rfl (do_load_box rfl rfl rfl ?_)
  refine rw_t 41 rfl rfl rfl (do_move rfl ?_)
  refine rw_t 42 rfl rfl rfl (do_ixn rfl rfl rfl (by first | omega | (simp only [ls] <;> omega)) ?_)
  refine rw_t 43 rfl rfl rfl (do_load_arr rfl rfl (by first | omega | (simp only [ls] <;> omega)) rfl ?_)
  refine rw_t 5 rfl rfl rfl (do_assign rfl ?_)
  refine rw_nil ?_
  refine w_seq ?_
  -- region 9
  refine w_region ?_
  refine rw_t 44 rfl rfl rfl (do_fieldaddr rfl ?_)
  refine rw_t 45 rfl rfl rfl (do_load_box rfl rfl rfl ?_)
  refine rw_t 46 rfl rfl rfl (do_move rfl ?_)
  refine rw_t 47 rfl rfl rfl (do_ixn rfl rfl rfl (by first | omega | (simp only [ls] <;> omega)) ?_)
  refine rw_u rfl rfl (n_store_arr (z := 0) rfl rfl rfl (by first | omega | (simp only [ls] <;> omega)) rfl (by decide) rfl ?_)
  refine rw_nil ?_
  refine w_seq ?_
  -- region 10
  refine w_draw mixed [0, 1, 0, 4, 0, 28, 60, 0, 128, 0, 512, 0, 3584, 7680, 16256, 32640, 0, 130944] [262143, 524287] (by kernel_rfl) (by kernel_rfl) rfl rfl rfl (hle hρ rfl) ?_
  refine ra_q (j := 0) rfl rfl rfl rfl (do_fieldaddr rfl ⟨rfl, rfl⟩) (by rfl) ?_
  refine ra_q (j := 1) rfl rfl rfl rfl (do_load_box rfl rfl rfl ⟨rfl, rfl⟩) (by rfl) ?_
  refine ra_q (j := 2) rfl rfl rfl rfl (do_fieldaddr rfl ⟨rfl, rfl⟩) (by rfl) ?_
  refine ra_q (j := 3) rfl rfl rfl rfl (do_load_box rfl rfl rfl ⟨rfl, rfl⟩) (by rfl) ?_
  refine ra_q (j := 4) rfl rfl rfl rfl (do_move rfl ⟨rfl, rfl⟩) (by rfl) ?_
  refine ra_q (j := 5) rfl rfl rfl rfl (do_ixn rfl rfl rfl (by first | omega | (simp only [ls] <;> omega)) ⟨rfl, rfl⟩) (by rfl) ?_
  refine ra_q (j := 6) rfl rfl rfl rfl (do_load_arr rfl rfl (by first | omega | (simp only [ls] <;> omega)) rfl ⟨rfl, rfl⟩) (by rfl) ?_
  refine ra_q (j := 7) rfl rfl rfl rfl (do_fieldaddr rfl ⟨rfl, rfl⟩) (by rfl) ?_
  refine ra_q (j := 8) rfl rfl rfl rfl (do_load_box rfl rfl rfl ⟨rfl, rfl⟩) (by rfl) ?_
  refine ra_q (j := 9) rfl rfl rfl rfl (do_fieldaddr rfl ⟨rfl, rfl⟩) (by rfl) ?_
  refine ra_q (j := 10) rfl rfl rfl rfl (do_load_box rfl rfl rfl ⟨rfl, rfl⟩) (by rfl) ?_
  refine ra_q (j := 11) rfl rfl rfl rfl (do_move rfl ⟨rfl, rfl⟩) (by rfl) ?_
  refine ra_q (j := 12) rfl rfl rfl rfl (do_ixn rfl rfl rfl (by first | omega | (simp only [ls] <;> omega)) ⟨rfl, rfl⟩) (by rfl) ?_
  refine ra_q (j := 13) rfl rfl rfl rfl (do_load_arr rfl rfl (by first | omega | (simp only [ls] <;> omega)) rfl ⟨rfl, rfl⟩) (by rfl) ?_
  refine ra_q (j := 14) rfl rfl rfl rfl (do_ix0 rfl rfl rfl (by first | omega | (simp only [ls] <;> omega)) ⟨rfl, rfl⟩) (by rfl) ?_
  refine ra_q (j := 15) rfl rfl rfl rfl (do_load_arr rfl rfl (by first | omega | (simp only [ls] <;> omega)) rfl ⟨rfl, rfl⟩) (by rfl) ?_
  refine ra_q (j := 16) rfl rfl rfl rfl (do_move rfl ⟨rfl, rfl⟩) (by rfl) ?_
  refine ra_q (j := 17) rfl rfl rfl rfl (do_add rfl rfl (by omega) ⟨rfl, rfl⟩) (by rfl) ?_
  refine n_done ?_
  refine rw_t 66 rfl rfl rfl (do_ix0 rfl rfl rfl (by first | omega | (simp only [ls] <;> omega)) ?_)
  refine rw_u rfl rfl (n_store_arr (z := (((((begK c (cntS c i)).Res).set i 0).getD ((c.Rev.getD i 0).toNat) 0) + (((begK c (cntS c i)).Res).getD i 0))) rfl rfl rfl (by first | omega | (simp only [ls] <;> omega)) rfl (by decide) rfl ?_)
  refine rw_nil ?_
  refine w_seq ?_
  -- region 11
  refine w_draw mixed [0, 1, 0, 4, 0, 16, 0, 64, 240, 496, 0, 2032] [4095, 8191] (by kernel_rfl) (by kernel_rfl) rfl rfl rfl (hle hρ rfl) ?_
  refine ra_q (j := 0) rfl rfl rfl rfl (do_fieldaddr rfl ⟨rfl, rfl⟩) (by rfl) ?_
  refine ra_q (j := 1) rfl rfl rfl rfl (do_load_box rfl rfl rfl ⟨rfl, rfl⟩) (by rfl) ?_
  refine ra_q (j := 2) rfl rfl rfl rfl (do_fieldaddr rfl ⟨rfl, rfl⟩) (by rfl) ?_
  refine ra_q (j := 3) rfl rfl rfl rfl (do_load_box rfl rfl rfl ⟨rfl, rfl⟩) (by rfl) ?_
  refine ra_q (j := 4) rfl rfl rfl rfl (do_fieldaddr rfl ⟨rfl, rfl⟩) (by rfl) ?_
  refine ra_q (j := 5) rfl rfl rfl rfl (do_load_box rfl rfl rfl ⟨rfl, rfl⟩) (by rfl) ?_
  refine ra_q (j := 6) rfl rfl rfl rfl (do_fieldaddr rfl ⟨rfl, rfl⟩) (by rfl) ?_
  refine ra_q (j := 7) rfl rfl rfl rfl (do_load_box rfl rfl rfl ⟨rfl, rfl⟩) (by rfl) ?_
  refine ra_q (j := 8) rfl rfl rfl rfl (do_ix0 rfl rfl rfl (by first | omega | (simp only [ls] <;> omega)) ⟨rfl, rfl⟩) (by rfl) ?_
  refine ra_q (j := 9) rfl rfl rfl rfl (do_load_arr rfl rfl (by first | omega | (simp only [ls] <;> omega)) rfl ⟨rfl, rfl⟩) (by rfl) ?_
  refine ra_q (j := 10) rfl rfl rfl rfl (do_move rfl ⟨rfl, rfl⟩) (by rfl) ?_
  refine ra_q (j := 11) rfl rfl rfl rfl (do_sub rfl rfl (by omega) ⟨rfl, rfl⟩) (by rfl) ?_
  refine n_done ?_
  refine rw_t 79 rfl rfl rfl (do_ix0 rfl rfl rfl (by first | omega | (simp only [ls] <;> omega)) ?_)
  refine rw_u rfl rfl (n_store_arr (z := ((((begK c (cntS c i)).Ex).getD c.S.toNat 0) - (((begK c (cntS c i)).Res).getD i 0))) rfl rfl rfl (by first | omega | (simp only [ls] <;> omega)) rfl (by decide) rfl ?_)
  refine rw_nil ?_
  -- region 12
  refine w_draw mixed [0, 1, 0, 4, 0, 28, 60, 0, 128, 0, 512, 0, 3584, 7680, 16256, 32640, 0, 130944] [262143, 524287] (by kernel_rfl) (by kernel_rfl) rfl rfl rfl (hle hρ rfl) ?_
  refine ra_q (j := 0) rfl rfl rfl rfl (do_fieldaddr rfl ⟨rfl, rfl⟩) (by rfl) ?_
  refine ra_q (j := 1) rfl rfl rfl rfl (do_load_box rfl rfl rfl ⟨rfl, rfl⟩) (by rfl) ?_
  refine ra_q (j := 2) rfl rfl rfl rfl (do_fieldaddr rfl ⟨rfl, rfl⟩) (by rfl) ?_
  refine ra_q (j := 3) rfl rfl rfl rfl (do_load_box rfl rfl rfl ⟨rfl, rfl⟩) (by rfl) ?_
  refine ra_q (j := 4) rfl rfl rfl rfl (do_move rfl ⟨rfl, rfl⟩) (by rfl) ?_
  refine ra_q (j := 5) rfl rfl rfl rfl (do_ixn rfl rfl rfl (by first | omega | (simp only [ls] <;> omega)) ⟨rfl, rfl⟩) (by rfl) ?_
  refine ra_q (j := 6) rfl rfl rfl rfl (do_load_arr rfl rfl (by first | omega | (simp only [ls] <;> omega)) rfl ⟨rfl, rfl⟩) (by rfl) ?_
  refine ra_q (j := 7) rfl rfl rfl rfl (do_fieldaddr rfl ⟨rfl, rfl⟩) (by rfl) ?_
  refine ra_q (j := 8) rfl rfl rfl rfl (do_load_box rfl rfl rfl ⟨rfl, rfl⟩) (by rfl) ?_
  refine ra_q (j := 9) rfl rfl rfl rfl (do_fieldaddr rfl ⟨rfl, rfl⟩) (by rfl) ?_
  refine ra_q (j := 10) rfl rfl rfl rfl (do_load_box rfl rfl rfl ⟨rfl, rfl⟩) (by rfl) ?_
  refine ra_q (j := 11) rfl rfl rfl rfl (do_move rfl ⟨rfl, rfl⟩) (by rfl) ?_
  refine ra_q (j := 12) rfl rfl rfl rfl (do_ixn rfl rfl rfl (by first | omega | (simp only [ls] <;> omega)) ⟨rfl, rfl⟩) (by rfl) ?_
  refine ra_q (j := 13) rfl rfl rfl rfl (do_load_arr rfl rfl (by first | omega | (simp only [ls] <;> omega)) rfl ⟨rfl, rfl⟩) (by rfl) ?_
  refine ra_q (j := 14) rfl rfl rfl rfl (do_ix0 rfl rfl rfl (by first | omega | (simp only [ls] <;> omega)) ⟨rfl, rfl⟩) (by rfl) ?_
  refine ra_q (j := 15) rfl rfl rfl rfl (do_load_arr rfl rfl (by first | omega | (simp only [ls] <;> omega)) rfl ⟨rfl, rfl⟩) (by rfl) ?_
  refine ra_q (j := 16) rfl rfl rfl rfl (do_move rfl ⟨rfl, rfl⟩) (by rfl) ?_
  refine ra_q (j := 17) rfl rfl rfl rfl (do_add rfl rfl (by omega) ⟨rfl, rfl⟩) (by rfl) ?_
  refine n_done ?_
  refine rw_t 98 rfl rfl rfl (do_ix0 rfl rfl rfl (by first | omega | (simp only [ls] <;> omega)) ?_)
  refine rw_u rfl rfl (n_store_arr (z := (((((begK c (cntS c i)).Ex).set c.S.toNat ((((begK c (cntS c i)).Ex).getD c.S.toNat 0) - (((begK c (cntS c i)).Res).getD i 0))).getD ((c.Head.getD i 0).toNat) 0) + (((begK c (cntS c i)).Res).getD i 0))) rfl rfl rfl (by first | omega | (simp only [ls] <;> omega)) rfl (by decide) rfl ?_)
  refine rw_nil ?_
  -- region 6
  refine w_region ?_
  refine rw_t 31 rfl rfl rfl (do_move rfl ?_)
  refine rw_t 32 rfl rfl rfl (do_add rfl rfl (by omega) ?_)
  refine rw_t 4 rfl rfl rfl (do_assign rfl ?_)
  refine rw_nil ?_
  have hbn := begK_next h (show i < c.Head.length by omega) htl
  refine ⟨i + 1, [0, 1, 2, 3, 4, 5, 6, 7, 8, 9, 10, 11], by dsimp only; omega, by omega, ⟨.inr ⟨_, rfl, .inl rfl⟩, .inr ⟨_, rfl, .inl rfl⟩, .inr ⟨_, rfl, .inl rfl⟩, .inr ⟨_, rfl, .inl rfl⟩, .inr ⟨_, rfl, .inl rfl⟩, .inr ⟨_, rfl, .inl rfl⟩, .inr ⟨_, rfl, .inl rfl⟩, .inr ⟨_, rfl, .inl rfl⟩, .inr ⟨_, rfl, .inl (congrArg (SO.ints true .i64) (by rw [hbn]))⟩, .inr ⟨_, rfl, .inl (congrArg (SO.ints true .i64) (by rw [hbn]))⟩, .inr ⟨_, rfl, .inl (box_congr (cons_congr (congrArg (fun n => SV.slc 11 0 n none) (hlk1.res.trans hlk.res.symm)) (cons_congr (congrArg (fun n => SV.slc 8 0 n none) (hlk1.ex.trans hlk.ex.symm)) (cons_congr (congrArg (fun n => SV.slc 9 0 n none) (hlk1.h.trans hlk.h.symm)) ((rfl : ([] : List SV) = []))))))⟩, .inr ⟨_, rfl, .inl (congrArg (SO.ints true .i64) (by rw [hbn]))⟩, trivial⟩, rfl, pre_ok rfl, ⟨⟨_, rfl, rfl⟩, ⟨_, rfl, rfl⟩, ⟨_, rfl, rfl⟩, ⟨_, rfl, rfl⟩, trivial⟩⟩
end Go.Proofs

set_option linter.unusedVariables false
set_option linter.unusedSimpArgs false
namespace Go.Proofs
open Go Go.Sx Go.RowKit
def idxI (q : Int → Bool) (xs : List Int) : Int := match (List.range xs.length).find? (fun i => q (xs.getD i 0)) with
  | some i => (i : Int)
  | none => -1
theorem idx_at {q : Int → Bool} {xs : List Int} {i : Nat} (hi : i < xs.length) (h : q (xs.getD i 0) = true) (hno : ∀ k, k < i → q (xs.getD k 0) = false) : idxI q xs = i := by
  unfold idxI
  have : (List.range xs.length).find? (fun i => q (xs.getD i 0)) = some i := by
    rw [List.find?_range_eq_some]
    exact ⟨h, by simpa using hi, fun j hj => by rw [hno j hj]; rfl⟩
  rw [this]
theorem idx_none {q : Int → Bool} {xs : List Int} (hno : ∀ k, k < xs.length → q (xs.getD k 0) = false) : idxI q xs = -1 := by
  unfold idxI
  have : (List.range xs.length).find? (fun i => q (xs.getD i 0)) = none := by
    rw [List.find?_range_eq_none]
    exact fun i hi => by rw [hno i hi]; rfl
  rw [this]
theorem idx_neg {q : Int → Bool} {xs : List Int} : ¬ (idxI q xs ≥ 0) ↔ ∀ k, k < xs.length → q (xs.getD k 0) = false := by
  constructor
  · intro hn k hk
    cases hf : (List.range xs.length).find? (fun i => q (xs.getD i 0)) with
    | some i => exact (hn (by unfold idxI; rw [hf]; exact Int.natCast_nonneg i)).elim
    | none =>
      rw [List.find?_range_eq_none] at hf
      have := hf k hk
      simpa using this
  · intro hno
    rw [idx_none hno]; decide
def heiQ (N x : Int) : Bool := decide (x < 0 ∨ x ≥ 2 * N)
def geQ (m x : Int) : Bool := decide (x ≥ m)
/-- P7.1: heights that may be. -/
def heiP (c : Csr) (hh : List Int) : Prop := ((((hh.length : Nat) : Int) = c.N ∧ hh.getD c.S.toNat 0 = c.N) ∧ hh.getD c.T.toNat 0 = 0) ∧ ∀ v : Nat, v < hh.length → 0 ≤ hh.getD v 0 ∧ hh.getD v 0 < 2 * c.N
instance (c : Csr) (hh : List Int) : Decidable (heiP c hh) := by unfold heiP; infer_instance
theorem idx_hei {N : Int} {hh : List Int} : ¬ (idxI (heiQ N) hh ≥ 0) ↔ ∀ v : Nat, v < hh.length → 0 ≤ hh.getD v 0 ∧ hh.getD v 0 < 2 * N := by
  rw [idx_neg]
  refine forall_congr' fun k => forall_congr' fun hk => ?_
  rw [heiQ, decide_eq_false_iff_not]
  omega
theorem idx_ge {m : Int} {xs : List Int} : ¬ (idxI (geQ m) xs ≥ 0) ↔ ∀ v : Nat, v < xs.length → xs.getD v 0 < m := by
  rw [idx_neg]
  refine forall_congr' fun k => forall_congr' fun hk => ?_
  rw [geQ, decide_eq_false_iff_not]
  omega
/-- One of an arc and its reverse has no capacity. -/
def CapOne (c : Csr) : Prop := ∀ a : Nat, a < c.Head.length → c.Cap.getD a 0 = 0 ∨ c.Cap.getD (c.Rev.getD a 0).toNat 0 = 0
def flowL (c : Csr) (f : List Int) (m : Int) : Nat → List Int
  | 0 => List.replicate m.toNat 0
  | k + 1 => if c.Back.getD k false = true then (flowL c f m k).set (c.Arc.getD k 0).toNat (f.getD k 0) else flowL c f m k
def flowR (c : Csr) (f : List Int) (m : Int) : List Int × Int :=
  if f.length = c.Head.length then (if pairsP c f then (flowL c f m c.Head.length, 0) else ([], 20)) else ([], 2)
theorem flowL_len (c : Csr) (f : List Int) (m : Int) : ∀ k, (flowL c f m k).length = m.toNat
  | 0 => by simp [flowL]
  | k + 1 => by
    unfold flowL
    split
    · rw [List.length_set]; exact flowL_len c f m k
    · exact flowL_len c f m k
-- f76 "acequia/pre.heights$1"
set_option maxHeartbeats 8000000 in
set_option synthInstance.maxHeartbeats 400000 in
set_option synthInstance.maxSize 2000 in
theorem t_hwrong (c : Csr) (h : CsrT c) (x : Int) : Tri Try.prog 76 [.val (.int .i64 x), .ptr 6 0 0] [SO.ints false .i64 c.First, SO.ints false .i64 c.Head, SO.ints false .i64 c.Rev, SO.ints false .i64 c.Cap, SO.ints false .i64 c.Arc, SO.bools false c.Back, .box [.val (.int .i64 c.N), .val (.int .i64 c.S), .val (.int .i64 c.T), .slc 0 0 c.First.length none, .slc 1 0 c.Head.length none, .slc 2 0 c.Rev.length none, .slc 3 0 c.Cap.length none, .slc 4 0 c.Arc.length none, .slc 5 0 c.Back.length none]] (fun s H => s = .val (.bool (decide (x < 0 ∨ x ≥ 2 * c.N))) ∧ H = [SO.ints false .i64 c.First, SO.ints false .i64 c.Head, SO.ints false .i64 c.Rev, SO.ints false .i64 c.Cap, SO.ints false .i64 c.Arc, SO.bools false c.Back, .box [.val (.int .i64 c.N), .val (.int .i64 c.S), .val (.int .i64 c.T), .slc 0 0 c.First.length none, .slc 1 0 c.Head.length none, .slc 2 0 c.Rev.length none, .slc 3 0 c.Cap.length none, .slc 4 0 c.Arc.length none, .slc 5 0 c.Back.length none]]) := by
  refine tri_of_w (fn := Try.f76) Try.func76 rfl (by simp [Try.f76]) ?_
  intro ρ w hρ
  refine w_seq ?_
  have hn := h.n
  -- region 0
  refine w_region ?_
  refine rw_t 3 rfl rfl rfl (do_assign rfl ?_)
  refine rw_nil ?_
  refine w_env [(0, .val (.int .i64 x)), (1, .ptr 6 0 0)] ⟨⟨_, rfl, rfl⟩, ⟨_, rfl, rfl⟩, trivial⟩ ?_
  refine w_seqB 3 ((x < 0 ∨ x ≥ (2 * c.N))) ?_ ?_
  · -- region 1
    refine w_region ?_
    refine rw_t 4 rfl rfl rfl (do_move rfl ?_)
    refine rw_t 5 rfl rfl rfl (do_bin rfl rfl rfl ?_)
    refine rw_t 6 rfl rfl rfl (do_move rfl ?_)
    refine rw_case 6 rfl (fun g1 => ?_) (fun g1 => ?_)
    · have kg1 := g1
      try simp only [bs] at kg1
      refine rw_gf 7 2 6 false rfl rfl rfl rfl rfl rfl (by rw [g1]; decide) ?_
      refine rw_gf 8 2 6 false rfl rfl rfl rfl rfl rfl (by rw [g1]; decide) ?_
      refine rw_gf 9 2 6 false rfl rfl rfl rfl rfl rfl (by rw [g1]; decide) ?_
      refine rw_gf 10 2 6 false rfl rfl rfl rfl rfl rfl (by rw [g1]; decide) ?_
      refine rw_gf 11 2 6 false rfl rfl rfl rfl rfl rfl (by rw [g1]; decide) ?_
      refine rw_t 12 rfl rfl rfl (do_pick_t rfl g1 rfl ?_)
      refine rw_t 3 rfl rfl rfl (do_assign rfl ?_)
      refine rw_nil ?_
      refine ⟨rfl, ⟨_, rfl, by first | (simp; done) | (simp only [bs]; omega) | (simp [*]; done) | (simp; omega) | (constructor <;> intro h <;> simp_all <;> omega)⟩, ?_⟩
      repeat (refine ⟨⟨_, rfl, rfl⟩, ?_⟩)
      exact trivial
    · have kg1 := g1
      try simp only [bs] at kg1
      refine rw_gt 7 2 6 false rfl rfl rfl rfl rfl rfl g1 (do_move rfl ?_)
      refine rw_gt 8 2 6 false rfl rfl rfl rfl rfl rfl g1 (do_fieldaddr rfl ?_)
      refine rw_gt 9 2 6 false rfl rfl rfl rfl rfl rfl g1 (do_load_box rfl rfl rfl ?_)
      refine rw_gt 10 2 6 false rfl rfl rfl rfl rfl rfl g1 (do_mul rfl rfl (by omega) ?_)
      refine rw_gt 11 2 6 false rfl rfl rfl rfl rfl rfl g1 (do_bin rfl rfl rfl ?_)
      refine rw_t 12 rfl rfl rfl (do_pick_f rfl g1 rfl ?_)
      refine rw_t 3 rfl rfl rfl (do_assign rfl ?_)
      refine rw_nil ?_
      refine ⟨rfl, ⟨_, rfl, by first | (simp; done) | (simp only [bs]; omega) | (simp [*]; done) | (simp; omega) | (constructor <;> intro h <;> simp_all <;> omega)⟩, ?_⟩
      repeat (refine ⟨⟨_, rfl, rfl⟩, ?_⟩)
      exact trivial
  intro b1 hb1
  refine w_ret ?_
  exact ret_eq (.inl rfl) (.cons (res_tmp rfl) .nil) [0, 1, 2, 3, 4, 5, 6] (Eq.symm (bool_congr (dec_of hb1 Iff.rfl))) ⟨.inr ⟨_, rfl, .inl rfl⟩, .inr ⟨_, rfl, .inl rfl⟩, .inr ⟨_, rfl, .inl rfl⟩, .inr ⟨_, rfl, .inl rfl⟩, .inr ⟨_, rfl, .inl rfl⟩, .inr ⟨_, rfl, .inl rfl⟩, .inr ⟨_, rfl, .inl rfl⟩, trivial⟩ rfl (pre_ok rfl)
-- f82 "slices.IndexFunc[[]int,int]"
set_option maxHeartbeats 8000000 in
set_option synthInstance.maxHeartbeats 400000 in
set_option synthInstance.maxSize 2000 in
theorem t_hIndex (c : Csr) (hh : List Int) (h : CsrT c) (hl : hh.length < 1073741824) : Tri Try.prog 82 [.slc 6 0 hh.length none, .func 76 [] [.ptr 7 0 0]] [SO.ints false .i64 c.First, SO.ints false .i64 c.Head, SO.ints false .i64 c.Rev, SO.ints false .i64 c.Cap, SO.ints false .i64 c.Arc, SO.bools false c.Back, SO.ints false .i64 hh, .box [.val (.int .i64 c.N), .val (.int .i64 c.S), .val (.int .i64 c.T), .slc 0 0 c.First.length none, .slc 1 0 c.Head.length none, .slc 2 0 c.Rev.length none, .slc 3 0 c.Cap.length none, .slc 4 0 c.Arc.length none, .slc 5 0 c.Back.length none]] (fun s H => s = .val (.int .i64 (idxI (heiQ c.N) hh)) ∧ H = [SO.ints false .i64 c.First, SO.ints false .i64 c.Head, SO.ints false .i64 c.Rev, SO.ints false .i64 c.Cap, SO.ints false .i64 c.Arc, SO.bools false c.Back, SO.ints false .i64 hh, .box [.val (.int .i64 c.N), .val (.int .i64 c.S), .val (.int .i64 c.T), .slc 0 0 c.First.length none, .slc 1 0 c.Head.length none, .slc 2 0 c.Rev.length none, .slc 3 0 c.Cap.length none, .slc 4 0 c.Arc.length none, .slc 5 0 c.Back.length none]]) := by
  refine tri_of_w (fn := Try.f82) Try.func82 rfl (by simp [Try.f82]) ?_
  intro ρ w hρ
  refine w_seq ?_
  have hn := h.n
  have hS := h.s
  have hT := h.t
  have hsm := h.small
  -- region 0
  refine w_region ?_
  refine rw_t 4 rfl rfl rfl (do_assign rfl ?_)
  refine rw_nil ?_
  refine w_seq ?_
  refine w_seq ?_
  -- region 1
  refine w_region ?_
  refine rw_t 6 rfl rfl rfl (do_move rfl ?_)
  refine rw_t 7 rfl rfl rfl (do_len rfl ?_)
  refine rw_t 8 rfl rfl rfl (do_move rfl ?_)
  refine rw_nil ?_
  refine w_block ?_
  refine w_loopS (ι := Nat) (fun i => [(0, .slc 6 0 hh.length none), (1, .func 76 [] [.ptr 7 0 0]), (7, .val (.int .i64 ((hh.length : Nat) : Int))), (8, .val (.int .i64 ((i : Nat) : Int)))]) (fun i => [SO.ints false .i64 c.First, SO.ints false .i64 c.Head, SO.ints false .i64 c.Rev, SO.ints false .i64 c.Cap, SO.ints false .i64 c.Arc, SO.bools false c.Back, SO.ints false .i64 hh, .box [.val (.int .i64 c.N), .val (.int .i64 c.S), .val (.int .i64 c.T), .slc 0 0 c.First.length none, .slc 1 0 c.Head.length none, .slc 2 0 c.Rev.length none, .slc 3 0 c.Cap.length none, .slc 4 0 c.Arc.length none, .slc 5 0 c.Back.length none]]) (fun i => hh.length - i) (fun i => i ≤ hh.length ∧ ∀ k, k < i → ¬ (hh.getD k 0 < 0 ∨ hh.getD k 0 ≥ 2 * c.N)) (0) [0, 1, 2, 3, 4, 5, 6, 7] (⟨by simp, fun k hk => by omega⟩) ⟨.inr ⟨_, rfl, .inl rfl⟩, .inr ⟨_, rfl, .inl rfl⟩, .inr ⟨_, rfl, .inl rfl⟩, .inr ⟨_, rfl, .inl rfl⟩, .inr ⟨_, rfl, .inl rfl⟩, .inr ⟨_, rfl, .inl rfl⟩, .inr ⟨_, rfl, .inl rfl⟩, .inr ⟨_, rfl, .inl rfl⟩, trivial⟩ rfl (pre_ok rfl) hρ ⟨⟨_, rfl, rfl⟩, ⟨_, rfl, rfl⟩, ⟨_, rfl, rfl⟩, ⟨_, rfl, rfl⟩, trivial⟩ ?_
  rintro i ⟨g1, g2⟩
  refine w_seq ?_
  -- region 2
  refine w_region ?_
  refine rw_t 9 rfl rfl rfl (do_bin rfl rfl rfl ?_)
  refine rw_nil ?_
  refine w_seq ?_
  refine w_cond rfl (fun hc1 => ?_) (fun hc1 => ?_)
  all_goals try simp only [bs] at hc1
  rotate_left
  · refine w_exit ?_ -- exit 0
    refine w_seq ?_
    -- region 7
    refine w_region ?_
    refine rw_t 4 rfl rfl rfl (do_assign rfl ?_)
    refine rw_nil ?_
    refine w_ret ?_
    exact ret_eq (.inl rfl) (.cons (res_tmp rfl) .nil) [0, 1, 2, 3, 4, 5, 6, 7] (Eq.symm (val_congr (by rw [idx_none (fun k hk => decide_eq_false (g2 k (by omega)))]))) ⟨.inr ⟨_, rfl, .inl rfl⟩, .inr ⟨_, rfl, .inl rfl⟩, .inr ⟨_, rfl, .inl rfl⟩, .inr ⟨_, rfl, .inl rfl⟩, .inr ⟨_, rfl, .inl rfl⟩, .inr ⟨_, rfl, .inl rfl⟩, .inr ⟨_, rfl, .inl rfl⟩, .inr ⟨_, rfl, .inl rfl⟩, trivial⟩ rfl (pre_ok rfl)
  refine w_skip ?_
  refine w_seq ?_
  refine w_block ?_
  refine w_seq ?_
  -- region 3
  refine w_region ?_
  refine rw_t 10 rfl rfl rfl (do_move rfl ?_)
  refine rw_t 5 rfl rfl rfl (do_assign rfl ?_)
  refine rw_nil ?_
  refine w_seq ?_
  -- region 4
  refine w_region ?_
  refine rw_t 11 rfl rfl rfl (do_move rfl ?_)
  refine rw_t 12 rfl rfl rfl (do_move rfl ?_)
  refine rw_t 13 rfl rfl rfl (do_move rfl ?_)
  refine rw_t 14 rfl rfl rfl (do_ixn rfl rfl rfl (by first | omega | (simp only [ls] <;> omega)) ?_)
  refine rw_t 15 rfl rfl rfl (do_load_arr rfl rfl (by first | omega | (simp only [ls] <;> omega)) rfl ?_)
  refine rw_t 16 rfl rfl rfl (n_callW (X' := .val (.bool (decide ((hh.getD i 0) < 0 ∨ (hh.getD i 0) ≥ 2 * c.N)))) (H' := [SO.ints false .i64 c.First, SO.ints false .i64 c.Head, SO.ints false .i64 c.Rev, SO.ints false .i64 c.Cap, SO.ints false .i64 c.Arc, SO.bools false c.Back, SO.ints false .i64 hh, .box [.val (.int .i64 c.N), .val (.int .i64 c.S), .val (.int .i64 c.T), .slc 0 0 c.First.length none, .slc 1 0 c.Head.length none, .slc 2 0 c.Rev.length none, .slc 3 0 c.Cap.length none, .slc 4 0 c.Arc.length none, .slc 5 0 c.Back.length none]]) rfl rfl (t_hwrong (c := c) (x := (hh.getD i 0)) (h)) [0, 1, 2, 3, 4, 5, 7] ⟨.inr ⟨_, rfl, srv⟩, .inr ⟨_, rfl, srv⟩, .inr ⟨_, rfl, srv⟩, .inr ⟨_, rfl, srv⟩, .inr ⟨_, rfl, srv⟩, .inr ⟨_, rfl, srv⟩, .inr ⟨_, rfl, .inl rfl⟩, trivial⟩ rfl rfl ⟨fun h => (by cases h), ⟨fun h => (by cases h), ⟨fun h => (by cases h), ⟨fun h => (by cases h), ⟨fun h => (by cases h), ⟨fun h => (by cases h), ⟨fun h => .inl rfl, (fun y hy => by simp at hy)⟩⟩⟩⟩⟩⟩⟩ rfl rfl ?_)
  refine rw_nil ?_
  refine w_cond rfl (fun hc2 => ?_) (fun hc2 => ?_)
  all_goals try simp only [bs] at hc2
  · refine w_seq ?_
    -- region 5
    refine w_region ?_
    refine rw_t 17 rfl rfl rfl (do_move rfl ?_)
    refine rw_t 4 rfl rfl rfl (do_assign rfl ?_)
    refine rw_nil ?_
    refine w_ret ?_
    exact ret_eq (.inl rfl) (.cons (res_tmp rfl) .nil) [0, 1, 2, 3, 4, 5, 6, 7] (Eq.symm (val_congr (by rw [idx_at (by omega) (decide_eq_true hc2) (fun k hk => decide_eq_false (g2 k hk))]))) ⟨.inr ⟨_, rfl, .inl rfl⟩, .inr ⟨_, rfl, .inl rfl⟩, .inr ⟨_, rfl, .inl rfl⟩, .inr ⟨_, rfl, .inl rfl⟩, .inr ⟨_, rfl, .inl rfl⟩, .inr ⟨_, rfl, .inl rfl⟩, .inr ⟨_, rfl, .inl rfl⟩, .inr ⟨_, rfl, .inl rfl⟩, trivial⟩ rfl (pre_ok rfl)
  refine w_skip ?_
  -- region 6
  refine w_region ?_
  refine rw_t 18 rfl rfl rfl (do_add rfl rfl (by omega) ?_)
  refine rw_t 8 rfl rfl rfl (do_move rfl ?_)
  refine rw_nil ?_
  refine ⟨i + 1, [0, 1, 2, 3, 4, 5, 6, 7], by dsimp only; omega, ⟨by omega, fun k hk => by rcases Nat.lt_or_ge k i with hki | hki; exact g2 k hki; have : k = i := (by omega); subst this; exact hc2⟩, ⟨.inr ⟨_, rfl, .inl rfl⟩, .inr ⟨_, rfl, .inl rfl⟩, .inr ⟨_, rfl, .inl rfl⟩, .inr ⟨_, rfl, .inl rfl⟩, .inr ⟨_, rfl, .inl rfl⟩, .inr ⟨_, rfl, .inl rfl⟩, .inr ⟨_, rfl, .inl rfl⟩, .inr ⟨_, rfl, .inl rfl⟩, trivial⟩, rfl, pre_ok rfl, ⟨⟨_, rfl, rfl⟩, ⟨_, rfl, rfl⟩, ⟨_, rfl, rfl⟩, ⟨_, rfl, rfl⟩, trivial⟩⟩
-- f64 "slices.ContainsFunc[[]int,int]"
set_option maxHeartbeats 8000000 in
set_option synthInstance.maxHeartbeats 400000 in
set_option synthInstance.maxSize 2000 in
theorem t_hContains (c : Csr) (hh : List Int) (h : CsrT c) (hl : hh.length < 1073741824) : Tri Try.prog 64 [.slc 6 0 hh.length none, .func 76 [] [.ptr 7 0 0]] [SO.ints false .i64 c.First, SO.ints false .i64 c.Head, SO.ints false .i64 c.Rev, SO.ints false .i64 c.Cap, SO.ints false .i64 c.Arc, SO.bools false c.Back, SO.ints false .i64 hh, .box [.val (.int .i64 c.N), .val (.int .i64 c.S), .val (.int .i64 c.T), .slc 0 0 c.First.length none, .slc 1 0 c.Head.length none, .slc 2 0 c.Rev.length none, .slc 3 0 c.Cap.length none, .slc 4 0 c.Arc.length none, .slc 5 0 c.Back.length none]] (fun s H => s = .val (.bool (decide (idxI (heiQ c.N) hh ≥ 0))) ∧ H = [SO.ints false .i64 c.First, SO.ints false .i64 c.Head, SO.ints false .i64 c.Rev, SO.ints false .i64 c.Cap, SO.ints false .i64 c.Arc, SO.bools false c.Back, SO.ints false .i64 hh, .box [.val (.int .i64 c.N), .val (.int .i64 c.S), .val (.int .i64 c.T), .slc 0 0 c.First.length none, .slc 1 0 c.Head.length none, .slc 2 0 c.Rev.length none, .slc 3 0 c.Cap.length none, .slc 4 0 c.Arc.length none, .slc 5 0 c.Back.length none]]) := by
  refine tri_of_w (fn := Try.f64) Try.func64 rfl (by simp [Try.f64]) ?_
  intro ρ w hρ
  refine w_seq ?_
  -- region 0
  refine w_region ?_
  refine rw_t 4 rfl rfl rfl (do_assign rfl ?_)
  refine rw_nil ?_
  refine w_seq ?_
  -- region 1
  refine w_region ?_
  refine rw_t 5 rfl rfl rfl (do_move rfl ?_)
  refine rw_t 6 rfl rfl rfl (do_move rfl ?_)
  refine rw_t 7 rfl rfl rfl (n_callW (X' := .val (.int .i64 (idxI (heiQ c.N) hh))) (H' := [SO.ints false .i64 c.First, SO.ints false .i64 c.Head, SO.ints false .i64 c.Rev, SO.ints false .i64 c.Cap, SO.ints false .i64 c.Arc, SO.bools false c.Back, SO.ints false .i64 hh, .box [.val (.int .i64 c.N), .val (.int .i64 c.S), .val (.int .i64 c.T), .slc 0 0 c.First.length none, .slc 1 0 c.Head.length none, .slc 2 0 c.Rev.length none, .slc 3 0 c.Cap.length none, .slc 4 0 c.Arc.length none, .slc 5 0 c.Back.length none]]) rfl rfl (t_hIndex (c := c) (hh := hh) (h) (hl)) [0, 1, 2, 3, 4, 5, 6, 7] ⟨.inr ⟨_, rfl, srv⟩, .inr ⟨_, rfl, srv⟩, .inr ⟨_, rfl, srv⟩, .inr ⟨_, rfl, srv⟩, .inr ⟨_, rfl, srv⟩, .inr ⟨_, rfl, srv⟩, .inr ⟨_, rfl, srv⟩, .inr ⟨_, rfl, .inl rfl⟩, trivial⟩ rfl rfl ⟨fun h => (by cases h), ⟨fun h => (by cases h), ⟨fun h => (by cases h), ⟨fun h => (by cases h), ⟨fun h => (by cases h), ⟨fun h => (by cases h), ⟨fun h => (by cases h), ⟨fun h => .inl rfl, (fun y hy => by simp at hy)⟩⟩⟩⟩⟩⟩⟩⟩ rfl rfl ?_)
  refine rw_t 8 rfl rfl rfl (do_bin rfl rfl rfl ?_)
  refine rw_t 4 rfl rfl rfl (do_assign rfl ?_)
  refine rw_nil ?_
  refine w_ret ?_
  exact ret_eq (.inl rfl) (.cons (res_tmp rfl) .nil) [0, 1, 2, 3, 4, 5, 6, 7] (rfl) ⟨.inr ⟨_, rfl, .inl rfl⟩, .inr ⟨_, rfl, .inl rfl⟩, .inr ⟨_, rfl, .inl rfl⟩, .inr ⟨_, rfl, .inl rfl⟩, .inr ⟨_, rfl, .inl rfl⟩, .inr ⟨_, rfl, .inl rfl⟩, .inr ⟨_, rfl, .inl rfl⟩, .inr ⟨_, rfl, .inl rfl⟩, trivial⟩ rfl (pre_ok rfl)
-- f49 "acequia/pre.heights"
set_option maxHeartbeats 8000000 in
set_option synthInstance.maxHeartbeats 400000 in
set_option synthInstance.maxSize 2000 in
theorem t_heights (c : Csr) (hh : List Int) (h : CsrT c) : Tri Try.prog 49 [.agg [.val (.int .i64 c.N), .val (.int .i64 c.S), .val (.int .i64 c.T), .slc 0 0 c.First.length none, .slc 1 0 c.Head.length none, .slc 2 0 c.Rev.length none, .slc 3 0 c.Cap.length none, .slc 4 0 c.Arc.length none, .slc 5 0 c.Back.length none], .slc 6 0 hh.length none] [SO.ints false .i64 c.First, SO.ints false .i64 c.Head, SO.ints false .i64 c.Rev, SO.ints false .i64 c.Cap, SO.ints false .i64 c.Arc, SO.bools false c.Back, SO.ints false .i64 hh] (fun s H => s = .val (.bool (decide (heiP c hh))) ∧ H = [SO.ints false .i64 c.First, SO.ints false .i64 c.Head, SO.ints false .i64 c.Rev, SO.ints false .i64 c.Cap, SO.ints false .i64 c.Arc, SO.bools false c.Back, SO.ints false .i64 hh]) := by
  refine tri_of_w (fn := Try.f49) Try.func49 rfl (by simp [Try.f49]) ?_
  intro ρ w hρ
  refine w_seq ?_
  have hn := h.n
  have hS := h.s
  have hT := h.t
  have hsm := h.small
  -- region 0
  refine w_region ?_
  refine rw_t 2 rfl rfl rfl (n_box_agg (n := 7) rfl rfl ?_)
  refine rw_t 4 rfl rfl rfl (do_assign rfl ?_)
  refine rw_nil ?_
  refine w_seq ?_
  refine w_seqB 27 (((((hh.length : Nat) : Int) ≠ c.N ∨ (hh.getD c.S.toNat 0) ≠ c.N) ∨ (hh.getD c.T.toNat 0) ≠ 0)) ?_ ?_
  · -- region 1
    refine w_draw mixed [0, 1, 0, 4, 15, 31, 63, 63, 191, 511, 1023, 63, 2111, 8191, 16383, 32767, 65535, 65535, 196607] [524287, 1048575, 2097151, 4194303] (by kernel_rfl) (by kernel_rfl) rfl rfl rfl (hle hρ rfl) ?_
    refine ra_q (j := 0) rfl rfl rfl rfl (do_move rfl ⟨rfl, rfl⟩) (by rfl) ?_
    refine ra_q (j := 1) rfl rfl rfl rfl (do_len rfl ⟨rfl, rfl⟩) (by rfl) ?_
    refine ra_q (j := 2) rfl rfl rfl rfl (do_fieldaddr rfl ⟨rfl, rfl⟩) (by rfl) ?_
    refine ra_q (j := 3) rfl rfl rfl rfl (do_load_box rfl rfl rfl ⟨rfl, rfl⟩) (by rfl) ?_
    refine ra_q (j := 4) rfl rfl rfl rfl (do_bin rfl rfl rfl ⟨rfl, rfl⟩) (by rfl) ?_
    refine ra_q (j := 5) rfl rfl rfl rfl (do_move rfl ⟨rfl, rfl⟩) (by rfl) ?_
    refine ra_case 10 rfl (fun g1 => ?_) (fun g1 => ?_)
    · have kg1 := g1
      try simp only [bs] at kg1
      refine ra_gf (j := 6) rfl rfl rfl rfl (by rw [g1]; decide) rfl rfl rfl ?_
      refine ra_gf (j := 7) rfl rfl rfl rfl (by rw [g1]; decide) rfl rfl rfl ?_
      refine ra_gf (j := 8) rfl rfl rfl rfl (by rw [g1]; decide) rfl rfl rfl ?_
      refine ra_gf (j := 9) rfl rfl rfl rfl (by rw [g1]; decide) rfl rfl rfl ?_
      refine ra_gf (j := 10) rfl rfl rfl rfl (by rw [g1]; decide) rfl rfl rfl ?_
      refine ra_gf (j := 11) rfl rfl rfl rfl (by rw [g1]; decide) rfl rfl rfl ?_
      refine ra_gf (j := 12) rfl rfl rfl rfl (by rw [g1]; decide) rfl rfl rfl ?_
      refine ra_gf (j := 13) rfl rfl rfl rfl (by rw [g1]; decide) rfl rfl rfl ?_
      refine ra_q (j := 14) rfl rfl rfl rfl (do_pick_t rfl g1 rfl ⟨rfl, rfl⟩) (by rfl) ?_
      refine ra_q (j := 15) rfl rfl rfl rfl (do_move rfl ⟨rfl, rfl⟩) (by rfl) ?_
      refine ra_gf (j := 16) rfl rfl rfl rfl (by decide) rfl rfl rfl ?_
      refine ra_gf (j := 17) rfl rfl rfl rfl (by decide) rfl rfl rfl ?_
      refine ra_gf (j := 18) rfl rfl rfl rfl (by decide) rfl rfl rfl ?_
      refine n_done ?_
      refine rw_gf 24 15 20 false rfl rfl rfl rfl rfl rfl (by decide) ?_
      refine rw_gf 25 15 20 false rfl rfl rfl rfl rfl rfl (by decide) ?_
      refine rw_gf 26 15 20 false rfl rfl rfl rfl rfl rfl (by decide) ?_
      refine rw_t 27 rfl rfl rfl (do_pick_t rfl rfl rfl ?_)
      refine rw_nil ?_
      refine ⟨rfl, ⟨_, rfl, by first | (simp; done) | (simp only [bs]; omega) | (simp [*]; done) | (simp; omega) | (constructor <;> intro h <;> simp_all <;> omega)⟩, ?_⟩
      repeat (refine ⟨⟨_, rfl, rfl⟩, ?_⟩)
      exact trivial
    · have kg1 := g1
      try simp only [bs] at kg1
      refine ra_gt (j := 6) rfl rfl rfl rfl g1 rfl rfl rfl (do_move rfl ⟨rfl, rfl⟩) (by rfl) ?_
      refine ra_gt (j := 7) rfl rfl rfl rfl g1 rfl rfl rfl (do_fieldaddr rfl ⟨rfl, rfl⟩) (by rfl) ?_
      refine ra_gt (j := 8) rfl rfl rfl rfl g1 rfl rfl rfl (do_load_box rfl rfl rfl ⟨rfl, rfl⟩) (by rfl) ?_
      refine ra_gt (j := 9) rfl rfl rfl rfl g1 rfl rfl rfl (do_ix0 rfl rfl rfl (by first | omega | (simp only [ls] <;> omega)) ⟨rfl, rfl⟩) (by rfl) ?_
      refine ra_gt (j := 10) rfl rfl rfl rfl g1 rfl rfl rfl (do_load_arr rfl rfl (by first | omega | (simp only [ls] <;> omega)) rfl ⟨rfl, rfl⟩) (by rfl) ?_
      refine ra_gt (j := 11) rfl rfl rfl rfl g1 rfl rfl rfl (do_fieldaddr rfl ⟨rfl, rfl⟩) (by rfl) ?_
      refine ra_gt (j := 12) rfl rfl rfl rfl g1 rfl rfl rfl (do_load_box rfl rfl rfl ⟨rfl, rfl⟩) (by rfl) ?_
      refine ra_gt (j := 13) rfl rfl rfl rfl g1 rfl rfl rfl (do_bin rfl rfl rfl ⟨rfl, rfl⟩) (by rfl) ?_
      refine ra_q (j := 14) rfl rfl rfl rfl (do_pick_f rfl g1 rfl ⟨rfl, rfl⟩) (by rfl) ?_
      refine ra_q (j := 15) rfl rfl rfl rfl (do_move rfl ⟨rfl, rfl⟩) (by rfl) ?_
      refine ra_case 20 rfl (fun g2 => ?_) (fun g2 => ?_)
      · have kg2 := g2
        try simp only [bs] at kg2
        refine ra_gf (j := 16) rfl rfl rfl rfl (by rw [g2]; decide) rfl rfl rfl ?_
        refine ra_gf (j := 17) rfl rfl rfl rfl (by rw [g2]; decide) rfl rfl rfl ?_
        refine ra_gf (j := 18) rfl rfl rfl rfl (by rw [g2]; decide) rfl rfl rfl ?_
        refine n_done ?_
        refine rw_gf 24 15 20 false rfl rfl rfl rfl rfl rfl (by rw [g2]; decide) ?_
        refine rw_gf 25 15 20 false rfl rfl rfl rfl rfl rfl (by rw [g2]; decide) ?_
        refine rw_gf 26 15 20 false rfl rfl rfl rfl rfl rfl (by rw [g2]; decide) ?_
        refine rw_t 27 rfl rfl rfl (do_pick_t rfl g2 rfl ?_)
        refine rw_nil ?_
        refine ⟨rfl, ⟨_, rfl, by first | (simp; done) | (simp only [bs]; omega) | (simp [*]; done) | (simp; omega) | (constructor <;> intro h <;> simp_all <;> omega)⟩, ?_⟩
        repeat (refine ⟨⟨_, rfl, rfl⟩, ?_⟩)
        exact trivial
      · have kg2 := g2
        try simp only [bs] at kg2
        refine ra_gt (j := 16) rfl rfl rfl rfl g2 rfl rfl rfl (do_move rfl ⟨rfl, rfl⟩) (by rfl) ?_
        refine ra_gt (j := 17) rfl rfl rfl rfl g2 rfl rfl rfl (do_fieldaddr rfl ⟨rfl, rfl⟩) (by rfl) ?_
        refine ra_gt (j := 18) rfl rfl rfl rfl g2 rfl rfl rfl (do_load_box rfl rfl rfl ⟨rfl, rfl⟩) (by rfl) ?_
        refine n_done ?_
        refine rw_gt 24 15 20 false rfl rfl rfl rfl rfl rfl g2 (do_ix0 rfl rfl rfl (by first | omega | (simp only [ls] <;> omega)) ?_)
        refine rw_gt 25 15 20 false rfl rfl rfl rfl rfl rfl g2 (do_load_arr rfl rfl (by first | omega | (simp only [ls] <;> omega)) rfl ?_)
        refine rw_gt 26 15 20 false rfl rfl rfl rfl rfl rfl g2 (do_bin rfl rfl rfl ?_)
        refine rw_t 27 rfl rfl rfl (do_pick_f rfl g2 rfl ?_)
        refine rw_nil ?_
        refine ⟨rfl, ⟨_, rfl, by first | (simp; done) | (simp only [bs]; omega) | (simp [*]; done) | (simp; omega) | (constructor <;> intro h <;> simp_all <;> omega)⟩, ?_⟩
        repeat (refine ⟨⟨_, rfl, rfl⟩, ?_⟩)
        exact trivial
  intro b1 hb1
  refine w_condP hb1 rfl (fun hc1 => ?_) (fun hc1 => ?_)
  · refine w_seq ?_
    -- region 2
    refine w_region ?_
    refine rw_t 4 rfl rfl rfl (do_assign rfl ?_)
    refine rw_nil ?_
    refine w_ret ?_
    exact ret_eq (.inl rfl) (.cons (res_tmp rfl) .nil) [0, 1, 2, 3, 4, 5, 6] (Eq.symm (bool_congr (decide_eq_false (fun q => by obtain ⟨⟨⟨q1, q2⟩, q3⟩, q4⟩ := q; omega)))) ⟨.inr ⟨_, rfl, .inl rfl⟩, .inr ⟨_, rfl, .inl rfl⟩, .inr ⟨_, rfl, .inl rfl⟩, .inr ⟨_, rfl, .inl rfl⟩, .inr ⟨_, rfl, .inl rfl⟩, .inr ⟨_, rfl, .inl rfl⟩, .inr ⟨_, rfl, .inl rfl⟩, trivial⟩ rfl (pre_ok rfl)
  refine w_skip ?_
  refine w_seq ?_
  -- region 3
  refine w_region ?_
  refine rw_t 28 rfl rfl rfl (do_move rfl ?_)
  refine rw_t 29 rfl rfl rfl (do_makefunc rfl rfl ?_)
  refine rw_t 30 rfl rfl rfl (n_callW (X' := .val (.bool (decide (idxI (heiQ c.N) hh ≥ 0)))) (H' := [SO.ints false .i64 c.First, SO.ints false .i64 c.Head, SO.ints false .i64 c.Rev, SO.ints false .i64 c.Cap, SO.ints false .i64 c.Arc, SO.bools false c.Back, SO.ints false .i64 hh, .box [.val (.int .i64 c.N), .val (.int .i64 c.S), .val (.int .i64 c.T), .slc 0 0 c.First.length none, .slc 1 0 c.Head.length none, .slc 2 0 c.Rev.length none, .slc 3 0 c.Cap.length none, .slc 4 0 c.Arc.length none, .slc 5 0 c.Back.length none]]) rfl rfl (t_hContains (c := c) (hh := hh) (h) (by omega)) [0, 1, 2, 3, 4, 5, 6, 7] ⟨.inr ⟨_, rfl, srv⟩, .inr ⟨_, rfl, srv⟩, .inr ⟨_, rfl, srv⟩, .inr ⟨_, rfl, srv⟩, .inr ⟨_, rfl, srv⟩, .inr ⟨_, rfl, srv⟩, .inr ⟨_, rfl, srv⟩, .inr ⟨_, rfl, .inl rfl⟩, trivial⟩ rfl rfl ⟨fun h => (by cases h), ⟨fun h => (by cases h), ⟨fun h => (by cases h), ⟨fun h => (by cases h), ⟨fun h => (by cases h), ⟨fun h => (by cases h), ⟨fun h => (by cases h), ⟨fun h => .inl rfl, (fun y hy => by simp at hy)⟩⟩⟩⟩⟩⟩⟩⟩ rfl rfl ?_)
  refine rw_t 31 rfl rfl rfl (do_not rfl ?_)
  refine rw_t 4 rfl rfl rfl (do_assign rfl ?_)
  refine rw_nil ?_
  refine w_ret ?_
  exact ret_eq (.inl rfl) (.cons (res_tmp rfl) .nil) [0, 1, 2, 3, 4, 5, 6] (Eq.symm (bool_congr (Bool.eq_iff_iff.2 (by simp only [decide_eq_true_eq, Bool.not_eq_true', decide_eq_false_iff_not]; rw [idx_hei]; exact ⟨fun q => q.2, fun q => ⟨by omega, q⟩⟩)))) ⟨.inr ⟨_, rfl, .inl rfl⟩, .inr ⟨_, rfl, .inl rfl⟩, .inr ⟨_, rfl, .inl rfl⟩, .inr ⟨_, rfl, .inl rfl⟩, .inr ⟨_, rfl, .inl rfl⟩, .inr ⟨_, rfl, .inl rfl⟩, .inr ⟨_, rfl, .inl rfl⟩, trivial⟩ rfl (pre_ok rfl)
-- f48 "slices.Equal[[]int64,int64]"
set_option maxHeartbeats 8000000 in
set_option synthInstance.maxHeartbeats 400000 in
set_option synthInstance.maxSize 2000 in
theorem t_Equal (a b : List Int) (hl : a.length < 1073741824) : Tri Try.prog 48 [.slc 0 0 a.length none, .slc 1 0 b.length none] [SO.ints false .i64 a, SO.ints false .i64 b] (fun s H => s = .val (.bool (decide (a = b))) ∧ H = [SO.ints false .i64 a, SO.ints false .i64 b]) := by
  refine tri_of_w (fn := Try.f48) Try.func48 rfl (by simp [Try.f48]) ?_
  intro ρ w hρ
  refine w_seq ?_
  -- region 0
  refine w_region ?_
  refine rw_t 4 rfl rfl rfl (do_assign rfl ?_)
  refine rw_nil ?_
  refine w_seq ?_
  refine w_seq ?_
  -- region 1
  refine w_region ?_
  refine rw_t 6 rfl rfl rfl (do_move rfl ?_)
  refine rw_t 7 rfl rfl rfl (do_len rfl ?_)
  refine rw_t 8 rfl rfl rfl (do_move rfl ?_)
  refine rw_t 9 rfl rfl rfl (do_len rfl ?_)
  refine rw_t 10 rfl rfl rfl (do_bin rfl rfl rfl ?_)
  refine rw_nil ?_
  refine w_cond rfl (fun hc1 => ?_) (fun hc1 => ?_)
  all_goals try simp only [bs] at hc1
  · refine w_seq ?_
    -- region 2
    refine w_region ?_
    refine rw_t 4 rfl rfl rfl (do_assign rfl ?_)
    refine rw_nil ?_
    refine w_ret ?_
    exact ret_eq (.inl rfl) (.cons (res_tmp rfl) .nil) [0, 1] (Eq.symm (bool_congr (decide_eq_false (fun q => by subst q; exact hc1 rfl)))) ⟨.inr ⟨_, rfl, .inl rfl⟩, .inr ⟨_, rfl, .inl rfl⟩, trivial⟩ rfl (pre_ok rfl)
  refine w_skip ?_
  refine w_seq ?_
  refine w_seq ?_
  -- region 3
  refine w_region ?_
  refine rw_t 11 rfl rfl rfl (do_move rfl ?_)
  refine rw_t 12 rfl rfl rfl (do_len rfl ?_)
  refine rw_t 13 rfl rfl rfl (do_move rfl ?_)
  refine rw_nil ?_
  refine w_block ?_
  refine w_loopS (ι := Nat) (fun i => [(0, .slc 0 0 a.length none), (1, .slc 1 0 b.length none), (12, .val (.int .i64 ((a.length : Nat) : Int))), (13, .val (.int .i64 ((i : Nat) : Int)))]) (fun i => [SO.ints false .i64 a, SO.ints false .i64 b]) (fun i => a.length - i) (fun i => i ≤ a.length ∧ a.take i = b.take i) (0) [0, 1] (⟨by simp, rfl⟩) ⟨.inr ⟨_, rfl, .inl rfl⟩, .inr ⟨_, rfl, .inl rfl⟩, trivial⟩ rfl (pre_ok rfl) hρ ⟨⟨_, rfl, rfl⟩, ⟨_, rfl, rfl⟩, ⟨_, rfl, rfl⟩, ⟨_, rfl, rfl⟩, trivial⟩ ?_
  rintro i ⟨g1, g2⟩
  refine w_seq ?_
  -- region 4
  refine w_region ?_
  refine rw_t 14 rfl rfl rfl (do_bin rfl rfl rfl ?_)
  refine rw_nil ?_
  refine w_seq ?_
  refine w_cond rfl (fun hc2 => ?_) (fun hc2 => ?_)
  all_goals try simp only [bs] at hc2
  rotate_left
  · refine w_exit ?_ -- exit 0
    refine w_seq ?_
    -- region 9
    refine w_region ?_
    refine rw_t 4 rfl rfl rfl (do_assign rfl ?_)
    refine rw_nil ?_
    refine w_ret ?_
    exact ret_eq (.inl rfl) (.cons (res_tmp rfl) .nil) [0, 1] (Eq.symm (bool_congr (decide_eq_true (eq_of_take (by omega) (by omega) g2)))) ⟨.inr ⟨_, rfl, .inl rfl⟩, .inr ⟨_, rfl, .inl rfl⟩, trivial⟩ rfl (pre_ok rfl)
  refine w_skip ?_
  refine w_seq ?_
  refine w_block ?_
  refine w_seq ?_
  -- region 5
  refine w_region ?_
  refine rw_t 15 rfl rfl rfl (do_move rfl ?_)
  refine rw_t 5 rfl rfl rfl (do_assign rfl ?_)
  refine rw_nil ?_
  refine w_seq ?_
  -- region 6
  refine w_draw mixed [0, 0, 3, 7, 0, 0, 48, 112] [255] (by kernel_rfl) (by kernel_rfl) rfl rfl rfl (hle hρ rfl) ?_
  refine ra_q (j := 0) rfl rfl rfl rfl (do_move rfl ⟨rfl, rfl⟩) (by rfl) ?_
  refine ra_q (j := 1) rfl rfl rfl rfl (do_move rfl ⟨rfl, rfl⟩) (by rfl) ?_
  refine ra_q (j := 2) rfl rfl rfl rfl (do_ixn rfl rfl rfl (by first | omega | (simp only [ls] <;> omega)) ⟨rfl, rfl⟩) (by rfl) ?_
  refine ra_q (j := 3) rfl rfl rfl rfl (do_load_arr rfl rfl (by first | omega | (simp only [ls] <;> omega)) rfl ⟨rfl, rfl⟩) (by rfl) ?_
  refine ra_q (j := 4) rfl rfl rfl rfl (do_move rfl ⟨rfl, rfl⟩) (by rfl) ?_
  refine ra_q (j := 5) rfl rfl rfl rfl (do_move rfl ⟨rfl, rfl⟩) (by rfl) ?_
  refine ra_q (j := 6) rfl rfl rfl rfl (do_ixn rfl rfl rfl (by first | omega | (simp only [ls] <;> omega)) ⟨rfl, rfl⟩) (by rfl) ?_
  refine ra_q (j := 7) rfl rfl rfl rfl (do_load_arr rfl rfl (by first | omega | (simp only [ls] <;> omega)) rfl ⟨rfl, rfl⟩) (by rfl) ?_
  refine n_done ?_
  refine rw_t 24 rfl rfl rfl (do_bin rfl rfl rfl ?_)
  refine rw_nil ?_
  refine w_cond rfl (fun hc3 => ?_) (fun hc3 => ?_)
  all_goals try simp only [bs] at hc3
  · refine w_seq ?_
    -- region 7
    refine w_region ?_
    refine rw_t 4 rfl rfl rfl (do_assign rfl ?_)
    refine rw_nil ?_
    refine w_ret ?_
    exact ret_eq (.inl rfl) (.cons (res_tmp rfl) .nil) [0, 1] (Eq.symm (bool_congr (decide_eq_false (fun q => by subst q; exact hc3 rfl)))) ⟨.inr ⟨_, rfl, .inl rfl⟩, .inr ⟨_, rfl, .inl rfl⟩, trivial⟩ rfl (pre_ok rfl)
  refine w_skip ?_
  -- region 8
  refine w_region ?_
  refine rw_t 25 rfl rfl rfl (do_add rfl rfl (by omega) ?_)
  refine rw_t 13 rfl rfl rfl (do_move rfl ?_)
  refine rw_nil ?_
  refine ⟨i + 1, [0, 1], by dsimp only; omega, ⟨by omega, take_next (by omega) (by omega) g2 hc3⟩, ⟨.inr ⟨_, rfl, .inl rfl⟩, .inr ⟨_, rfl, .inl rfl⟩, trivial⟩, rfl, pre_ok rfl, ⟨⟨_, rfl, rfl⟩, ⟨_, rfl, rfl⟩, ⟨_, rfl, rfl⟩, ⟨_, rfl, rfl⟩, trivial⟩⟩
end Go.Proofs

set_option linter.unusedVariables false
set_option linter.unusedSimpArgs false
namespace Go.Proofs
open Go Go.Sx Go.RowKit
theorem most_max {c : Csr} (h : CsrOK c) (ho : CapOne c) {a : Nat} (ha : a < c.Head.length) : (if c.Cap.getD (c.Rev.getD a 0).toNat 0 > c.Cap.getD a 0 then c.Cap.getD (c.Rev.getD a 0).toNat 0 else c.Cap.getD a 0) = mostOf c a := by
  have h1 := h.cp a ha
  have hr := h.rv a ha
  have h2 := h.cp (c.Rev.getD a 0).toNat (by omega)
  have h3 := ho a ha
  unfold mostOf
  split <;> omega
-- f63 "acequia/csr.Flow$1"
set_option maxHeartbeats 8000000 in
set_option synthInstance.maxHeartbeats 400000 in
set_option synthInstance.maxSize 2000 in
theorem t_fwrong (m x : Int) : Tri Try.prog 63 [.val (.int .i64 x), .ptr 0 0 0] [.box [.val (.int .i64 m)]] (fun s H => s = .val (.bool (decide (x ≥ m))) ∧ H = [.box [.val (.int .i64 m)]]) := by
  refine tri_of_w (fn := Try.f63) Try.func63 rfl (by simp [Try.f63]) ?_
  intro ρ w hρ
  refine w_seq ?_
  -- region 0
  refine w_region ?_
  refine rw_t 3 rfl rfl rfl (do_assign rfl ?_)
  refine rw_nil ?_
  refine w_seq ?_
  -- region 1
  refine w_region ?_
  refine rw_t 4 rfl rfl rfl (do_move rfl ?_)
  refine rw_t 5 rfl rfl rfl (do_load_box rfl rfl rfl ?_)
  refine rw_t 6 rfl rfl rfl (do_bin rfl rfl rfl ?_)
  refine rw_t 3 rfl rfl rfl (do_assign rfl ?_)
  refine rw_nil ?_
  refine w_ret ?_
  exact ret_eq (.inl rfl) (.cons (res_tmp rfl) .nil) [0] (rfl) ⟨.inr ⟨_, rfl, .inl rfl⟩, trivial⟩ rfl (pre_ok rfl)
-- f82 "slices.IndexFunc[[]int,int]"
set_option maxHeartbeats 8000000 in
set_option synthInstance.maxHeartbeats 400000 in
set_option synthInstance.maxSize 2000 in
theorem t_fIndex (m : Int) (xs : List Int) (hl : xs.length < 1073741824) : Tri Try.prog 82 [.slc 0 0 xs.length none, .func 63 [] [.ptr 1 0 0]] [SO.ints false .i64 xs, .box [.val (.int .i64 m)]] (fun s H => s = .val (.int .i64 (idxI (geQ m) xs)) ∧ H = [SO.ints false .i64 xs, .box [.val (.int .i64 m)]]) := by
  refine tri_of_w (fn := Try.f82) Try.func82 rfl (by simp [Try.f82]) ?_
  intro ρ w hρ
  refine w_seq ?_
  have h00 : (0 : Int) ≤ 0 := by omega
  -- region 0
  refine w_region ?_
  refine rw_t 4 rfl rfl rfl (do_assign rfl ?_)
  refine rw_nil ?_
  refine w_seq ?_
  refine w_seq ?_
  -- region 1
  refine w_region ?_
  refine rw_t 6 rfl rfl rfl (do_move rfl ?_)
  refine rw_t 7 rfl rfl rfl (do_len rfl ?_)
  refine rw_t 8 rfl rfl rfl (do_move rfl ?_)
  refine rw_nil ?_
  refine w_block ?_
  refine w_loopS (ι := Nat) (fun i => [(0, .slc 0 0 xs.length none), (1, .func 63 [] [.ptr 1 0 0]), (7, .val (.int .i64 ((xs.length : Nat) : Int))), (8, .val (.int .i64 ((i : Nat) : Int)))]) (fun i => [SO.ints false .i64 xs, .box [.val (.int .i64 m)]]) (fun i => xs.length - i) (fun i => i ≤ xs.length ∧ ∀ k, k < i → ¬ (xs.getD k 0 ≥ m)) (0) [0, 1] (⟨by simp, fun k hk => by omega⟩) ⟨.inr ⟨_, rfl, .inl rfl⟩, .inr ⟨_, rfl, .inl rfl⟩, trivial⟩ rfl (pre_ok rfl) hρ ⟨⟨_, rfl, rfl⟩, ⟨_, rfl, rfl⟩, ⟨_, rfl, rfl⟩, ⟨_, rfl, rfl⟩, trivial⟩ ?_
  rintro i ⟨g1, g2⟩
  refine w_seq ?_
  -- region 2
  refine w_region ?_
  refine rw_t 9 rfl rfl rfl (do_bin rfl rfl rfl ?_)
  refine rw_nil ?_
  refine w_seq ?_
  refine w_cond rfl (fun hc1 => ?_) (fun hc1 => ?_)
  all_goals try simp only [bs] at hc1
  rotate_left
  · refine w_exit ?_ -- exit 0
    refine w_seq ?_
    -- region 7
    refine w_region ?_
    refine rw_t 4 rfl rfl rfl (do_assign rfl ?_)
    refine rw_nil ?_
    refine w_ret ?_
    exact ret_eq (.inl rfl) (.cons (res_tmp rfl) .nil) [0, 1] (Eq.symm (val_congr (by rw [idx_none (fun k hk => decide_eq_false (g2 k (by omega)))]))) ⟨.inr ⟨_, rfl, .inl rfl⟩, .inr ⟨_, rfl, .inl rfl⟩, trivial⟩ rfl (pre_ok rfl)
  refine w_skip ?_
  refine w_seq ?_
  refine w_block ?_
  refine w_seq ?_
  -- region 3
  refine w_region ?_
  refine rw_t 10 rfl rfl rfl (do_move rfl ?_)
  refine rw_t 5 rfl rfl rfl (do_assign rfl ?_)
  refine rw_nil ?_
  refine w_seq ?_
  -- region 4
  refine w_region ?_
  refine rw_t 11 rfl rfl rfl (do_move rfl ?_)
  refine rw_t 12 rfl rfl rfl (do_move rfl ?_)
  refine rw_t 13 rfl rfl rfl (do_move rfl ?_)
  refine rw_t 14 rfl rfl rfl (do_ixn rfl rfl rfl (by first | omega | (simp only [ls] <;> omega)) ?_)
  refine rw_t 15 rfl rfl rfl (do_load_arr rfl rfl (by first | omega | (simp only [ls] <;> omega)) rfl ?_)
  refine rw_t 16 rfl rfl rfl (n_callW (X' := .val (.bool (decide ((xs.getD i 0) ≥ m)))) (H' := [SO.ints false .i64 xs, .box [.val (.int .i64 m)]]) rfl rfl (t_fwrong (m := m) (x := (xs.getD i 0))) [1] ⟨.inr ⟨_, rfl, .inl rfl⟩, trivial⟩ rfl rfl ⟨fun h => .inl rfl, (fun y hy => by simp at hy)⟩ rfl rfl ?_)
  refine rw_nil ?_
  refine w_cond rfl (fun hc2 => ?_) (fun hc2 => ?_)
  all_goals try simp only [bs] at hc2
  · refine w_seq ?_
    -- region 5
    refine w_region ?_
    refine rw_t 17 rfl rfl rfl (do_move rfl ?_)
    refine rw_t 4 rfl rfl rfl (do_assign rfl ?_)
    refine rw_nil ?_
    refine w_ret ?_
    exact ret_eq (.inl rfl) (.cons (res_tmp rfl) .nil) [0, 1] (Eq.symm (val_congr (by rw [idx_at (by omega) (decide_eq_true hc2) (fun k hk => decide_eq_false (g2 k hk))]))) ⟨.inr ⟨_, rfl, .inl rfl⟩, .inr ⟨_, rfl, .inl rfl⟩, trivial⟩ rfl (pre_ok rfl)
  refine w_skip ?_
  -- region 6
  refine w_region ?_
  refine rw_t 18 rfl rfl rfl (do_add rfl rfl (by omega) ?_)
  refine rw_t 8 rfl rfl rfl (do_move rfl ?_)
  refine rw_nil ?_
  refine ⟨i + 1, [0, 1], by dsimp only; omega, ⟨by omega, fun k hk => by rcases Nat.lt_or_ge k i with hki | hki; exact g2 k hki; have : k = i := (by omega); subst this; exact hc2⟩, ⟨.inr ⟨_, rfl, .inl rfl⟩, .inr ⟨_, rfl, .inl rfl⟩, trivial⟩, rfl, pre_ok rfl, ⟨⟨_, rfl, rfl⟩, ⟨_, rfl, rfl⟩, ⟨_, rfl, rfl⟩, ⟨_, rfl, rfl⟩, trivial⟩⟩
-- f64 "slices.ContainsFunc[[]int,int]"
set_option maxHeartbeats 8000000 in
set_option synthInstance.maxHeartbeats 400000 in
set_option synthInstance.maxSize 2000 in
theorem t_fContains (m : Int) (xs : List Int) (hl : xs.length < 1073741824) : Tri Try.prog 64 [.slc 0 0 xs.length none, .func 63 [] [.ptr 1 0 0]] [SO.ints false .i64 xs, .box [.val (.int .i64 m)]] (fun s H => s = .val (.bool (decide (idxI (geQ m) xs ≥ 0))) ∧ H = [SO.ints false .i64 xs, .box [.val (.int .i64 m)]]) := by
  refine tri_of_w (fn := Try.f64) Try.func64 rfl (by simp [Try.f64]) ?_
  intro ρ w hρ
  refine w_seq ?_
  -- region 0
  refine w_region ?_
  refine rw_t 4 rfl rfl rfl (do_assign rfl ?_)
  refine rw_nil ?_
  refine w_seq ?_
  -- region 1
  refine w_region ?_
  refine rw_t 5 rfl rfl rfl (do_move rfl ?_)
  refine rw_t 6 rfl rfl rfl (do_move rfl ?_)
  refine rw_t 7 rfl rfl rfl (n_callW (X' := .val (.int .i64 (idxI (geQ m) xs))) (H' := [SO.ints false .i64 xs, .box [.val (.int .i64 m)]]) rfl rfl (t_fIndex (m := m) (xs := xs) (hl)) [0, 1] ⟨.inr ⟨_, rfl, srv⟩, .inr ⟨_, rfl, .inl rfl⟩, trivial⟩ rfl rfl ⟨fun h => (by cases h), ⟨fun h => .inl rfl, (fun y hy => by simp at hy)⟩⟩ rfl rfl ?_)
  refine rw_t 8 rfl rfl rfl (do_bin rfl rfl rfl ?_)
  refine rw_t 4 rfl rfl rfl (do_assign rfl ?_)
  refine rw_nil ?_
  refine w_ret ?_
  exact ret_eq (.inl rfl) (.cons (res_tmp rfl) .nil) [0, 1] (rfl) ⟨.inr ⟨_, rfl, .inl rfl⟩, .inr ⟨_, rfl, .inl rfl⟩, trivial⟩ rfl (pre_ok rfl)
-- f36 "acequia/csr.Flow"
set_option maxHeartbeats 8000000 in
set_option synthInstance.maxHeartbeats 400000 in
set_option synthInstance.maxSize 2000 in
theorem t_Flow (c : Csr) (f : List Int) (m : Int) (h : CsrT c) (ho : CapOne c) (hm : 0 ≤ m ∧ m ≤ 16384) (ha : ∀ k : Nat, k < c.Arc.length → 0 ≤ c.Arc.getD k 0 ∧ c.Arc.getD k 0 < m) : Tri Try.prog 36 [.agg [.val (.int .i64 c.N), .val (.int .i64 c.S), .val (.int .i64 c.T), .slc 0 0 c.First.length none, .slc 1 0 c.Head.length none, .slc 2 0 c.Rev.length none, .slc 3 0 c.Cap.length none, .slc 4 0 c.Arc.length none, .slc 5 0 c.Back.length none], .slc 6 0 f.length none, .val (.int .i64 m)] [SO.ints false .i64 c.First, SO.ints false .i64 c.Head, SO.ints false .i64 c.Rev, SO.ints false .i64 c.Cap, SO.ints false .i64 c.Arc, SO.bools false c.Back, SO.ints false .i64 f] (fun s H => s = .tup [.slc 7 0 ((flowR c f m).1.length) none, .val (.int .i64 ((flowR c f m).2))] ∧ H = [SO.ints false .i64 c.First, SO.ints false .i64 c.Head, SO.ints false .i64 c.Rev, SO.ints false .i64 c.Cap, SO.ints false .i64 c.Arc, SO.bools false c.Back, SO.ints false .i64 f, SO.ints true .i64 ((flowR c f m).1)]) := by
  refine tri_of_w (fn := Try.f36) Try.func36 rfl (by simp [Try.f36]) ?_
  intro ρ w hρ
  refine w_seq ?_
  have hn := h.n
  have hf := h.first
  have hhd := h.head
  have hrl := h.rev
  have hcl := h.cap
  have hal := h.arc
  have hbl := h.back
  have hsm := h.small
  have hng : ¬ (idxI (geQ m) c.Arc ≥ 0) := idx_ge.2 fun v hv => (ha v hv).2
  -- region 0
  refine w_region ?_
  refine rw_t 3 rfl rfl rfl (n_box_agg (n := 7) rfl rfl ?_)
  refine rw_t 5 rfl rfl rfl (n_box (n := 8) rfl rfl rfl ?_)
  refine rw_t 6 rfl rfl rfl (do_assign rfl ?_)
  refine rw_t 7 rfl rfl rfl (do_assign rfl ?_)
  refine rw_nil ?_
  refine w_seq ?_
  -- region 1
  refine w_region ?_
  refine rw_t 13 rfl rfl rfl (do_makefunc rfl rfl ?_)
  refine rw_t 8 rfl rfl rfl (do_assign rfl ?_)
  refine rw_nil ?_
  refine w_seq ?_
  refine w_seqB 32 ((((((f.length : Nat) : Int) ≠ ((c.Head.length : Nat) : Int) ∨ m < 0) ∨ m > 16384) ∨ idxI (geQ m) c.Arc ≥ 0)) ?_ ?_
  · -- region 2
    refine w_region ?_
    refine rw_t 14 rfl rfl rfl (do_move rfl ?_)
    refine rw_t 15 rfl rfl rfl (do_len rfl ?_)
    refine rw_t 16 rfl rfl rfl (n_load_boxagg [_, _, _, _, _, _, _, _, _] rfl rfl (Nat.le_of_ble_eq_true rfl) rfl ?_)
    refine rw_t 17 rfl rfl rfl (do_callR (X' := .val (.int .i64 ((c.Head.length : Nat) : Int))) rfl rfl (t_Len (c := c)) [0, 1, 2, 3, 4, 5] ⟨.inr ⟨_, rfl, srv⟩, .inr ⟨_, rfl, srv⟩, .inr ⟨_, rfl, srv⟩, .inr ⟨_, rfl, srv⟩, .inr ⟨_, rfl, srv⟩, .inr ⟨_, rfl, srv⟩, trivial⟩ rfl rfl rfl ?_)
    refine rw_t 18 rfl rfl rfl (do_bin rfl rfl rfl ?_)
    refine rw_t 19 rfl rfl rfl (do_move rfl ?_)
    refine rw_case 19 rfl (fun g1 => ?_) (fun g1 => ?_)
    · have kg1 := g1
      try simp only [bs] at kg1
      refine rw_gf 20 5 19 false rfl rfl rfl rfl rfl rfl (by rw [g1]; decide) ?_
      refine rw_gf 21 5 19 false rfl rfl rfl rfl rfl rfl (by rw [g1]; decide) ?_
      refine rw_t 22 rfl rfl rfl (do_pick_t rfl g1 rfl ?_)
      refine rw_t 23 rfl rfl rfl (do_move rfl ?_)
      refine rw_gf 24 9 23 false rfl rfl rfl rfl rfl rfl (by decide) ?_
      refine rw_gf 25 9 23 false rfl rfl rfl rfl rfl rfl (by decide) ?_
      refine rw_t 26 rfl rfl rfl (do_pick_t rfl rfl rfl ?_)
      refine rw_t 27 rfl rfl rfl (do_move rfl ?_)
      refine rw_gf 28 13 27 false rfl rfl rfl rfl rfl rfl (by decide) ?_
      refine rw_gf 29 13 27 false rfl rfl rfl rfl rfl rfl (by decide) ?_
      refine rw_gf 30 13 27 false rfl rfl rfl rfl rfl rfl (by decide) ?_
      refine rw_gf 31 13 27 false rfl rfl rfl rfl rfl rfl (by decide) ?_
      refine rw_t 32 rfl rfl rfl (do_pick_t rfl rfl rfl ?_)
      refine rw_nil ?_
      refine ⟨rfl, ⟨_, rfl, by first | (simp; done) | (simp only [bs]; omega) | (simp [*]; done) | (simp; omega) | (constructor <;> intro h <;> simp_all <;> omega)⟩, ?_⟩
      repeat (refine ⟨⟨_, rfl, rfl⟩, ?_⟩)
      exact trivial
    · have kg1 := g1
      try simp only [bs] at kg1
      refine rw_gt 20 5 19 false rfl rfl rfl rfl rfl rfl g1 (do_load_box rfl rfl rfl ?_)
      refine rw_gt 21 5 19 false rfl rfl rfl rfl rfl rfl g1 (do_bin rfl rfl rfl ?_)
      refine rw_t 22 rfl rfl rfl (do_pick_f rfl g1 rfl ?_)
      refine rw_t 23 rfl rfl rfl (do_move rfl ?_)
      refine rw_case 23 rfl (fun g2 => ?_) (fun g2 => ?_)
      · have kg2 := g2
        try simp only [bs] at kg2
        refine rw_gf 24 9 23 false rfl rfl rfl rfl rfl rfl (by rw [g2]; decide) ?_
        refine rw_gf 25 9 23 false rfl rfl rfl rfl rfl rfl (by rw [g2]; decide) ?_
        refine rw_t 26 rfl rfl rfl (do_pick_t rfl g2 rfl ?_)
        refine rw_t 27 rfl rfl rfl (do_move rfl ?_)
        refine rw_gf 28 13 27 false rfl rfl rfl rfl rfl rfl (by decide) ?_
        refine rw_gf 29 13 27 false rfl rfl rfl rfl rfl rfl (by decide) ?_
        refine rw_gf 30 13 27 false rfl rfl rfl rfl rfl rfl (by decide) ?_
        refine rw_gf 31 13 27 false rfl rfl rfl rfl rfl rfl (by decide) ?_
        refine rw_t 32 rfl rfl rfl (do_pick_t rfl rfl rfl ?_)
        refine rw_nil ?_
        refine ⟨rfl, ⟨_, rfl, by first | (simp; done) | (simp only [bs]; omega) | (simp [*]; done) | (simp; omega) | (constructor <;> intro h <;> simp_all <;> omega)⟩, ?_⟩
        repeat (refine ⟨⟨_, rfl, rfl⟩, ?_⟩)
        exact trivial
      · have kg2 := g2
        try simp only [bs] at kg2
        refine rw_gt 24 9 23 false rfl rfl rfl rfl rfl rfl g2 (do_load_box rfl rfl rfl ?_)
        refine rw_gt 25 9 23 false rfl rfl rfl rfl rfl rfl g2 (do_bin rfl rfl rfl ?_)
        refine rw_t 26 rfl rfl rfl (do_pick_f rfl g2 rfl ?_)
        refine rw_t 27 rfl rfl rfl (do_move rfl ?_)
        refine rw_case 27 rfl (fun g3 => ?_) (fun g3 => ?_)
        · have kg3 := g3
          try simp only [bs] at kg3
          refine rw_gf 28 13 27 false rfl rfl rfl rfl rfl rfl (by rw [g3]; decide) ?_
          refine rw_gf 29 13 27 false rfl rfl rfl rfl rfl rfl (by rw [g3]; decide) ?_
          refine rw_gf 30 13 27 false rfl rfl rfl rfl rfl rfl (by rw [g3]; decide) ?_
          refine rw_gf 31 13 27 false rfl rfl rfl rfl rfl rfl (by rw [g3]; decide) ?_
          refine rw_t 32 rfl rfl rfl (do_pick_t rfl g3 rfl ?_)
          refine rw_nil ?_
          refine ⟨rfl, ⟨_, rfl, by first | (simp; done) | (simp only [bs]; omega) | (simp [*]; done) | (simp; omega) | (constructor <;> intro h <;> simp_all <;> omega)⟩, ?_⟩
          repeat (refine ⟨⟨_, rfl, rfl⟩, ?_⟩)
          exact trivial
        · have kg3 := g3
          try simp only [bs] at kg3
          refine rw_gt 28 13 27 false rfl rfl rfl rfl rfl rfl g3 (do_fieldaddr rfl ?_)
          refine rw_gt 29 13 27 false rfl rfl rfl rfl rfl rfl g3 (do_load_box rfl rfl rfl ?_)
          refine rw_gt 30 13 27 false rfl rfl rfl rfl rfl rfl g3 (do_move rfl ?_)
          refine rw_gt 31 13 27 false rfl rfl rfl rfl rfl rfl g3 (n_callW (X' := .val (.bool (decide (idxI (geQ m) c.Arc ≥ 0)))) (H' := [SO.ints false .i64 c.First, SO.ints false .i64 c.Head, SO.ints false .i64 c.Rev, SO.ints false .i64 c.Cap, SO.ints false .i64 c.Arc, SO.bools false c.Back, SO.ints false .i64 f, .box [.val (.int .i64 c.N), .val (.int .i64 c.S), .val (.int .i64 c.T), .slc 0 0 c.First.length none, .slc 1 0 c.Head.length none, .slc 2 0 c.Rev.length none, .slc 3 0 c.Cap.length none, .slc 4 0 c.Arc.length none, .slc 5 0 c.Back.length none], .box [.val (.int .i64 m)]]) rfl rfl (t_fContains (m := m) (xs := c.Arc) (by omega)) [4, 8] ⟨.inr ⟨_, rfl, srv⟩, .inr ⟨_, rfl, .inl rfl⟩, trivial⟩ rfl rfl ⟨fun h => (by cases h), ⟨fun h => .inl rfl, (fun y hy => by simp at hy)⟩⟩ rfl rfl ?_)
          refine rw_t 32 rfl rfl rfl (do_pick_f rfl g3 rfl ?_)
          refine rw_nil ?_
          refine ⟨rfl, ⟨_, rfl, by first | (simp; done) | (simp only [bs]; omega) | (simp [*]; done) | (simp; omega) | (constructor <;> intro h <;> simp_all <;> omega)⟩, ?_⟩
          repeat (refine ⟨⟨_, rfl, rfl⟩, ?_⟩)
          exact trivial
  intro b1 hb1
  refine w_condP hb1 rfl (fun hc1 => ?_) (fun hc1 => ?_)
  · refine w_seq ?_
    -- region 3
    refine w_region ?_
    refine rw_t 6 rfl rfl rfl (do_assign rfl ?_)
    refine rw_t 7 rfl rfl rfl (do_assign rfl ?_)
    refine rw_nil ?_
    have hno : f.length ≠ c.Head.length := by omega
    have e1 : flowR c f m = ([], 2) := by unfold flowR; rw [if_neg hno]
    refine n_ghost Int 1 (encI .i64) 0 (fun _ => rfl) (fun _ _ h => by simp [encI] at h; subst h; rfl) ?_
    refine w_nilE 6 9 0 rfl ?_
    refine w_ret ?_
    exact ret_eq (.inl rfl) (.cons (res_tmp rfl) (.cons (res_tmp rfl) .nil)) [0, 1, 2, 3, 4, 5, 6, 9] (by rw [e1]; rfl) ⟨.inr ⟨_, rfl, .inl rfl⟩, .inr ⟨_, rfl, .inl rfl⟩, .inr ⟨_, rfl, .inl rfl⟩, .inr ⟨_, rfl, .inl rfl⟩, .inr ⟨_, rfl, .inl rfl⟩, .inr ⟨_, rfl, .inl rfl⟩, .inr ⟨_, rfl, .inl rfl⟩, .inr ⟨_, rfl, .inl (congrArg (SO.ints true .i64) (by rw [e1]; try rfl))⟩, trivial⟩ rfl (pre_ok rfl)
  refine w_skip ?_
  refine w_seq ?_
  have hfl : f.length = c.Head.length := by omega
  -- region 4
  refine w_region ?_
  refine rw_t 33 rfl rfl rfl (do_load_box rfl rfl rfl ?_)
  refine rw_t 34 rfl rfl rfl (n_make (nm := 9) Int (encI .i64) 0 rfl rfl rfl (fun _ => rfl) (fun _ _ h => by simp [encI] at h; subst h; rfl) (by omega) (by omega) (by omega) rfl ?_)
  refine rw_cap 34 rfl ?_
  refine rw_t 9 rfl rfl rfl (do_assign rfl ?_)
  refine rw_nil ?_
  refine w_seq ?_
  refine w_seq ?_
  -- region 5
  refine w_region ?_
  refine rw_t 35 rfl rfl rfl (do_move rfl ?_)
  refine rw_t 36 rfl rfl rfl (do_len rfl ?_)
  refine rw_t 37 rfl rfl rfl (do_move rfl ?_)
  refine rw_nil ?_
  refine w_block ?_
  refine w_loopS (ι := Nat) (fun i => [(1, .slc 6 0 f.length none), (3, .ptr 7 0 0), (9, .slc 9 0 ((flowL c f m i).length) none), (35, .slc 6 0 f.length none), (36, .val (.int .i64 ((f.length : Nat) : Int))), (37, .val (.int .i64 ((i : Nat) : Int)))]) (fun i => [SO.ints false .i64 c.First, SO.ints false .i64 c.Head, SO.ints false .i64 c.Rev, SO.ints false .i64 c.Cap, SO.ints false .i64 c.Arc, SO.bools false c.Back, SO.ints false .i64 f, .box [.val (.int .i64 c.N), .val (.int .i64 c.S), .val (.int .i64 c.T), .slc 0 0 c.First.length none, .slc 1 0 c.Head.length none, .slc 2 0 c.Rev.length none, .slc 3 0 c.Cap.length none, .slc 4 0 c.Arc.length none, .slc 5 0 c.Back.length none], .box [.val (.int .i64 m)], SO.ints true .i64 (flowL c f m i)]) (fun i => f.length - i) (fun i => i ≤ f.length ∧ ∀ a : Nat, a < i → 0 ≤ f.getD a 0 ∧ f.getD a 0 ≤ mostOf c a ∧ f.getD (c.Rev.getD a 0).toNat 0 = mostOf c a - f.getD a 0) (0) [0, 1, 2, 3, 4, 5, 6, 7, 8, 9] (⟨by simp, fun a ha => by omega⟩) ⟨.inr ⟨_, rfl, .inl rfl⟩, .inr ⟨_, rfl, .inl rfl⟩, .inr ⟨_, rfl, .inl rfl⟩, .inr ⟨_, rfl, .inl rfl⟩, .inr ⟨_, rfl, .inl rfl⟩, .inr ⟨_, rfl, .inl rfl⟩, .inr ⟨_, rfl, .inl rfl⟩, .inr ⟨_, rfl, .inl rfl⟩, .inr ⟨_, rfl, .inl rfl⟩, .inr ⟨_, rfl, .inl rfl⟩, trivial⟩ rfl (pre_ok rfl) hρ ⟨⟨_, rfl, rfl⟩, ⟨_, rfl, rfl⟩, ⟨_, rfl, congrArg (fun n => SV.slc 9 0 n none) (by simp [flowL])⟩, ⟨_, rfl, rfl⟩, ⟨_, rfl, rfl⟩, ⟨_, rfl, rfl⟩, trivial⟩ ?_
  rintro i ⟨g1, g2⟩
  refine w_seq ?_
  -- region 6
  refine w_region ?_
  refine rw_t 38 rfl rfl rfl (do_bin rfl rfl rfl ?_)
  refine rw_nil ?_
  refine w_seq ?_
  refine w_cond rfl (fun hc2 => ?_) (fun hc2 => ?_)
  all_goals try simp only [bs] at hc2
  rotate_left
  · refine w_exit ?_ -- exit 0
    refine w_seq ?_
    -- region 14
    refine w_region ?_
    refine rw_t 94 rfl rfl rfl (do_move rfl ?_)
    refine rw_t 6 rfl rfl rfl (do_assign rfl ?_)
    refine rw_t 7 rfl rfl rfl (do_assign rfl ?_)
    refine rw_nil ?_
    have hi' : i = c.Head.length := by omega
    subst hi'
    have e1 : flowR c f m = (flowL c f m c.Head.length, 0) := by unfold flowR; rw [if_pos hfl, if_pos (show pairsP c f from g2)]
    refine w_ret ?_
    exact ret_eq (.inl rfl) (.cons (res_tmp rfl) (.cons (res_tmp rfl) .nil)) [0, 1, 2, 3, 4, 5, 6, 9] (by rw [e1]; rfl) ⟨.inr ⟨_, rfl, .inl rfl⟩, .inr ⟨_, rfl, .inl rfl⟩, .inr ⟨_, rfl, .inl rfl⟩, .inr ⟨_, rfl, .inl rfl⟩, .inr ⟨_, rfl, .inl rfl⟩, .inr ⟨_, rfl, .inl rfl⟩, .inr ⟨_, rfl, .inl rfl⟩, .inr ⟨_, rfl, .inl (congrArg (SO.ints true .i64) (by rw [e1]; try rfl))⟩, trivial⟩ rfl (pre_ok rfl)
  refine w_skip ?_
  refine w_seq ?_
  refine w_block ?_
  refine w_seq ?_
  have hrv := h.rv i (by omega)
  have hmx := most_max h.toCsrOK ho (show i < c.Head.length by omega)
  have hcp := h.cp i (by omega)
  have hai := ha i (by omega)
  have hfn := flowL_len c f m i
  have hmr : mostOf c i = c.Cap.getD i 0 + c.Cap.getD (c.Rev.getD i 0).toNat 0 := rfl
  -- region 7
  refine w_region ?_
  refine rw_t 39 rfl rfl rfl (do_move rfl ?_)
  refine rw_t 40 rfl rfl rfl (do_ixn rfl rfl rfl (by first | omega | (simp only [ls] <;> omega)) ?_)
  refine rw_t 41 rfl rfl rfl (do_load_arr rfl rfl (by first | omega | (simp only [ls] <;> omega)) rfl ?_)
  refine rw_t 10 rfl rfl rfl (do_assign rfl ?_)
  refine rw_t 11 rfl rfl rfl (do_assign rfl ?_)
  refine rw_nil ?_
  refine w_seq ?_
  -- region 8
  refine w_draw mixed [0, 1, 0, 7, 15, 0, 32, 0, 128, 0, 896, 1920, 4064, 8160] [16383, 32767] (by kernel_rfl) (by kernel_rfl) rfl rfl rfl (hle hρ rfl) ?_
  refine ra_q (j := 0) rfl rfl rfl rfl (do_fieldaddr rfl ⟨rfl, rfl⟩) (by rfl) ?_
  refine ra_q (j := 1) rfl rfl rfl rfl (do_load_box rfl rfl rfl ⟨rfl, rfl⟩) (by rfl) ?_
  refine ra_q (j := 2) rfl rfl rfl rfl (do_move rfl ⟨rfl, rfl⟩) (by rfl) ?_
  refine ra_q (j := 3) rfl rfl rfl rfl (do_ixn rfl rfl rfl (by first | omega | (simp only [ls] <;> omega)) ⟨rfl, rfl⟩) (by rfl) ?_
  refine ra_q (j := 4) rfl rfl rfl rfl (do_load_arr rfl rfl (by first | omega | (simp only [ls] <;> omega)) rfl ⟨rfl, rfl⟩) (by rfl) ?_
  refine ra_q (j := 5) rfl rfl rfl rfl (do_fieldaddr rfl ⟨rfl, rfl⟩) (by rfl) ?_
  refine ra_q (j := 6) rfl rfl rfl rfl (do_load_box rfl rfl rfl ⟨rfl, rfl⟩) (by rfl) ?_
  refine ra_q (j := 7) rfl rfl rfl rfl (do_fieldaddr rfl ⟨rfl, rfl⟩) (by rfl) ?_
  refine ra_q (j := 8) rfl rfl rfl rfl (do_load_box rfl rfl rfl ⟨rfl, rfl⟩) (by rfl) ?_
  refine ra_q (j := 9) rfl rfl rfl rfl (do_move rfl ⟨rfl, rfl⟩) (by rfl) ?_
  refine ra_q (j := 10) rfl rfl rfl rfl (do_ixn rfl rfl rfl (by first | omega | (simp only [ls] <;> omega)) ⟨rfl, rfl⟩) (by rfl) ?_
  refine ra_q (j := 11) rfl rfl rfl rfl (do_load_arr rfl rfl (by first | omega | (simp only [ls] <;> omega)) rfl ⟨rfl, rfl⟩) (by rfl) ?_
  refine ra_q (j := 12) rfl rfl rfl rfl (do_ix0 rfl rfl rfl (by first | omega | (simp only [ls] <;> omega)) ⟨rfl, rfl⟩) (by rfl) ?_
  refine ra_q (j := 13) rfl rfl rfl rfl (do_load_arr rfl rfl (by first | omega | (simp only [ls] <;> omega)) rfl ⟨rfl, rfl⟩) (by rfl) ?_
  refine n_done ?_
  refine rw_t 56 rfl rfl rfl (do_max rfl rfl ?_)
  refine rw_as (.val (.int .i64 (mostOf c i))) (val_congr (hmx)) ?_
  refine rw_t 12 rfl rfl rfl (do_assign rfl ?_)
  refine rw_nil ?_
  refine w_block ?_
  refine w_env [(1, .slc 6 0 f.length none), (3, .ptr 7 0 0), (9, .slc 9 0 ((flowL c f m i).length) none), (10, .val (.int .i64 ((i : Nat) : Int))), (11, .val (.int .i64 (f.getD i 0))), (12, .val (.int .i64 (mostOf c i))), (35, .slc 6 0 f.length none), (36, .val (.int .i64 ((f.length : Nat) : Int))), (37, .val (.int .i64 ((i : Nat) : Int))), (38, .val (.bool (decide (((i : Nat) : Int) < ((f.length : Nat) : Int))))), (39, .val (.int .i64 ((i : Nat) : Int))), (40, .ptr 6 i 0), (41, .val (.int .i64 (f.getD i 0))), (42, .ptr 7 0 6), (43, .slc 3 0 c.Cap.length none), (44, .val (.int .i64 ((i : Nat) : Int))), (45, .ptr 3 i 0), (46, .val (.int .i64 (c.Cap.getD i 0))), (47, .ptr 7 0 6), (48, .slc 3 0 c.Cap.length none), (49, .ptr 7 0 5), (50, .slc 2 0 c.Rev.length none), (51, .val (.int .i64 ((i : Nat) : Int))), (52, .ptr 2 i 0), (53, .val (.int .i64 (c.Rev.getD i 0))), (54, .ptr 3 ((c.Rev.getD i 0).toNat) 0), (55, .val (.int .i64 (c.Cap.getD ((c.Rev.getD i 0).toNat) 0))), (56, .val (.int .i64 (mostOf c i)))] ⟨⟨_, rfl, rfl⟩, ⟨_, rfl, rfl⟩, ⟨_, rfl, rfl⟩, ⟨_, rfl, rfl⟩, ⟨_, rfl, rfl⟩, ⟨_, rfl, rfl⟩, ⟨_, rfl, rfl⟩, ⟨_, rfl, rfl⟩, ⟨_, rfl, rfl⟩, ⟨_, rfl, rfl⟩, ⟨_, rfl, rfl⟩, ⟨_, rfl, rfl⟩, ⟨_, rfl, rfl⟩, ⟨_, rfl, rfl⟩, ⟨_, rfl, rfl⟩, ⟨_, rfl, rfl⟩, ⟨_, rfl, rfl⟩, ⟨_, rfl, rfl⟩, ⟨_, rfl, rfl⟩, ⟨_, rfl, rfl⟩, ⟨_, rfl, rfl⟩, ⟨_, rfl, rfl⟩, ⟨_, rfl, rfl⟩, ⟨_, rfl, rfl⟩, ⟨_, rfl, rfl⟩, ⟨_, rfl, rfl⟩, ⟨_, rfl, rfl⟩, ⟨_, rfl, rfl⟩, trivial⟩ ?_
  refine w_seqB 57 ((((f.getD i 0) < 0 ∨ (f.getD i 0) > mostOf c i) ∨ (f.getD ((c.Rev.getD i 0).toNat) 0) ≠ (mostOf c i - (f.getD i 0)))) ?_ ?_
  · -- region 9
    refine w_region ?_
    refine rw_t 58 rfl rfl rfl (do_move rfl ?_)
    refine rw_t 59 rfl rfl rfl (do_bin rfl rfl rfl ?_)
    refine rw_t 60 rfl rfl rfl (do_move rfl ?_)
    refine rw_case 60 rfl (fun g4 => ?_) (fun g4 => ?_)
    · have kg4 := g4
      try simp only [bs] at kg4
      refine rw_gf 61 2 60 false rfl rfl rfl rfl rfl rfl (by rw [g4]; decide) ?_
      refine rw_gf 62 2 60 false rfl rfl rfl rfl rfl rfl (by rw [g4]; decide) ?_
      refine rw_gf 63 2 60 false rfl rfl rfl rfl rfl rfl (by rw [g4]; decide) ?_
      refine rw_t 64 rfl rfl rfl (do_pick_t rfl g4 rfl ?_)
      refine rw_t 65 rfl rfl rfl (do_move rfl ?_)
      refine rw_gf 66 7 65 false rfl rfl rfl rfl rfl rfl (by decide) ?_
      refine rw_gf 67 7 65 false rfl rfl rfl rfl rfl rfl (by decide) ?_
      refine rw_gf 68 7 65 false rfl rfl rfl rfl rfl rfl (by decide) ?_
      refine rw_gf 69 7 65 false rfl rfl rfl rfl rfl rfl (by decide) ?_
      refine rw_gf 70 7 65 false rfl rfl rfl rfl rfl rfl (by decide) ?_
      refine rw_gf 71 7 65 false rfl rfl rfl rfl rfl rfl (by decide) ?_
      refine rw_gf 72 7 65 false rfl rfl rfl rfl rfl rfl (by decide) ?_
      refine rw_gf 73 7 65 false rfl rfl rfl rfl rfl rfl (by decide) ?_
      refine rw_gf 74 7 65 false rfl rfl rfl rfl rfl rfl (by decide) ?_
      refine rw_gf 75 7 65 false rfl rfl rfl rfl rfl rfl (by decide) ?_
      refine rw_gf 76 7 65 false rfl rfl rfl rfl rfl rfl (by decide) ?_
      refine rw_gf 77 7 65 false rfl rfl rfl rfl rfl rfl (by decide) ?_
      refine rw_t 78 rfl rfl rfl (do_pick_t rfl rfl rfl ?_)
      refine rw_t 57 rfl rfl rfl (do_assign rfl ?_)
      refine rw_nil ?_
      refine ⟨rfl, ⟨_, rfl, by first | (simp; done) | (simp only [bs]; omega) | (simp [*]; done) | (simp; omega) | (constructor <;> intro h <;> simp_all <;> omega)⟩, ?_⟩
      repeat (refine ⟨⟨_, rfl, rfl⟩, ?_⟩)
      exact trivial
    · have kg4 := g4
      try simp only [bs] at kg4
      refine rw_gt 61 2 60 false rfl rfl rfl rfl rfl rfl g4 (do_move rfl ?_)
      refine rw_gt 62 2 60 false rfl rfl rfl rfl rfl rfl g4 (do_move rfl ?_)
      refine rw_gt 63 2 60 false rfl rfl rfl rfl rfl rfl g4 (do_bin rfl rfl rfl ?_)
      refine rw_t 64 rfl rfl rfl (do_pick_f rfl g4 rfl ?_)
      refine rw_t 65 rfl rfl rfl (do_move rfl ?_)
      refine rw_case 65 rfl (fun g5 => ?_) (fun g5 => ?_)
      · have kg5 := g5
        try simp only [bs] at kg5
        refine rw_gf 66 7 65 false rfl rfl rfl rfl rfl rfl (by rw [g5]; decide) ?_
        refine rw_gf 67 7 65 false rfl rfl rfl rfl rfl rfl (by rw [g5]; decide) ?_
        refine rw_gf 68 7 65 false rfl rfl rfl rfl rfl rfl (by rw [g5]; decide) ?_
        refine rw_gf 69 7 65 false rfl rfl rfl rfl rfl rfl (by rw [g5]; decide) ?_
        refine rw_gf 70 7 65 false rfl rfl rfl rfl rfl rfl (by rw [g5]; decide) ?_
        refine rw_gf 71 7 65 false rfl rfl rfl rfl rfl rfl (by rw [g5]; decide) ?_
        refine rw_gf 72 7 65 false rfl rfl rfl rfl rfl rfl (by rw [g5]; decide) ?_
        refine rw_gf 73 7 65 false rfl rfl rfl rfl rfl rfl (by rw [g5]; decide) ?_
        refine rw_gf 74 7 65 false rfl rfl rfl rfl rfl rfl (by rw [g5]; decide) ?_
        refine rw_gf 75 7 65 false rfl rfl rfl rfl rfl rfl (by rw [g5]; decide) ?_
        refine rw_gf 76 7 65 false rfl rfl rfl rfl rfl rfl (by rw [g5]; decide) ?_
        refine rw_gf 77 7 65 false rfl rfl rfl rfl rfl rfl (by rw [g5]; decide) ?_
        refine rw_t 78 rfl rfl rfl (do_pick_t rfl g5 rfl ?_)
        refine rw_t 57 rfl rfl rfl (do_assign rfl ?_)
        refine rw_nil ?_
        refine ⟨rfl, ⟨_, rfl, by first | (simp; done) | (simp only [bs]; omega) | (simp [*]; done) | (simp; omega) | (constructor <;> intro h <;> simp_all <;> omega)⟩, ?_⟩
        repeat (refine ⟨⟨_, rfl, rfl⟩, ?_⟩)
        exact trivial
      · have kg5 := g5
        try simp only [bs] at kg5
        refine rw_gt 66 7 65 false rfl rfl rfl rfl rfl rfl g5 (do_move rfl ?_)
        refine rw_gt 67 7 65 false rfl rfl rfl rfl rfl rfl g5 (do_fieldaddr rfl ?_)
        refine rw_gt 68 7 65 false rfl rfl rfl rfl rfl rfl g5 (do_load_box rfl rfl rfl ?_)
        refine rw_gt 69 7 65 false rfl rfl rfl rfl rfl rfl g5 (do_move rfl ?_)
        refine rw_gt 70 7 65 false rfl rfl rfl rfl rfl rfl g5 (do_ixn rfl rfl rfl (by first | omega | (simp only [ls] <;> omega)) ?_)
        refine rw_gt 71 7 65 false rfl rfl rfl rfl rfl rfl g5 (do_load_arr rfl rfl (by first | omega | (simp only [ls] <;> omega)) rfl ?_)
        refine rw_gt 72 7 65 false rfl rfl rfl rfl rfl rfl g5 (do_ix0 rfl rfl rfl (by first | omega | (simp only [ls] <;> omega)) ?_)
        refine rw_gt 73 7 65 false rfl rfl rfl rfl rfl rfl g5 (do_load_arr rfl rfl (by first | omega | (simp only [ls] <;> omega)) rfl ?_)
        refine rw_gt 74 7 65 false rfl rfl rfl rfl rfl rfl g5 (do_move rfl ?_)
        refine rw_gt 75 7 65 false rfl rfl rfl rfl rfl rfl g5 (do_move rfl ?_)
        refine rw_gt 76 7 65 false rfl rfl rfl rfl rfl rfl g5 (do_sub rfl rfl (by omega) ?_)
        refine rw_gt 77 7 65 false rfl rfl rfl rfl rfl rfl g5 (do_bin rfl rfl rfl ?_)
        refine rw_t 78 rfl rfl rfl (do_pick_f rfl g5 rfl ?_)
        refine rw_t 57 rfl rfl rfl (do_assign rfl ?_)
        refine rw_nil ?_
        refine ⟨rfl, ⟨_, rfl, by first | (simp; done) | (simp only [bs]; omega) | (simp [*]; done) | (simp; omega) | (constructor <;> intro h <;> simp_all <;> omega)⟩, ?_⟩
        repeat (refine ⟨⟨_, rfl, rfl⟩, ?_⟩)
        exact trivial
  intro b2 hb2
  refine w_condP hb2 rfl (fun hc3 => ?_) (fun hc3 => ?_)
  · refine w_seq ?_
    -- region 10
    refine w_region ?_
    refine rw_t 6 rfl rfl rfl (do_assign rfl ?_)
    refine rw_t 7 rfl rfl rfl (do_assign rfl ?_)
    refine rw_nil ?_
    have hno : ¬ pairsP c f := fun q => by have := q i (by omega); omega
    have e1 : flowR c f m = ([], 20) := by unfold flowR; rw [if_pos hfl, if_neg hno]
    refine n_ghost Int 1 (encI .i64) 0 (fun _ => rfl) (fun _ _ h => by simp [encI] at h; subst h; rfl) ?_
    refine w_nilE 6 10 0 rfl ?_
    refine w_ret ?_
    exact ret_eq (.inl rfl) (.cons (res_tmp rfl) (.cons (res_tmp rfl) .nil)) [0, 1, 2, 3, 4, 5, 6, 10] (by rw [e1]; rfl) ⟨.inr ⟨_, rfl, .inl rfl⟩, .inr ⟨_, rfl, .inl rfl⟩, .inr ⟨_, rfl, .inl rfl⟩, .inr ⟨_, rfl, .inl rfl⟩, .inr ⟨_, rfl, .inl rfl⟩, .inr ⟨_, rfl, .inl rfl⟩, .inr ⟨_, rfl, .inl rfl⟩, .inr ⟨_, rfl, .inl (congrArg (SO.ints true .i64) (by rw [e1]; try rfl))⟩, trivial⟩ rfl (pre_ok rfl)
  refine w_seq ?_
  -- region 11
  refine w_region ?_
  refine rw_t 80 rfl rfl rfl (do_fieldaddr rfl ?_)
  refine rw_t 81 rfl rfl rfl (do_load_box rfl rfl rfl ?_)
  refine rw_t 82 rfl rfl rfl (do_move rfl ?_)
  refine rw_t 83 rfl rfl rfl (do_ixn rfl rfl rfl (by first | omega | (simp only [ls] <;> omega)) ?_)
  refine rw_t 84 rfl rfl rfl (do_load_arr rfl rfl (by first | omega | (simp only [ls] <;> omega)) rfl ?_)
  refine rw_t 79 rfl rfl rfl (do_assign rfl ?_)
  refine rw_nil ?_
  refine w_cond rfl (fun hc4 => ?_) (fun hc4 => ?_)
  all_goals try simp only [bs] at hc4
  · -- region 12
    refine w_region ?_
    refine rw_t 85 rfl rfl rfl (do_move rfl ?_)
    refine rw_t 86 rfl rfl rfl (do_fieldaddr rfl ?_)
    refine rw_t 87 rfl rfl rfl (do_load_box rfl rfl rfl ?_)
    refine rw_t 88 rfl rfl rfl (do_move rfl ?_)
    refine rw_t 89 rfl rfl rfl (do_ixn rfl rfl rfl (by first | omega | (simp only [ls] <;> omega)) ?_)
    refine rw_t 90 rfl rfl rfl (do_load_arr rfl rfl (by first | omega | (simp only [ls] <;> omega)) rfl ?_)
    refine rw_t 91 rfl rfl rfl (do_move rfl ?_)
    refine rw_t 92 rfl rfl rfl (do_ix0 rfl rfl rfl (by first | omega | (simp only [ls] <;> omega)) ?_)
    refine rw_u rfl rfl (n_store_arr (z := (f.getD i 0)) rfl rfl rfl (by first | omega | (simp only [ls] <;> omega)) rfl (by decide) rfl ?_)
    refine rw_nil ?_
    -- region 13
    refine w_region ?_
    refine rw_t 93 rfl rfl rfl (do_add rfl rfl (by omega) ?_)
    refine rw_t 37 rfl rfl rfl (do_move rfl ?_)
    refine rw_nil ?_
    refine ⟨i + 1, [0, 1, 2, 3, 4, 5, 6, 7, 8, 9], by dsimp only; omega, ⟨by omega, fun a ha' => by rcases Nat.lt_or_ge a i with q | q; exact g2 a q; have : a = i := (by omega); subst this; omega⟩, ⟨.inr ⟨_, rfl, .inl rfl⟩, .inr ⟨_, rfl, .inl rfl⟩, .inr ⟨_, rfl, .inl rfl⟩, .inr ⟨_, rfl, .inl rfl⟩, .inr ⟨_, rfl, .inl rfl⟩, .inr ⟨_, rfl, .inl rfl⟩, .inr ⟨_, rfl, .inl rfl⟩, .inr ⟨_, rfl, .inl rfl⟩, .inr ⟨_, rfl, .inl rfl⟩, .inr ⟨_, rfl, .inl (congrArg (SO.ints true .i64) (by simp only [flowL]; rw [if_pos hc4]))⟩, trivial⟩, rfl, pre_ok rfl, ⟨⟨_, rfl, rfl⟩, ⟨_, rfl, rfl⟩, ⟨_, rfl, (congrArg (fun n => SV.slc 9 0 n none) ((flowL_len c f m i).trans (flowL_len c f m (i + 1)).symm)).trans rfl⟩, ⟨_, rfl, rfl⟩, ⟨_, rfl, rfl⟩, ⟨_, rfl, rfl⟩, trivial⟩⟩
  · refine w_skip ?_
    -- region 13
    refine w_region ?_
    refine rw_t 93 rfl rfl rfl (do_add rfl rfl (by omega) ?_)
    refine rw_t 37 rfl rfl rfl (do_move rfl ?_)
    refine rw_nil ?_
    refine ⟨i + 1, [0, 1, 2, 3, 4, 5, 6, 7, 8, 9], by dsimp only; omega, ⟨by omega, fun a ha' => by rcases Nat.lt_or_ge a i with q | q; exact g2 a q; have : a = i := (by omega); subst this; omega⟩, ⟨.inr ⟨_, rfl, .inl rfl⟩, .inr ⟨_, rfl, .inl rfl⟩, .inr ⟨_, rfl, .inl rfl⟩, .inr ⟨_, rfl, .inl rfl⟩, .inr ⟨_, rfl, .inl rfl⟩, .inr ⟨_, rfl, .inl rfl⟩, .inr ⟨_, rfl, .inl rfl⟩, .inr ⟨_, rfl, .inl rfl⟩, .inr ⟨_, rfl, .inl rfl⟩, .inr ⟨_, rfl, .inl (congrArg (SO.ints true .i64) (by simp only [flowL]; rw [if_neg (by rw [hc4]; decide)]))⟩, trivial⟩, rfl, pre_ok rfl, ⟨⟨_, rfl, rfl⟩, ⟨_, rfl, rfl⟩, ⟨_, rfl, (congrArg (fun n => SV.slc 9 0 n none) ((flowL_len c f m i).trans (flowL_len c f m (i + 1)).symm)).trans rfl⟩, ⟨_, rfl, rfl⟩, ⟨_, rfl, rfl⟩, ⟨_, rfl, rfl⟩, trivial⟩⟩
end Go.Proofs

set_option linter.unusedVariables false
set_option linter.unusedSimpArgs false
namespace Go.Proofs
open Go Go.Sx Go.RowKit
def ArcIn (c : Csr) : Prop := ∀ k : Nat, k < c.Arc.length → 0 ≤ c.Arc.getD k 0 ∧ c.Arc.getD k 0 < 16384
def topK (c : Csr) : Nat → Int
  | 0 => 0
  | k + 1 => if c.Arc.getD k 0 + 1 > topK c k then c.Arc.getD k 0 + 1 else topK c k
def topA (c : Csr) : Int := topK c c.Arc.length
theorem topK_in {c : Csr} (h : ArcIn c) : ∀ k, k ≤ c.Arc.length → (0 ≤ topK c k ∧ topK c k ≤ 16384) ∧ ∀ j, j < k → c.Arc.getD j 0 < topK c k
  | 0, _ => ⟨by simp [topK], fun j hj => by omega⟩
  | k + 1, hk => by
    obtain ⟨i1, i2⟩ := topK_in h k (by omega)
    have h1 := h k (by omega)
    unfold topK
    split
    · refine ⟨by omega, fun j hj => ?_⟩
      rcases Nat.lt_or_ge j k with q | q
      · have := i2 j q; omega
      · have : j = k := by omega
        subst this; omega
    · refine ⟨i1, fun j hj => ?_⟩
      rcases Nat.lt_or_ge j k with q | q
      · exact i2 j q
      · have : j = k := by omega
        subst this; omega
/-- The excesses that a flow says, arc by arc. -/
def bK (c : Csr) (f : List Int) : Nat → List Int
  | 0 => List.replicate c.N.toNat 0
  | k + 1 => if c.Back.getD k false = true then bK c f k else subAt (addAt (bK c f k) (c.Head.getD k 0) (f.getD (c.Arc.getD k 0).toNat 0)) (c.Head.getD (c.Rev.getD k 0).toNat 0) (f.getD (c.Arc.getD k 0).toNat 0)
theorem bK_len (c : Csr) (f : List Int) : ∀ k, (bK c f k).length = c.N.toNat
  | 0 => by simp [bK]
  | k + 1 => by
    unfold bK
    split
    · exact bK_len c f k
    · simp only [subAt, addAt, List.length_set]; exact bK_len c f k
theorem getD_set_le (l : List Int) (i j : Nat) (x : Int) : (l.set i x).getD j 0 = x ∨ (l.set i x).getD j 0 = l.getD j 0 := by
  simp only [List.getD, List.getElem?_set]
  split
  · split
    · exact .inl rfl
    · rename_i h1 h2; right; rw [List.getElem?_eq_none (by omega)]
  · exact .inr rfl
theorem bK_in {c : Csr} {f : List Int} (hf : ∀ j, 0 ≤ f.getD j 0 ∧ f.getD j 0 ≤ 1125899906842624) : ∀ (k v : Nat), -(k * 2251799813685248 : Int) ≤ (bK c f k).getD v 0 ∧ (bK c f k).getD v 0 ≤ k * 2251799813685248
  | 0, v => by
    have : (bK c f 0).getD v 0 = 0 := by
      simp only [bK, List.getD, List.getElem?_replicate]
      split <;> rfl
    rw [this]; omega
  | k + 1, v => by
    have h0 := hf (c.Arc.getD k 0).toNat
    have i1 := bK_in (c := c) hf k v
    have i2 := bK_in (c := c) hf k (c.Head.getD k 0).toNat
    have i3 := bK_in (c := c) hf k (c.Head.getD (c.Rev.getD k 0).toNat 0).toNat
    unfold bK
    split
    · omega
    · unfold subAt addAt
      rcases getD_set_le (bK c f k) (c.Head.getD k 0).toNat (c.Head.getD (c.Rev.getD k 0).toNat 0).toNat ((bK c f k).getD (c.Head.getD k 0).toNat 0 + f.getD (c.Arc.getD k 0).toNat 0) with e1 | e1 <;>
      rcases getD_set_le ((bK c f k).set (c.Head.getD k 0).toNat ((bK c f k).getD (c.Head.getD k 0).toNat 0 + f.getD (c.Arc.getD k 0).toNat 0)) (c.Head.getD (c.Rev.getD k 0).toNat 0).toNat v (((bK c f k).set (c.Head.getD k 0).toNat ((bK c f k).getD (c.Head.getD k 0).toNat 0 + f.getD (c.Arc.getD k 0).toNat 0)).getD (c.Head.getD (c.Rev.getD k 0).toNat 0).toNat 0 - f.getD (c.Arc.getD k 0).toNat 0) with e2 | e2 <;>
      rcases getD_set_le (bK c f k) (c.Head.getD k 0).toNat v ((bK c f k).getD (c.Head.getD k 0).toNat 0 + f.getD (c.Arc.getD k 0).toNat 0) with e3 | e3 <;>
      rw [e2] <;> (try rw [e1]) <;> (try rw [e3]) <;> omega
theorem flowL_in {c : Csr} {f : List Int} {m M : Int} (hM : 0 ≤ M) (hf : ∀ j, j < c.Head.length → 0 ≤ f.getD j 0 ∧ f.getD j 0 ≤ M) : ∀ k, k ≤ c.Head.length → ∀ j, 0 ≤ (flowL c f m k).getD j 0 ∧ (flowL c f m k).getD j 0 ≤ M
  | 0, _, j => by
    have : (flowL c f m 0).getD j 0 = 0 := by
      simp only [flowL, List.getD, List.getElem?_replicate]
      split <;> rfl
    rw [this]; omega
  | k + 1, hk, j => by
    have i1 := flowL_in (m := m) hM hf k (by omega) j
    have h1 := hf k (by omega)
    unfold flowL
    split
    · rcases getD_set_le (flowL c f m k) (c.Arc.getD k 0).toNat j (f.getD k 0) with e | e <;> rw [e] <;> omega
    · exact i1
def broR (c : Csr) (res : List Int) : List Int × Bool :=
  if res.length = c.Head.length ∧ pairsP c res then (bK c (flowR c res (topA c)).1 c.Back.length, true) else ([], false)
-- f47 "acequia/pre.brought"
set_option maxHeartbeats 8000000 in
set_option synthInstance.maxHeartbeats 400000 in
set_option synthInstance.maxSize 2000 in
theorem t_brought (c : Csr) (f : List Int) (h : CsrT c) (ho : CapOne c) (hai : ArcIn c) : Tri Try.prog 47 [.agg [.val (.int .i64 c.N), .val (.int .i64 c.S), .val (.int .i64 c.T), .slc 0 0 c.First.length none, .slc 1 0 c.Head.length none, .slc 2 0 c.Rev.length none, .slc 3 0 c.Cap.length none, .slc 4 0 c.Arc.length none, .slc 5 0 c.Back.length none], .slc 6 0 f.length none] [SO.ints false .i64 c.First, SO.ints false .i64 c.Head, SO.ints false .i64 c.Rev, SO.ints false .i64 c.Cap, SO.ints false .i64 c.Arc, SO.bools false c.Back, SO.ints false .i64 f] (fun s H => s = .tup [.slc 7 0 ((broR c f).1.length) none, .val (.bool ((broR c f).2))] ∧ H = [SO.ints false .i64 c.First, SO.ints false .i64 c.Head, SO.ints false .i64 c.Rev, SO.ints false .i64 c.Cap, SO.ints false .i64 c.Arc, SO.bools false c.Back, SO.ints false .i64 f, SO.ints true .i64 ((broR c f).1)]) := by
  refine tri_of_w (fn := Try.f47) Try.func47 rfl (by simp [Try.f47]) ?_
  intro ρ w hρ
  refine w_seq ?_
  have hn := h.n
  have hf := h.first
  have hhd := h.head
  have hrl := h.rev
  have hcl := h.cap
  have hal := h.arc
  have hbl := h.back
  have hsm := h.small
  -- region 0
  refine w_region ?_
  refine rw_t 2 rfl rfl rfl (n_box_agg (n := 7) rfl rfl ?_)
  refine rw_t 4 rfl rfl rfl (do_assign rfl ?_)
  refine rw_t 5 rfl rfl rfl (do_assign rfl ?_)
  refine rw_nil ?_
  refine w_seq ?_
  -- region 1
  refine w_region ?_
  refine rw_t 6 rfl rfl rfl (do_assign rfl ?_)
  refine rw_nil ?_
  refine w_seq ?_
  refine w_seq ?_
  -- region 2
  refine w_region ?_
  refine rw_t 14 rfl rfl rfl (do_fieldaddr rfl ?_)
  refine rw_t 15 rfl rfl rfl (do_load_box rfl rfl rfl ?_)
  refine rw_t 16 rfl rfl rfl (do_len rfl ?_)
  refine rw_t 17 rfl rfl rfl (do_move rfl ?_)
  refine rw_nil ?_
  refine w_block ?_
  refine w_loopS (ι := Nat) (fun i => [(1, .slc 6 0 f.length none), (2, .ptr 7 0 0), (4, .val (.slice none 0 0)), (5, .val (.bool false)), (6, .val (.int .i64 (topK c i))), (15, .slc 4 0 c.Arc.length none), (16, .val (.int .i64 ((c.Arc.length : Nat) : Int))), (17, .val (.int .i64 ((i : Nat) : Int)))]) (fun i => [SO.ints false .i64 c.First, SO.ints false .i64 c.Head, SO.ints false .i64 c.Rev, SO.ints false .i64 c.Cap, SO.ints false .i64 c.Arc, SO.bools false c.Back, SO.ints false .i64 f, .box [.val (.int .i64 c.N), .val (.int .i64 c.S), .val (.int .i64 c.T), .slc 0 0 c.First.length none, .slc 1 0 c.Head.length none, .slc 2 0 c.Rev.length none, .slc 3 0 c.Cap.length none, .slc 4 0 c.Arc.length none, .slc 5 0 c.Back.length none]]) (fun i => c.Arc.length - i) (fun i => i ≤ c.Arc.length) (0) [0, 1, 2, 3, 4, 5, 6, 7] (by simp) ⟨.inr ⟨_, rfl, .inl rfl⟩, .inr ⟨_, rfl, .inl rfl⟩, .inr ⟨_, rfl, .inl rfl⟩, .inr ⟨_, rfl, .inl rfl⟩, .inr ⟨_, rfl, .inl rfl⟩, .inr ⟨_, rfl, .inl rfl⟩, .inr ⟨_, rfl, .inl rfl⟩, .inr ⟨_, rfl, .inl rfl⟩, trivial⟩ rfl (pre_ok rfl) hρ ⟨⟨_, rfl, rfl⟩, ⟨_, rfl, rfl⟩, ⟨_, rfl, rfl⟩, ⟨_, rfl, rfl⟩, ⟨_, rfl, rfl⟩, ⟨_, rfl, rfl⟩, ⟨_, rfl, rfl⟩, ⟨_, rfl, rfl⟩, trivial⟩ ?_
  intro i hi
  refine w_seq ?_
  -- region 3
  refine w_region ?_
  refine rw_t 18 rfl rfl rfl (do_bin rfl rfl rfl ?_)
  refine rw_nil ?_
  refine w_seq ?_
  refine w_cond rfl (fun hc1 => ?_) (fun hc1 => ?_)
  all_goals try simp only [bs] at hc1
  rotate_left
  · refine w_exit ?_ -- exit 0
    refine w_seq ?_
    have hil : i = c.Arc.length := by omega
    subst hil
    obtain ⟨ht1, ht2⟩ := topK_in hai c.Arc.length (Nat.le_refl _)
    -- region 7
    refine w_region ?_
    refine rw_t 27 rfl rfl rfl (n_load_boxagg [_, _, _, _, _, _, _, _, _] rfl rfl (Nat.le_of_ble_eq_true rfl) rfl ?_)
    refine rw_t 28 rfl rfl rfl (do_move rfl ?_)
    refine rw_t 29 rfl rfl rfl (do_move rfl ?_)
    refine rw_t 30 rfl rfl rfl (n_callN (X' := .tup [.slc 8 0 ((flowR c f (topA c)).1.length) none, .val (.int .i64 ((flowR c f (topA c)).2))]) (N' := [SO.ints true .i64 ((flowR c f (topA c)).1)]) rfl rfl (t_Flow (c := c) (f := f) (m := (topA c)) (h) (ho) (ht1) (fun k hk => ⟨(hai k hk).1, ht2 k hk⟩)) [0, 1, 2, 3, 4, 5, 6] ⟨.inr ⟨_, rfl, srv⟩, .inr ⟨_, rfl, srv⟩, .inr ⟨_, rfl, srv⟩, .inr ⟨_, rfl, srv⟩, .inr ⟨_, rfl, srv⟩, .inr ⟨_, rfl, srv⟩, .inr ⟨_, rfl, srv⟩, trivial⟩ rfl rfl rfl rfl rfl ?_)
    refine rw_t 26 rfl rfl rfl (do_move rfl ?_)
    refine rw_t 31 rfl rfl rfl (do_extract rfl rfl ?_)
    refine rw_t 32 rfl rfl rfl (do_extract rfl rfl ?_)
    refine rw_t 9 rfl rfl rfl (do_assign rfl ?_)
    refine rw_t 10 rfl rfl rfl (do_assign rfl ?_)
    refine rw_nil ?_
    refine w_seq ?_
    refine w_seq ?_
    -- region 8
    refine w_region ?_
    refine rw_t 33 rfl rfl rfl (do_move rfl ?_)
    refine rw_t 34 rfl rfl rfl (do_bin rfl rfl rfl ?_)
    refine rw_nil ?_
    refine w_cond rfl (fun hc2 => ?_) (fun hc2 => ?_)
    all_goals try simp only [bs] at hc2
    · refine w_seq ?_
      -- region 9
      refine w_region ?_
      refine rw_t 4 rfl rfl rfl (do_assign rfl ?_)
      refine rw_t 5 rfl rfl rfl (do_assign rfl ?_)
      refine rw_nil ?_
      have hno : ¬ (f.length = c.Head.length ∧ pairsP c f) := fun q => hc2 (by unfold flowR; rw [if_pos q.1, if_pos q.2])
      have e1 : broR c f = ([], false) := by unfold broR; rw [if_neg hno]
      refine n_ghost Int 1 (encI .i64) 0 (fun _ => rfl) (fun _ _ h => by simp [encI] at h; subst h; rfl) ?_
      refine w_nilE 4 9 0 rfl ?_
      refine w_ret ?_
      exact ret_eq (.inl rfl) (.cons (res_tmp rfl) (.cons (res_tmp rfl) .nil)) [0, 1, 2, 3, 4, 5, 6, 9] (by rw [e1]; rfl) ⟨.inr ⟨_, rfl, .inl rfl⟩, .inr ⟨_, rfl, .inl rfl⟩, .inr ⟨_, rfl, .inl rfl⟩, .inr ⟨_, rfl, .inl rfl⟩, .inr ⟨_, rfl, .inl rfl⟩, .inr ⟨_, rfl, .inl rfl⟩, .inr ⟨_, rfl, .inl rfl⟩, .inr ⟨_, rfl, .inl (congrArg (SO.ints true .i64) (by rw [e1]; try rfl))⟩, trivial⟩ rfl (pre_ok rfl)
    refine w_skip ?_
    refine w_seq ?_
    have hfo : f.length = c.Head.length ∧ pairsP c f := by
      by_cases q1 : f.length = c.Head.length
      · by_cases q2 : pairsP c f
        · exact ⟨q1, q2⟩
        · exfalso; unfold flowR at hc2; rw [if_pos q1, if_neg q2] at hc2; simp at hc2
      · exfalso; unfold flowR at hc2; rw [if_neg q1] at hc2; simp at hc2
    have hFe : (flowR c f (topA c)).1 = flowL c f (topA c) c.Head.length := by unfold flowR; rw [if_pos hfo.1, if_pos hfo.2]
    have hFl : (flowR c f (topA c)).1.length = (topA c).toNat := by rw [hFe]; exact flowL_len _ _ _ _
    have hFi : ∀ j, 0 ≤ (flowR c f (topA c)).1.getD j 0 ∧ (flowR c f (topA c)).1.getD j 0 ≤ 1125899906842624 := by rw [hFe]; exact flowL_in (by omega) (fun j hj => by have := hfo.2 j hj; have := h.capv j hj; omega) _ (Nat.le_refl _)
    -- region 10
    refine w_region ?_
    refine rw_t 35 rfl rfl rfl (do_fieldaddr rfl ?_)
    refine rw_t 36 rfl rfl rfl (do_load_box rfl rfl rfl ?_)
    refine rw_t 37 rfl rfl rfl (n_make (nm := 9) Int (encI .i64) 0 rfl rfl rfl (fun _ => rfl) (fun _ _ h => by simp [encI] at h; subst h; rfl) (by omega) (by omega) (by omega) rfl ?_)
    refine rw_cap 37 rfl ?_
    refine rw_t 11 rfl rfl rfl (do_assign rfl ?_)
    refine rw_nil ?_
    refine w_seq ?_
    refine w_seq ?_
    -- region 11
    refine w_region ?_
    refine rw_t 38 rfl rfl rfl (do_fieldaddr rfl ?_)
    refine rw_t 39 rfl rfl rfl (do_load_box rfl rfl rfl ?_)
    refine rw_t 40 rfl rfl rfl (do_len rfl ?_)
    refine rw_t 41 rfl rfl rfl (do_move rfl ?_)
    refine rw_nil ?_
    refine w_block ?_
    refine w_loopS (ι := Nat) (fun j => [(2, .ptr 7 0 0), (4, .val (.slice none 0 0)), (5, .val (.bool false)), (9, .slc 8 0 ((flowR c f (topA c)).1.length) none), (11, .slc 9 0 ((bK c (flowR c f (topA c)).1 j).length) none), (39, .slc 5 0 c.Back.length none), (40, .val (.int .i64 ((c.Back.length : Nat) : Int))), (41, .val (.int .i64 ((j : Nat) : Int)))]) (fun j => [SO.ints false .i64 c.First, SO.ints false .i64 c.Head, SO.ints false .i64 c.Rev, SO.ints false .i64 c.Cap, SO.ints false .i64 c.Arc, SO.bools false c.Back, SO.ints false .i64 f, .box [.val (.int .i64 c.N), .val (.int .i64 c.S), .val (.int .i64 c.T), .slc 0 0 c.First.length none, .slc 1 0 c.Head.length none, .slc 2 0 c.Rev.length none, .slc 3 0 c.Cap.length none, .slc 4 0 c.Arc.length none, .slc 5 0 c.Back.length none], SO.ints true .i64 ((flowR c f (topA c)).1), SO.ints true .i64 (bK c (flowR c f (topA c)).1 j)]) (fun j => c.Back.length - j) (fun j => j ≤ c.Back.length) (0) [0, 1, 2, 3, 4, 5, 6, 7, 8, 9] (by simp) ⟨.inr ⟨_, rfl, .inl rfl⟩, .inr ⟨_, rfl, .inl rfl⟩, .inr ⟨_, rfl, .inl rfl⟩, .inr ⟨_, rfl, .inl rfl⟩, .inr ⟨_, rfl, .inl rfl⟩, .inr ⟨_, rfl, .inl rfl⟩, .inr ⟨_, rfl, .inl rfl⟩, .inr ⟨_, rfl, .inl rfl⟩, .inr ⟨_, rfl, .inl rfl⟩, .inr ⟨_, rfl, .inl rfl⟩, trivial⟩ rfl (pre_ok rfl) hρ ⟨⟨_, rfl, rfl⟩, ⟨_, rfl, rfl⟩, ⟨_, rfl, rfl⟩, ⟨_, rfl, rfl⟩, ⟨_, rfl, congrArg (fun n => SV.slc 9 0 n none) (by simp [bK])⟩, ⟨_, rfl, rfl⟩, ⟨_, rfl, rfl⟩, ⟨_, rfl, rfl⟩, trivial⟩ ?_
    intro j hj
    refine w_seq ?_
    -- region 12
    refine w_region ?_
    refine rw_t 42 rfl rfl rfl (do_bin rfl rfl rfl ?_)
    refine rw_nil ?_
    refine w_seq ?_
    refine w_cond rfl (fun hc3 => ?_) (fun hc3 => ?_)
    all_goals try simp only [bs] at hc3
    rotate_left
    · refine w_exit ?_ -- exit 2
      refine w_seq ?_
      -- region 18
      refine w_region ?_
      refine rw_t 89 rfl rfl rfl (do_move rfl ?_)
      refine rw_t 4 rfl rfl rfl (do_assign rfl ?_)
      refine rw_t 5 rfl rfl rfl (do_assign rfl ?_)
      refine rw_nil ?_
      have hj' : j = c.Back.length := by omega
      subst hj'
      have e1 : broR c f = (bK c (flowR c f (topA c)).1 c.Back.length, true) := by unfold broR; rw [if_pos hfo]
      refine w_ret ?_
      exact ret_eq (.inl rfl) (.cons (res_tmp rfl) (.cons (res_tmp rfl) .nil)) [0, 1, 2, 3, 4, 5, 6, 9] (by rw [e1]; rfl) ⟨.inr ⟨_, rfl, .inl rfl⟩, .inr ⟨_, rfl, .inl rfl⟩, .inr ⟨_, rfl, .inl rfl⟩, .inr ⟨_, rfl, .inl rfl⟩, .inr ⟨_, rfl, .inl rfl⟩, .inr ⟨_, rfl, .inl rfl⟩, .inr ⟨_, rfl, .inl rfl⟩, .inr ⟨_, rfl, .inl (congrArg (SO.ints true .i64) (by rw [e1]; try rfl))⟩, trivial⟩ rfl (pre_ok rfl)
    refine w_skip ?_
    refine w_seq ?_
    refine w_block ?_
    refine w_seq ?_
    -- region 13
    refine w_region ?_
    refine rw_t 43 rfl rfl rfl (do_move rfl ?_)
    refine rw_t 44 rfl rfl rfl (do_ixn rfl rfl rfl (by first | omega | (simp only [ls] <;> omega)) ?_)
    refine rw_t 45 rfl rfl rfl (do_load_arr rfl rfl (by first | omega | (simp only [ls] <;> omega)) rfl ?_)
    refine rw_t 12 rfl rfl rfl (do_assign rfl ?_)
    refine rw_t 13 rfl rfl rfl (do_assign rfl ?_)
    refine rw_nil ?_
    refine w_seq ?_
    -- region 14
    refine w_region ?_
    refine rw_t 46 rfl rfl rfl (do_move rfl ?_)
    refine rw_t 47 rfl rfl rfl (do_not rfl ?_)
    refine rw_nil ?_
    refine w_cond rfl (fun hc4 => ?_) (fun hc4 => ?_)
    all_goals try simp only [bs] at hc4
    · refine w_seq ?_
      have hd1 := h.hd j (by omega)
      have hrv := h.rv j (by omega)
      have hd2 := h.hd (c.Rev.getD j 0).toNat (by omega)
      have hbl2 := bK_len c (flowR c f (topA c)).1 j
      have haj := hai j (by omega)
      have haj2 := ht2 j (by omega)
      have hFj := hFi (c.Arc.getD j 0).toNat
      have hb1 := bK_in (c := c) hFi j (c.Head.getD j 0).toNat
      have htA : topA c = topK c c.Arc.length := rfl
      -- region 15
      refine w_draw mixed [0, 0, 2, 0, 14, 30, 63, 127, 0, 0, 512, 0, 3584, 7680, 16128, 32512] [65535, 131071, 262143] (by kernel_rfl) (by kernel_rfl) rfl rfl rfl (hle hρ rfl) ?_
      refine ra_q (j := 0) rfl rfl rfl rfl (do_move rfl ⟨rfl, rfl⟩) (by rfl) ?_
      refine ra_q (j := 1) rfl rfl rfl rfl (do_fieldaddr rfl ⟨rfl, rfl⟩) (by rfl) ?_
      refine ra_q (j := 2) rfl rfl rfl rfl (do_load_box rfl rfl rfl ⟨rfl, rfl⟩) (by rfl) ?_
      refine ra_q (j := 3) rfl rfl rfl rfl (do_move rfl ⟨rfl, rfl⟩) (by rfl) ?_
      refine ra_q (j := 4) rfl rfl rfl rfl (do_ixn rfl rfl rfl (by first | omega | (simp only [ls] <;> omega)) ⟨rfl, rfl⟩) (by rfl) ?_
      refine ra_q (j := 5) rfl rfl rfl rfl (do_load_arr rfl rfl (by first | omega | (simp only [ls] <;> omega)) rfl ⟨rfl, rfl⟩) (by rfl) ?_
      refine ra_q (j := 6) rfl rfl rfl rfl (do_ix0 rfl rfl rfl (by first | omega | (simp only [ls] <;> omega)) ⟨rfl, rfl⟩) (by rfl) ?_
      refine ra_q (j := 7) rfl rfl rfl rfl (do_load_arr rfl rfl (by first | omega | (simp only [ls] <;> omega)) rfl ⟨rfl, rfl⟩) (by rfl) ?_
      refine ra_q (j := 8) rfl rfl rfl rfl (do_move rfl ⟨rfl, rfl⟩) (by rfl) ?_
      refine ra_q (j := 9) rfl rfl rfl rfl (do_fieldaddr rfl ⟨rfl, rfl⟩) (by rfl) ?_
      refine ra_q (j := 10) rfl rfl rfl rfl (do_load_box rfl rfl rfl ⟨rfl, rfl⟩) (by rfl) ?_
      refine ra_q (j := 11) rfl rfl rfl rfl (do_move rfl ⟨rfl, rfl⟩) (by rfl) ?_
      refine ra_q (j := 12) rfl rfl rfl rfl (do_ixn rfl rfl rfl (by first | omega | (simp only [ls] <;> omega)) ⟨rfl, rfl⟩) (by rfl) ?_
      refine ra_q (j := 13) rfl rfl rfl rfl (do_load_arr rfl rfl (by first | omega | (simp only [ls] <;> omega)) rfl ⟨rfl, rfl⟩) (by rfl) ?_
      refine ra_q (j := 14) rfl rfl rfl rfl (do_ix0 rfl rfl rfl (by first | omega | (simp only [ls] <;> omega)) ⟨rfl, rfl⟩) (by rfl) ?_
      refine ra_q (j := 15) rfl rfl rfl rfl (do_load_arr rfl rfl (by first | omega | (simp only [ls] <;> omega)) rfl ⟨rfl, rfl⟩) (by rfl) ?_
      refine n_done ?_
      refine rw_t 64 rfl rfl rfl (do_add rfl rfl (by omega) ?_)
      refine rw_t 65 rfl rfl rfl (do_ix0 rfl rfl rfl (by first | omega | (simp only [ls] <;> omega)) ?_)
      refine rw_u rfl rfl (n_store_arr (z := (((bK c (flowR c f (topA c)).1 j).getD ((c.Head.getD j 0).toNat) 0) + (((flowR c f (topA c)).1).getD ((c.Arc.getD j 0).toNat) 0))) rfl rfl rfl (by first | omega | (simp only [ls] <;> omega)) rfl (by decide) rfl ?_)
      refine rw_nil ?_
      have hb2 := bK_in (c := c) hFi j (c.Head.getD (c.Rev.getD j 0).toNat 0).toNat
      have hs3 := getD_set_le (bK c (flowR c f (topA c)).1 j) (c.Head.getD j 0).toNat (c.Head.getD (c.Rev.getD j 0).toNat 0).toNat ((bK c (flowR c f (topA c)).1 j).getD (c.Head.getD j 0).toNat 0 + (flowR c f (topA c)).1.getD (c.Arc.getD j 0).toNat 0)
      -- region 16
      refine w_draw mixed [0, 0, 2, 0, 8, 0, 56, 120, 254, 510, 1023, 2047, 0, 0, 8192, 0, 57344, 122880, 258048, 520192] [1048575, 2097151, 4194303] (by kernel_rfl) (by kernel_rfl) rfl rfl rfl (hle hρ rfl) ?_
      refine ra_q (j := 0) rfl rfl rfl rfl (do_move rfl ⟨rfl, rfl⟩) (by rfl) ?_
      refine ra_q (j := 1) rfl rfl rfl rfl (do_fieldaddr rfl ⟨rfl, rfl⟩) (by rfl) ?_
      refine ra_q (j := 2) rfl rfl rfl rfl (do_load_box rfl rfl rfl ⟨rfl, rfl⟩) (by rfl) ?_
      refine ra_q (j := 3) rfl rfl rfl rfl (do_fieldaddr rfl ⟨rfl, rfl⟩) (by rfl) ?_
      refine ra_q (j := 4) rfl rfl rfl rfl (do_load_box rfl rfl rfl ⟨rfl, rfl⟩) (by rfl) ?_
      refine ra_q (j := 5) rfl rfl rfl rfl (do_move rfl ⟨rfl, rfl⟩) (by rfl) ?_
      refine ra_q (j := 6) rfl rfl rfl rfl (do_ixn rfl rfl rfl (by first | omega | (simp only [ls] <;> omega)) ⟨rfl, rfl⟩) (by rfl) ?_
      refine ra_q (j := 7) rfl rfl rfl rfl (do_load_arr rfl rfl (by first | omega | (simp only [ls] <;> omega)) rfl ⟨rfl, rfl⟩) (by rfl) ?_
      refine ra_q (j := 8) rfl rfl rfl rfl (do_ix0 rfl rfl rfl (by first | omega | (simp only [ls] <;> omega)) ⟨rfl, rfl⟩) (by rfl) ?_
      refine ra_q (j := 9) rfl rfl rfl rfl (do_load_arr rfl rfl (by first | omega | (simp only [ls] <;> omega)) rfl ⟨rfl, rfl⟩) (by rfl) ?_
      refine ra_q (j := 10) rfl rfl rfl rfl (do_ix0 rfl rfl rfl (by first | omega | (simp only [ls] <;> omega)) ⟨rfl, rfl⟩) (by rfl) ?_
      refine ra_q (j := 11) rfl rfl rfl rfl (do_load_arr rfl rfl (by first | omega | (simp only [ls] <;> omega)) rfl ⟨rfl, rfl⟩) (by rfl) ?_
      refine ra_q (j := 12) rfl rfl rfl rfl (do_move rfl ⟨rfl, rfl⟩) (by rfl) ?_
      refine ra_q (j := 13) rfl rfl rfl rfl (do_fieldaddr rfl ⟨rfl, rfl⟩) (by rfl) ?_
      refine ra_q (j := 14) rfl rfl rfl rfl (do_load_box rfl rfl rfl ⟨rfl, rfl⟩) (by rfl) ?_
      refine ra_q (j := 15) rfl rfl rfl rfl (do_move rfl ⟨rfl, rfl⟩) (by rfl) ?_
      refine ra_q (j := 16) rfl rfl rfl rfl (do_ixn rfl rfl rfl (by first | omega | (simp only [ls] <;> omega)) ⟨rfl, rfl⟩) (by rfl) ?_
      refine ra_q (j := 17) rfl rfl rfl rfl (do_load_arr rfl rfl (by first | omega | (simp only [ls] <;> omega)) rfl ⟨rfl, rfl⟩) (by rfl) ?_
      refine ra_q (j := 18) rfl rfl rfl rfl (do_ix0 rfl rfl rfl (by first | omega | (simp only [ls] <;> omega)) ⟨rfl, rfl⟩) (by rfl) ?_
      refine ra_q (j := 19) rfl rfl rfl rfl (do_load_arr rfl rfl (by first | omega | (simp only [ls] <;> omega)) rfl ⟨rfl, rfl⟩) (by rfl) ?_
      refine n_done ?_
      refine rw_t 86 rfl rfl rfl (do_sub rfl rfl (by omega) ?_)
      refine rw_t 87 rfl rfl rfl (do_ix0 rfl rfl rfl (by first | omega | (simp only [ls] <;> omega)) ?_)
      refine rw_u rfl rfl (n_store_arr (z := ((((bK c (flowR c f (topA c)).1 j).set ((c.Head.getD j 0).toNat) (((bK c (flowR c f (topA c)).1 j).getD ((c.Head.getD j 0).toNat) 0) + (((flowR c f (topA c)).1).getD ((c.Arc.getD j 0).toNat) 0))).getD ((c.Head.getD ((c.Rev.getD j 0).toNat) 0).toNat) 0) - (((flowR c f (topA c)).1).getD ((c.Arc.getD j 0).toNat) 0))) rfl rfl rfl (by first | omega | (simp only [ls] <;> omega)) rfl (by decide) rfl ?_)
      refine rw_nil ?_
      -- region 17
      refine w_region ?_
      refine rw_t 88 rfl rfl rfl (do_add rfl rfl (by omega) ?_)
      refine rw_t 41 rfl rfl rfl (do_move rfl ?_)
      refine rw_nil ?_
      refine ⟨j + 1, [0, 1, 2, 3, 4, 5, 6, 7, 8, 9], by dsimp only; omega, by omega, ⟨.inr ⟨_, rfl, .inl rfl⟩, .inr ⟨_, rfl, .inl rfl⟩, .inr ⟨_, rfl, .inl rfl⟩, .inr ⟨_, rfl, .inl rfl⟩, .inr ⟨_, rfl, .inl rfl⟩, .inr ⟨_, rfl, .inl rfl⟩, .inr ⟨_, rfl, .inl rfl⟩, .inr ⟨_, rfl, .inl rfl⟩, .inr ⟨_, rfl, .inl rfl⟩, .inr ⟨_, rfl, .inl (congrArg (SO.ints true .i64) (by simp only [bK]; rw [if_neg (by rw [hc4]; decide)]; rfl))⟩, trivial⟩, rfl, pre_ok rfl, ⟨⟨_, rfl, rfl⟩, ⟨_, rfl, rfl⟩, ⟨_, rfl, rfl⟩, ⟨_, rfl, rfl⟩, ⟨_, rfl, (congrArg (fun n => SV.slc 9 0 n none) ((bK_len c (flowR c f (topA c)).1 j).trans (bK_len c (flowR c f (topA c)).1 (j + 1)).symm)).trans rfl⟩, ⟨_, rfl, rfl⟩, ⟨_, rfl, rfl⟩, ⟨_, rfl, rfl⟩, trivial⟩⟩
    · refine w_skip ?_
      -- region 17
      refine w_region ?_
      refine rw_t 88 rfl rfl rfl (do_add rfl rfl (by omega) ?_)
      refine rw_t 41 rfl rfl rfl (do_move rfl ?_)
      refine rw_nil ?_
      refine ⟨j + 1, [0, 1, 2, 3, 4, 5, 6, 7, 8, 9], by dsimp only; omega, by omega, ⟨.inr ⟨_, rfl, .inl rfl⟩, .inr ⟨_, rfl, .inl rfl⟩, .inr ⟨_, rfl, .inl rfl⟩, .inr ⟨_, rfl, .inl rfl⟩, .inr ⟨_, rfl, .inl rfl⟩, .inr ⟨_, rfl, .inl rfl⟩, .inr ⟨_, rfl, .inl rfl⟩, .inr ⟨_, rfl, .inl rfl⟩, .inr ⟨_, rfl, .inl rfl⟩, .inr ⟨_, rfl, .inl (congrArg (SO.ints true .i64) (by simp only [bK]; rw [if_pos hc4]))⟩, trivial⟩, rfl, pre_ok rfl, ⟨⟨_, rfl, rfl⟩, ⟨_, rfl, rfl⟩, ⟨_, rfl, rfl⟩, ⟨_, rfl, rfl⟩, ⟨_, rfl, (congrArg (fun n => SV.slc 9 0 n none) ((bK_len c (flowR c f (topA c)).1 j).trans (bK_len c (flowR c f (topA c)).1 (j + 1)).symm)).trans rfl⟩, ⟨_, rfl, rfl⟩, ⟨_, rfl, rfl⟩, ⟨_, rfl, rfl⟩, trivial⟩⟩
  refine w_skip ?_
  refine w_seq ?_
  refine w_block ?_
  refine w_seq ?_
  -- region 4
  refine w_region ?_
  refine rw_t 19 rfl rfl rfl (do_ixn rfl rfl rfl (by first | omega | (simp only [ls] <;> omega)) ?_)
  refine rw_t 20 rfl rfl rfl (do_load_arr rfl rfl (by first | omega | (simp only [ls] <;> omega)) rfl ?_)
  refine rw_t 8 rfl rfl rfl (do_assign rfl ?_)
  refine rw_nil ?_
  have hax := hai i (by omega)
  have htx := topK_in hai i (by omega)
  -- region 5
  refine w_region ?_
  refine rw_t 21 rfl rfl rfl (do_move rfl ?_)
  refine rw_t 22 rfl rfl rfl (do_move rfl ?_)
  refine rw_t 23 rfl rfl rfl (do_add rfl rfl (by omega) ?_)
  refine rw_t 24 rfl rfl rfl (do_max rfl rfl ?_)
  refine rw_t 6 rfl rfl rfl (do_assign rfl ?_)
  refine rw_nil ?_
  -- region 6
  refine w_region ?_
  refine rw_t 25 rfl rfl rfl (do_add rfl rfl (by omega) ?_)
  refine rw_t 17 rfl rfl rfl (do_move rfl ?_)
  refine rw_nil ?_
  refine ⟨i + 1, [0, 1, 2, 3, 4, 5, 6, 7], by dsimp only; omega, by omega, ⟨.inr ⟨_, rfl, .inl rfl⟩, .inr ⟨_, rfl, .inl rfl⟩, .inr ⟨_, rfl, .inl rfl⟩, .inr ⟨_, rfl, .inl rfl⟩, .inr ⟨_, rfl, .inl rfl⟩, .inr ⟨_, rfl, .inl rfl⟩, .inr ⟨_, rfl, .inl rfl⟩, .inr ⟨_, rfl, .inl rfl⟩, trivial⟩, rfl, pre_ok rfl, ⟨⟨_, rfl, rfl⟩, ⟨_, rfl, rfl⟩, ⟨_, rfl, rfl⟩, ⟨_, rfl, rfl⟩, ⟨_, rfl, rfl⟩, ⟨_, rfl, rfl⟩, ⟨_, rfl, rfl⟩, ⟨_, rfl, rfl⟩, trivial⟩⟩
end Go.Proofs

set_option linter.unusedVariables false
set_option linter.unusedSimpArgs false
namespace Go.Proofs
open Go Go.Sx Go.RowKit
def steepA (c : Csr) (p : Pre) (u a : Int) : Prop := p.Res.getD a.toNat 0 > 0 ∧ p.H.getD u.toNat 0 > p.H.getD (c.Head.getD a.toNat 0).toNat 0 + 1
instance (c : Csr) (p : Pre) (u a : Int) : Decidable (steepA c p u a) := by unfold steepA; infer_instance
def goodU (c : Csr) (p : Pre) (u : Int) : Prop := ¬ (u ≠ c.S ∧ p.Ex.getD u.toNat 0 < 0) ∧ ∀ j : Nat, j < manyOf c u → ¬ steepA c p u (c.First.getD u.toNat 0 + j)
instance (c : Csr) (p : Pre) (u : Int) : Decidable (goodU c p u) := by unfold goodU; infer_instance
/-- P7.1: a state that may be, as the program looks at it. -/
def preR (c : Csr) (p : Pre) : Prop := (((broR c p.Res).2 = true ∧ (broR c p.Res).1 = p.Ex) ∧ heiP c p.H) ∧ ∀ u : Nat, u < c.N.toNat → goodU c p u
instance (c : Csr) (p : Pre) : Decidable (preR c p) := by unfold preR; infer_instance
theorem broR_len (c : Csr) (res : List Int) : (broR c res).1.length ≤ c.N.toNat := by
  unfold broR; split
  · exact Nat.le_of_eq (bK_len _ _ _)
  · simp
theorem broR_ok {c : Csr} {res : List Int} (h : (broR c res).2 = true) : (res.length = c.Head.length ∧ pairsP c res) ∧ (broR c res).1.length = c.N.toNat := by
  unfold broR at h ⊢
  split at h
  · rename_i q; rw [if_pos q]; exact ⟨q, bK_len _ _ _⟩
  · cases h
-- f13 "acequia/pre.Right"
set_option maxHeartbeats 8000000 in
set_option synthInstance.maxHeartbeats 400000 in
set_option synthInstance.maxSize 2000 in
theorem t_Right (c : Csr) (p : Pre) (h : CsrT c) (ho : CapOne c) (hai : ArcIn c) : Tri Try.prog 13 [.agg [.val (.int .i64 c.N), .val (.int .i64 c.S), .val (.int .i64 c.T), .slc 0 0 c.First.length none, .slc 1 0 c.Head.length none, .slc 2 0 c.Rev.length none, .slc 3 0 c.Cap.length none, .slc 4 0 c.Arc.length none, .slc 5 0 c.Back.length none], .agg [.slc 6 0 p.Res.length none, .slc 7 0 p.Ex.length none, .slc 8 0 p.H.length none]] [SO.ints false .i64 c.First, SO.ints false .i64 c.Head, SO.ints false .i64 c.Rev, SO.ints false .i64 c.Cap, SO.ints false .i64 c.Arc, SO.bools false c.Back, SO.ints false .i64 p.Res, SO.ints false .i64 p.Ex, SO.ints false .i64 p.H] (fun s H => s = .val (.bool (decide (preR c p))) ∧ H = [SO.ints false .i64 c.First, SO.ints false .i64 c.Head, SO.ints false .i64 c.Rev, SO.ints false .i64 c.Cap, SO.ints false .i64 c.Arc, SO.bools false c.Back, SO.ints false .i64 p.Res, SO.ints false .i64 p.Ex, SO.ints false .i64 p.H]) := by
  refine tri_of_w (fn := Try.f13) Try.func13 rfl (by simp [Try.f13]) ?_
  intro ρ w hρ
  refine w_seq ?_
  have hn := h.n
  have hf := h.first
  have hhd := h.head
  have hrl := h.rev
  have hcl := h.cap
  have hal := h.arc
  have hbl := h.back
  have hsm := h.small
  have hS := h.s
  have hT := h.t
  -- region 0
  refine w_region ?_
  refine rw_t 2 rfl rfl rfl (n_box_agg (n := 9) rfl rfl ?_)
  refine rw_t 3 rfl rfl rfl (n_box_agg (n := 10) rfl rfl ?_)
  refine rw_t 4 rfl rfl rfl (n_alloc (n := 11) rfl ?_)
  refine rw_nil ?_
  refine w_seq ?_
  -- region 1
  refine w_region ?_
  refine rw_t 10 rfl rfl rfl (n_load_boxagg [_, _, _, _, _, _, _, _, _] rfl rfl (Nat.le_of_ble_eq_true rfl) rfl ?_)
  refine rw_t 11 rfl rfl rfl (do_fieldaddr rfl ?_)
  refine rw_t 12 rfl rfl rfl (do_load_box rfl rfl rfl ?_)
  refine rw_t 13 rfl rfl rfl (n_callN (X' := .tup [.slc 12 0 ((broR c p.Res).1.length) none, .val (.bool ((broR c p.Res).2))]) (N' := [SO.ints true .i64 ((broR c p.Res).1)]) rfl rfl (t_brought (c := c) (f := p.Res) (h) (ho) (hai)) [0, 1, 2, 3, 4, 5, 6] ⟨.inr ⟨_, rfl, srv⟩, .inr ⟨_, rfl, srv⟩, .inr ⟨_, rfl, srv⟩, .inr ⟨_, rfl, srv⟩, .inr ⟨_, rfl, srv⟩, .inr ⟨_, rfl, srv⟩, .inr ⟨_, rfl, srv⟩, trivial⟩ rfl rfl rfl rfl rfl ?_)
  refine rw_t 9 rfl rfl rfl (do_move rfl ?_)
  refine rw_t 14 rfl rfl rfl (do_extract rfl rfl ?_)
  refine rw_t 15 rfl rfl rfl (do_extract rfl rfl ?_)
  refine rw_t 5 rfl rfl rfl (do_assign rfl ?_)
  refine rw_t 6 rfl rfl rfl (do_assign rfl ?_)
  refine rw_nil ?_
  refine w_seq ?_
  have hbl1 := broR_len c p.Res
  refine w_seqB 31 (((¬ (((broR c p.Res).2) = true) ∨ ¬ (((broR c p.Res).1) = p.Ex)) ∨ ¬ (heiP c p.H))) ?_ ?_
  · -- region 2
    refine w_region ?_
    refine rw_t 16 rfl rfl rfl (do_move rfl ?_)
    refine rw_t 17 rfl rfl rfl (do_not rfl ?_)
    refine rw_t 18 rfl rfl rfl (do_move rfl ?_)
    refine rw_case 18 rfl (fun g1 => ?_) (fun g1 => ?_)
    · have kg1 := g1
      try simp only [bs] at kg1
      refine rw_gf 19 2 18 false rfl rfl rfl rfl rfl rfl (by rw [g1]; decide) ?_
      refine rw_gf 20 2 18 false rfl rfl rfl rfl rfl rfl (by rw [g1]; decide) ?_
      refine rw_gf 21 2 18 false rfl rfl rfl rfl rfl rfl (by rw [g1]; decide) ?_
      refine rw_gf 22 2 18 false rfl rfl rfl rfl rfl rfl (by rw [g1]; decide) ?_
      refine rw_gf 23 2 18 false rfl rfl rfl rfl rfl rfl (by rw [g1]; decide) ?_
      refine rw_t 24 rfl rfl rfl (do_pick_t rfl g1 rfl ?_)
      refine rw_t 25 rfl rfl rfl (do_move rfl ?_)
      refine rw_gf 26 9 25 false rfl rfl rfl rfl rfl rfl (by decide) ?_
      refine rw_gf 27 9 25 false rfl rfl rfl rfl rfl rfl (by decide) ?_
      refine rw_gf 28 9 25 false rfl rfl rfl rfl rfl rfl (by decide) ?_
      refine rw_gf 29 9 25 false rfl rfl rfl rfl rfl rfl (by decide) ?_
      refine rw_gf 30 9 25 false rfl rfl rfl rfl rfl rfl (by decide) ?_
      refine rw_t 31 rfl rfl rfl (do_pick_t rfl rfl rfl ?_)
      refine rw_nil ?_
      refine ⟨rfl, ⟨_, rfl, by first | (simp; done) | (simp only [bs]; omega) | (simp [*]; done) | (simp; omega) | (constructor <;> intro h <;> simp_all <;> omega)⟩, ?_⟩
      repeat (refine ⟨⟨_, rfl, rfl⟩, ?_⟩)
      exact trivial
    · have kg1 := g1
      try simp only [bs] at kg1
      refine rw_gt 19 2 18 false rfl rfl rfl rfl rfl rfl g1 (do_move rfl ?_)
      refine rw_gt 20 2 18 false rfl rfl rfl rfl rfl rfl g1 (do_fieldaddr rfl ?_)
      refine rw_gt 21 2 18 false rfl rfl rfl rfl rfl rfl g1 (do_load_box rfl rfl rfl ?_)
      refine rw_gt 22 2 18 false rfl rfl rfl rfl rfl rfl g1 (do_callR (X' := .val (.bool (decide (((broR c p.Res).1) = p.Ex)))) rfl rfl (t_Equal (a := (broR c p.Res).1) (b := p.Ex) (by omega)) [12, 7] ⟨.inr ⟨_, rfl, srv⟩, .inr ⟨_, rfl, srv⟩, trivial⟩ rfl rfl rfl ?_)
      refine rw_gt 23 2 18 false rfl rfl rfl rfl rfl rfl g1 (do_not rfl ?_)
      refine rw_t 24 rfl rfl rfl (do_pick_f rfl g1 rfl ?_)
      refine rw_t 25 rfl rfl rfl (do_move rfl ?_)
      refine rw_case 25 rfl (fun g2 => ?_) (fun g2 => ?_)
      · have kg2 := g2
        try simp only [bs] at kg2
        refine rw_gf 26 9 25 false rfl rfl rfl rfl rfl rfl (by rw [g2]; decide) ?_
        refine rw_gf 27 9 25 false rfl rfl rfl rfl rfl rfl (by rw [g2]; decide) ?_
        refine rw_gf 28 9 25 false rfl rfl rfl rfl rfl rfl (by rw [g2]; decide) ?_
        refine rw_gf 29 9 25 false rfl rfl rfl rfl rfl rfl (by rw [g2]; decide) ?_
        refine rw_gf 30 9 25 false rfl rfl rfl rfl rfl rfl (by rw [g2]; decide) ?_
        refine rw_t 31 rfl rfl rfl (do_pick_t rfl g2 rfl ?_)
        refine rw_nil ?_
        refine ⟨rfl, ⟨_, rfl, by first | (simp; done) | (simp only [bs]; omega) | (simp [*]; done) | (simp; omega) | (constructor <;> intro h <;> simp_all <;> omega)⟩, ?_⟩
        repeat (refine ⟨⟨_, rfl, rfl⟩, ?_⟩)
        exact trivial
      · have kg2 := g2
        try simp only [bs] at kg2
        refine rw_gt 26 9 25 false rfl rfl rfl rfl rfl rfl g2 (n_load_boxagg [_, _, _, _, _, _, _, _, _] rfl rfl (Nat.le_of_ble_eq_true rfl) rfl ?_)
        refine rw_gt 27 9 25 false rfl rfl rfl rfl rfl rfl g2 (do_fieldaddr rfl ?_)
        refine rw_gt 28 9 25 false rfl rfl rfl rfl rfl rfl g2 (do_load_box rfl rfl rfl ?_)
        refine rw_gt 29 9 25 false rfl rfl rfl rfl rfl rfl g2 (do_callR (X' := .val (.bool (decide (heiP c p.H)))) rfl rfl (t_heights (c := c) (hh := p.H) (h)) [0, 1, 2, 3, 4, 5, 8] ⟨.inr ⟨_, rfl, srv⟩, .inr ⟨_, rfl, srv⟩, .inr ⟨_, rfl, srv⟩, .inr ⟨_, rfl, srv⟩, .inr ⟨_, rfl, srv⟩, .inr ⟨_, rfl, srv⟩, .inr ⟨_, rfl, srv⟩, trivial⟩ rfl rfl rfl ?_)
        refine rw_gt 30 9 25 false rfl rfl rfl rfl rfl rfl g2 (do_not rfl ?_)
        refine rw_t 31 rfl rfl rfl (do_pick_f rfl g2 rfl ?_)
        refine rw_nil ?_
        refine ⟨rfl, ⟨_, rfl, by first | (simp; done) | (simp only [bs]; omega) | (simp [*]; done) | (simp; omega) | (constructor <;> intro h <;> simp_all <;> omega)⟩, ?_⟩
        repeat (refine ⟨⟨_, rfl, rfl⟩, ?_⟩)
        exact trivial
  intro b1 hb1
  refine w_condP hb1 rfl (fun hc1 => ?_) (fun hc1 => ?_)
  · refine w_seq ?_
    -- region 3
    refine w_region ?_
    refine rw_u rfl rfl (n_store_box (f := 0) rfl rfl rfl (Nat.le_of_ble_eq_true rfl) rfl ?_)
    refine rw_nil ?_
    refine w_ret ?_
    exact ret_eq (.inl rfl) (.cons (res_one rfl rfl rfl) .nil) [0, 1, 2, 3, 4, 5, 6, 7, 8] (Eq.symm (bool_congr (decide_eq_false (fun q => by rcases hc1 with (w | w) | w; exact w q.1.1.1; exact w q.1.1.2; exact w q.1.2)))) ⟨.inr ⟨_, rfl, .inl rfl⟩, .inr ⟨_, rfl, .inl rfl⟩, .inr ⟨_, rfl, .inl rfl⟩, .inr ⟨_, rfl, .inl rfl⟩, .inr ⟨_, rfl, .inl rfl⟩, .inr ⟨_, rfl, .inl rfl⟩, .inr ⟨_, rfl, .inl rfl⟩, .inr ⟨_, rfl, .inl rfl⟩, .inr ⟨_, rfl, .inl rfl⟩, trivial⟩ rfl (pre_ok rfl)
  refine w_skip ?_
  refine w_seq ?_
  refine w_seq ?_
  have hok1 : (broR c p.Res).2 = true := Decidable.byContradiction fun q => hc1 (.inl (.inl q))
  have hok2 : (broR c p.Res).1 = p.Ex := Decidable.byContradiction fun q => hc1 (.inl (.inr q))
  have hok3 : heiP c p.H := Decidable.byContradiction fun q => hc1 (.inr q)
  obtain ⟨⟨hr, hprs⟩, hbx⟩ := broR_ok hok1
  have hx : p.Ex.length = c.N.toNat := by rw [← hok2]; exact hbx
  have hh1 := hok3.1.1.1
  have hh2 := hok3.2
  -- region 4
  refine w_region ?_
  refine rw_t 32 rfl rfl rfl (do_fieldaddr rfl ?_)
  refine rw_t 33 rfl rfl rfl (do_load_box rfl rfl rfl ?_)
  refine rw_t 34 rfl rfl rfl (do_move rfl ?_)
  refine rw_nil ?_
  refine w_block ?_
  refine w_loopS (ι := Nat) (fun v => [(2, .ptr 9 0 0), (3, .ptr 10 0 0), (4, .ptr 11 0 0), (33, .val (.int .i64 c.N)), (34, .val (.int .i64 ((v : Nat) : Int)))]) (fun v => [SO.ints false .i64 c.First, SO.ints false .i64 c.Head, SO.ints false .i64 c.Rev, SO.ints false .i64 c.Cap, SO.ints false .i64 c.Arc, SO.bools false c.Back, SO.ints false .i64 p.Res, SO.ints false .i64 p.Ex, SO.ints false .i64 p.H, .box [.val (.int .i64 c.N), .val (.int .i64 c.S), .val (.int .i64 c.T), .slc 0 0 c.First.length none, .slc 1 0 c.Head.length none, .slc 2 0 c.Rev.length none, .slc 3 0 c.Cap.length none, .slc 4 0 c.Arc.length none, .slc 5 0 c.Back.length none], .box [.slc 6 0 p.Res.length none, .slc 7 0 p.Ex.length none, .slc 8 0 p.H.length none], .box [.val (.bool false)], SO.ints true .i64 ((broR c p.Res).1)]) (fun v => c.N.toNat - v) (fun v => v ≤ c.N.toNat ∧ ∀ u : Nat, u < v → goodU c p u) (0) [0, 1, 2, 3, 4, 5, 6, 7, 8, 9, 10, 11, 12] (⟨by simp, fun u hu => by omega⟩) ⟨.inr ⟨_, rfl, .inl rfl⟩, .inr ⟨_, rfl, .inl rfl⟩, .inr ⟨_, rfl, .inl rfl⟩, .inr ⟨_, rfl, .inl rfl⟩, .inr ⟨_, rfl, .inl rfl⟩, .inr ⟨_, rfl, .inl rfl⟩, .inr ⟨_, rfl, .inl rfl⟩, .inr ⟨_, rfl, .inl rfl⟩, .inr ⟨_, rfl, .inl rfl⟩, .inr ⟨_, rfl, .inl rfl⟩, .inr ⟨_, rfl, .inl rfl⟩, .inr ⟨_, rfl, .inl rfl⟩, .inr ⟨_, rfl, .inl rfl⟩, trivial⟩ rfl (pre_ok rfl) hρ ⟨⟨_, rfl, rfl⟩, ⟨_, rfl, rfl⟩, ⟨_, rfl, rfl⟩, ⟨_, rfl, rfl⟩, ⟨_, rfl, rfl⟩, trivial⟩ ?_
  rintro v ⟨hv, hgu⟩
  refine w_seq ?_
  -- region 5
  refine w_region ?_
  refine rw_t 35 rfl rfl rfl (do_bin rfl rfl rfl ?_)
  refine rw_nil ?_
  refine w_seq ?_
  refine w_cond rfl (fun hc2 => ?_) (fun hc2 => ?_)
  all_goals try simp only [bs] at hc2
  rotate_left
  · refine w_exit ?_ -- exit 0
    refine w_seq ?_
    -- region 14
    refine w_region ?_
    refine rw_u rfl rfl (n_store_box (f := 0) rfl rfl rfl (Nat.le_of_ble_eq_true rfl) rfl ?_)
    refine rw_nil ?_
    refine w_ret ?_
    exact ret_eq (.inl rfl) (.cons (res_one rfl rfl rfl) .nil) [0, 1, 2, 3, 4, 5, 6, 7, 8] (Eq.symm (bool_congr (decide_eq_true ⟨⟨⟨hok1, hok2⟩, hok3⟩, fun u hu => hgu u (by omega)⟩))) ⟨.inr ⟨_, rfl, .inl rfl⟩, .inr ⟨_, rfl, .inl rfl⟩, .inr ⟨_, rfl, .inl rfl⟩, .inr ⟨_, rfl, .inl rfl⟩, .inr ⟨_, rfl, .inl rfl⟩, .inr ⟨_, rfl, .inl rfl⟩, .inr ⟨_, rfl, .inl rfl⟩, .inr ⟨_, rfl, .inl rfl⟩, .inr ⟨_, rfl, .inl rfl⟩, trivial⟩ rfl (pre_ok rfl)
  refine w_skip ?_
  refine w_seq ?_
  refine w_block ?_
  refine w_seq ?_
  -- region 6
  refine w_region ?_
  refine rw_t 36 rfl rfl rfl (do_move rfl ?_)
  refine rw_t 7 rfl rfl rfl (n_alloc (n := 13) rfl ?_)
  refine rw_u rfl rfl (n_store_box (f := 0) rfl rfl rfl (Nat.le_of_ble_eq_true rfl) rfl ?_)
  refine rw_nil ?_
  refine w_seq ?_
  have hv1 : ((v : Nat) : Int).toNat = v := Int.toNat_natCast v
  have hv2 : (((v : Nat) : Int) + 1).toNat = v + 1 := by omega
  have hm := h.mono v (by omega)
  refine w_seqB 48 ((((v : Nat) : Int) ≠ c.S ∧ (p.Ex.getD v 0) < 0)) ?_ ?_
  · -- region 7
    refine w_region ?_
    refine rw_t 37 rfl rfl rfl (do_load_box rfl rfl rfl ?_)
    refine rw_t 38 rfl rfl rfl (do_fieldaddr rfl ?_)
    refine rw_t 39 rfl rfl rfl (do_load_box rfl rfl rfl ?_)
    refine rw_t 40 rfl rfl rfl (do_bin rfl rfl rfl ?_)
    refine rw_t 41 rfl rfl rfl (do_move rfl ?_)
    refine rw_case 41 rfl (fun g3 => ?_) (fun g3 => ?_)
    · have kg3 := g3
      try simp only [bs] at kg3
      refine rw_gt 42 4 41 true rfl rfl rfl rfl rfl rfl g3 (do_fieldaddr rfl ?_)
      refine rw_gt 43 4 41 true rfl rfl rfl rfl rfl rfl g3 (do_load_box rfl rfl rfl ?_)
      refine rw_gt 44 4 41 true rfl rfl rfl rfl rfl rfl g3 (do_load_box rfl rfl rfl ?_)
      refine rw_gt 45 4 41 true rfl rfl rfl rfl rfl rfl g3 (do_ixn rfl rfl rfl (by first | omega | (simp only [ls] <;> omega)) ?_)
      refine rw_gt 46 4 41 true rfl rfl rfl rfl rfl rfl g3 (do_load_arr rfl rfl (by first | omega | (simp only [ls] <;> omega)) rfl ?_)
      refine rw_gt 47 4 41 true rfl rfl rfl rfl rfl rfl g3 (do_bin rfl rfl rfl ?_)
      refine rw_t 48 rfl rfl rfl (do_pick_t rfl g3 rfl ?_)
      refine rw_nil ?_
      refine ⟨rfl, ⟨_, rfl, by first | (simp; done) | (simp only [bs]; omega) | (simp [*]; done) | (simp; omega) | (constructor <;> intro h <;> simp_all <;> omega)⟩, ?_⟩
      repeat (refine ⟨⟨_, rfl, rfl⟩, ?_⟩)
      exact trivial
    · have kg3 := g3
      try simp only [bs] at kg3
      refine rw_gf 42 4 41 true rfl rfl rfl rfl rfl rfl (by rw [g3]; decide) ?_
      refine rw_gf 43 4 41 true rfl rfl rfl rfl rfl rfl (by rw [g3]; decide) ?_
      refine rw_gf 44 4 41 true rfl rfl rfl rfl rfl rfl (by rw [g3]; decide) ?_
      refine rw_gf 45 4 41 true rfl rfl rfl rfl rfl rfl (by rw [g3]; decide) ?_
      refine rw_gf 46 4 41 true rfl rfl rfl rfl rfl rfl (by rw [g3]; decide) ?_
      refine rw_gf 47 4 41 true rfl rfl rfl rfl rfl rfl (by rw [g3]; decide) ?_
      refine rw_t 48 rfl rfl rfl (do_pick_f rfl g3 rfl ?_)
      refine rw_nil ?_
      refine ⟨rfl, ⟨_, rfl, by first | (simp; done) | (simp only [bs]; omega) | (simp [*]; done) | (simp; omega) | (constructor <;> intro h <;> simp_all <;> omega)⟩, ?_⟩
      repeat (refine ⟨⟨_, rfl, rfl⟩, ?_⟩)
      exact trivial
  intro b2 hb2
  refine w_condP hb2 rfl (fun hc3 => ?_) (fun hc3 => ?_)
  · refine w_seq ?_
    -- region 8
    refine w_region ?_
    refine rw_u rfl rfl (n_store_box (f := 0) rfl rfl rfl (Nat.le_of_ble_eq_true rfl) rfl ?_)
    refine rw_nil ?_
    refine w_ret ?_
    exact ret_eq (.inl rfl) (.cons (res_one rfl rfl rfl) .nil) [0, 1, 2, 3, 4, 5, 6, 7, 8] (Eq.symm (bool_congr (decide_eq_false (fun q => (q.2 v (by omega)).1 hc3)))) ⟨.inr ⟨_, rfl, .inl rfl⟩, .inr ⟨_, rfl, .inl rfl⟩, .inr ⟨_, rfl, .inl rfl⟩, .inr ⟨_, rfl, .inl rfl⟩, .inr ⟨_, rfl, .inl rfl⟩, .inr ⟨_, rfl, .inl rfl⟩, .inr ⟨_, rfl, .inl rfl⟩, .inr ⟨_, rfl, .inl rfl⟩, .inr ⟨_, rfl, .inl rfl⟩, trivial⟩ rfl (pre_ok rfl)
  refine w_skip ?_
  refine w_seq ?_
  -- region 9
  refine w_region ?_
  refine rw_t 49 rfl rfl rfl (n_load_boxagg [_, _, _, _, _, _, _, _, _] rfl rfl (Nat.le_of_ble_eq_true rfl) rfl ?_)
  refine rw_t 50 rfl rfl rfl (do_load_box rfl rfl rfl ?_)
  refine rw_t 51 rfl rfl rfl (n_callN (X' := .func 75 [] [.ptr 14 0 0, .ptr 15 0 0]) (N' := [.box [.val (.int .i64 c.N), .val (.int .i64 c.S), .val (.int .i64 c.T), .slc 0 0 c.First.length none, .slc 1 0 c.Head.length none, .slc 2 0 c.Rev.length none, .slc 3 0 c.Cap.length none, .slc 4 0 c.Arc.length none, .slc 5 0 c.Back.length none], .box [.val (.int .i64 ((v : Nat) : Int))]]) rfl rfl (t_arcs (c := c) (u := ((v : Nat) : Int))) [0, 1, 2, 3, 4, 5] ⟨.inr ⟨_, rfl, srv⟩, .inr ⟨_, rfl, srv⟩, .inr ⟨_, rfl, srv⟩, .inr ⟨_, rfl, srv⟩, .inr ⟨_, rfl, srv⟩, .inr ⟨_, rfl, srv⟩, trivial⟩ rfl rfl rfl rfl rfl ?_)
  refine rw_nil ?_
  refine w_block ?_
  refine w_rf [(2, .ptr 9 0 0), (3, .ptr 10 0 0), (4, .ptr 11 0 0), (7, .ptr 13 0 0), (33, .val (.int .i64 c.N)), (34, .val (.int .i64 ((v : Nat) : Int))), (35, .val (.bool (decide (((v : Nat) : Int) < c.N)))), (36, .val (.int .i64 ((v : Nat) : Int))), (48, .val (.bool b2)), (49, .agg [.val (.int .i64 c.N), .val (.int .i64 c.S), .val (.int .i64 c.T), .slc 0 0 c.First.length none, .slc 1 0 c.Head.length none, .slc 2 0 c.Rev.length none, .slc 3 0 c.Cap.length none, .slc 4 0 c.Arc.length none, .slc 5 0 c.Back.length none]), (50, .val (.int .i64 ((v : Nat) : Int))), (51, .func 75 [] [.ptr 14 0 0, .ptr 15 0 0])] 16 [.yield 16, .ptr 14 0 0, .ptr 15 0 0] (fun q1 => [SO.ints false .i64 c.First, SO.ints false .i64 c.Head, SO.ints false .i64 c.Rev, SO.ints false .i64 c.Cap, SO.ints false .i64 c.Arc, SO.bools false c.Back, SO.ints false .i64 p.Res, SO.ints false .i64 p.Ex, SO.ints false .i64 p.H, .box [.val (.int .i64 c.N), .val (.int .i64 c.S), .val (.int .i64 c.T), .slc 0 0 c.First.length none, .slc 1 0 c.Head.length none, .slc 2 0 c.Rev.length none, .slc 3 0 c.Cap.length none, .slc 4 0 c.Arc.length none, .slc 5 0 c.Back.length none], .box [.slc 6 0 p.Res.length none, .slc 7 0 p.Ex.length none, .slc 8 0 p.H.length none], .box [.val (.bool false)], SO.ints true .i64 ((broR c p.Res).1), .box [.val (.int .i64 ((v : Nat) : Int))], .box [.val (.int .i64 c.N), .val (.int .i64 c.S), .val (.int .i64 c.T), .slc 0 0 c.First.length none, .slc 1 0 c.Head.length none, .slc 2 0 c.Rev.length none, .slc 3 0 c.Cap.length none, .slc 4 0 c.Arc.length none, .slc 5 0 c.Back.length none], .box [.val (.int .i64 ((v : Nat) : Int))], .gen [.ptr 9 0 0, .ptr 10 0 0, .ptr 11 0 0, .ptr 13 0 0, .val (.int .i64 c.N), .val (.int .i64 ((v : Nat) : Int)), .val (.bool (decide (((v : Nat) : Int) < c.N))), .val (.int .i64 ((v : Nat) : Int)), .val (.bool b2), .agg [.val (.int .i64 c.N), .val (.int .i64 c.S), .val (.int .i64 c.T), .slc 0 0 c.First.length none, .slc 1 0 c.Head.length none, .slc 2 0 c.Rev.length none, .slc 3 0 c.Cap.length none, .slc 4 0 c.Arc.length none, .slc 5 0 c.Back.length none], .val (.int .i64 ((v : Nat) : Int)), .func 75 [] [.ptr 14 0 0, .ptr 15 0 0]] (q1 .ready none)]) rfl rfl rfl rfl (fun _ => rfl) ⟨⟨_, rfl, rfl⟩, ⟨_, rfl, rfl⟩, ⟨_, rfl, rfl⟩, ⟨_, rfl, rfl⟩, ⟨_, rfl, rfl⟩, ⟨_, rfl, rfl⟩, ⟨_, rfl, rfl⟩, ⟨_, rfl, rfl⟩, ⟨_, rfl, rfl⟩, ⟨_, rfl, rfl⟩, ⟨_, rfl, rfl⟩, ⟨_, rfl, rfl⟩, trivial⟩ (fun q1 hq1 => ?_)
  refine tri_of_w (fn := Try.f75) Try.func75 rfl (by simp [Try.f75]) ?_
  intro ρr1 wr1 hρ1
  refine w_seq ?_
  -- region 0
  refine w_region ?_
  refine rw_t 5 rfl rfl rfl (do_fieldaddr rfl ?_)
  refine rw_t 6 rfl rfl rfl (do_load_box rfl rfl rfl ?_)
  refine rw_t 7 rfl rfl rfl (do_load_box rfl rfl rfl ?_)
  refine rw_t 8 rfl rfl rfl (do_ix0 rfl rfl rfl (by first | omega | (simp only [ls] <;> omega)) ?_)
  refine rw_t 9 rfl rfl rfl (do_load_arr rfl rfl (by first | omega | (simp only [ls] <;> omega)) rfl ?_)
  refine rw_t 4 rfl rfl rfl (do_assign rfl ?_)
  refine rw_nil ?_
  refine w_block ?_
  refine w_loopS (ι := Nat) (fun i => [(0, .yield 16), (1, .ptr 14 0 0), (2, .ptr 15 0 0), (4, .val (.int .i64 (c.First.getD ((v : Nat) : Int).toNat 0 + (i : Int))))]) (fun i => [SO.ints false .i64 c.First, SO.ints false .i64 c.Head, SO.ints false .i64 c.Rev, SO.ints false .i64 c.Cap, SO.ints false .i64 c.Arc, SO.bools false c.Back, SO.ints false .i64 p.Res, SO.ints false .i64 p.Ex, SO.ints false .i64 p.H, .box [.val (.int .i64 c.N), .val (.int .i64 c.S), .val (.int .i64 c.T), .slc 0 0 c.First.length none, .slc 1 0 c.Head.length none, .slc 2 0 c.Rev.length none, .slc 3 0 c.Cap.length none, .slc 4 0 c.Arc.length none, .slc 5 0 c.Back.length none], .box [.slc 6 0 p.Res.length none, .slc 7 0 p.Ex.length none, .slc 8 0 p.H.length none], .box [.val (.bool false)], SO.ints true .i64 ((broR c p.Res).1), .box [.val (.int .i64 ((v : Nat) : Int))], .box [.val (.int .i64 c.N), .val (.int .i64 c.S), .val (.int .i64 c.T), .slc 0 0 c.First.length none, .slc 1 0 c.Head.length none, .slc 2 0 c.Rev.length none, .slc 3 0 c.Cap.length none, .slc 4 0 c.Arc.length none, .slc 5 0 c.Back.length none], .box [.val (.int .i64 ((v : Nat) : Int))], .gen [.ptr 9 0 0, .ptr 10 0 0, .ptr 11 0 0, .ptr 13 0 0, .val (.int .i64 c.N), .val (.int .i64 ((v : Nat) : Int)), .val (.bool (decide (((v : Nat) : Int) < c.N))), .val (.int .i64 ((v : Nat) : Int)), .val (.bool b2), .agg [.val (.int .i64 c.N), .val (.int .i64 c.S), .val (.int .i64 c.T), .slc 0 0 c.First.length none, .slc 1 0 c.Head.length none, .slc 2 0 c.Rev.length none, .slc 3 0 c.Cap.length none, .slc 4 0 c.Arc.length none, .slc 5 0 c.Back.length none], .val (.int .i64 ((v : Nat) : Int)), .func 75 [] [.ptr 14 0 0, .ptr 15 0 0]] (q1 .ready none)]) (fun i => (c.First.getD (v + 1) 0 - c.First.getD v 0).toNat - i) (fun i => i ≤ (c.First.getD (v + 1) 0 - c.First.getD v 0).toNat ∧ ∀ j : Nat, j < i → ¬ steepA c p ((v : Nat) : Int) (c.First.getD ((v : Nat) : Int).toNat 0 + j)) (0) [0, 1, 2, 3, 4, 5, 6, 7, 8, 9, 10, 11, 12, 13, 14, 15, 16] (⟨by simp, fun j hj => by omega⟩) ⟨.inr ⟨_, rfl, .inl rfl⟩, .inr ⟨_, rfl, .inl rfl⟩, .inr ⟨_, rfl, .inl rfl⟩, .inr ⟨_, rfl, .inl rfl⟩, .inr ⟨_, rfl, .inl rfl⟩, .inr ⟨_, rfl, .inl rfl⟩, .inr ⟨_, rfl, .inl rfl⟩, .inr ⟨_, rfl, .inl rfl⟩, .inr ⟨_, rfl, .inl rfl⟩, .inr ⟨_, rfl, .inl rfl⟩, .inr ⟨_, rfl, .inl rfl⟩, .inr ⟨_, rfl, .inl rfl⟩, .inr ⟨_, rfl, .inl rfl⟩, .inr ⟨_, rfl, .inl rfl⟩, .inr ⟨_, rfl, .inl rfl⟩, .inr ⟨_, rfl, .inl rfl⟩, .inr ⟨_, rfl, .inl rfl⟩, trivial⟩ rfl (pre_ok rfl) hρ1 ⟨⟨_, rfl, rfl⟩, ⟨_, rfl, rfl⟩, ⟨_, rfl, rfl⟩, ⟨_, rfl, Eq.symm (val_congr (by simp))⟩, trivial⟩ ?_
  rintro i ⟨g1, g2⟩
  refine w_seq ?_
  refine w_seq ?_
  -- region 1
  refine w_region ?_
  refine rw_t 10 rfl rfl rfl (do_move rfl ?_)
  refine rw_t 11 rfl rfl rfl (do_fieldaddr rfl ?_)
  refine rw_t 12 rfl rfl rfl (do_load_box rfl rfl rfl ?_)
  refine rw_t 13 rfl rfl rfl (do_load_box rfl rfl rfl ?_)
  refine rw_t 14 rfl rfl rfl (do_add rfl rfl (by omega) ?_)
  refine rw_t 15 rfl rfl rfl (do_ix0 rfl rfl rfl (by first | omega | (simp only [ls] <;> omega)) ?_)
  refine rw_t 16 rfl rfl rfl (do_load_arr rfl rfl (by first | omega | (simp only [ls] <;> omega)) rfl ?_)
  refine rw_t 17 rfl rfl rfl (do_bin rfl rfl rfl ?_)
  refine rw_nil ?_
  refine w_cond rfl (fun hc4 => ?_) (fun hc4 => ?_)
  all_goals try simp only [bs] at hc4
  rotate_left
  · refine w_exit ?_ -- exit 0
    refine ret_iter (.inr rfl) rfl (Y := [SO.ints false .i64 c.First, SO.ints false .i64 c.Head, SO.ints false .i64 c.Rev, SO.ints false .i64 c.Cap, SO.ints false .i64 c.Arc, SO.bools false c.Back, SO.ints false .i64 p.Res, SO.ints false .i64 p.Ex, SO.ints false .i64 p.H, .box [.val (.int .i64 c.N), .val (.int .i64 c.S), .val (.int .i64 c.T), .slc 0 0 c.First.length none, .slc 1 0 c.Head.length none, .slc 2 0 c.Rev.length none, .slc 3 0 c.Cap.length none, .slc 4 0 c.Arc.length none, .slc 5 0 c.Back.length none], .box [.slc 6 0 p.Res.length none, .slc 7 0 p.Ex.length none, .slc 8 0 p.H.length none], .box [.val (.bool false)], SO.ints true .i64 ((broR c p.Res).1), .box [.val (.int .i64 ((v : Nat) : Int))], .box [.val (.int .i64 c.N), .val (.int .i64 c.S), .val (.int .i64 c.T), .slc 0 0 c.First.length none, .slc 1 0 c.Head.length none, .slc 2 0 c.Rev.length none, .slc 3 0 c.Cap.length none, .slc 4 0 c.Arc.length none, .slc 5 0 c.Back.length none], .box [.val (.int .i64 ((v : Nat) : Int))], .gen [.ptr 9 0 0, .ptr 10 0 0, .ptr 11 0 0, .ptr 13 0 0, .val (.int .i64 c.N), .val (.int .i64 ((v : Nat) : Int)), .val (.bool (decide (((v : Nat) : Int) < c.N))), .val (.int .i64 ((v : Nat) : Int)), .val (.bool b2), .agg [.val (.int .i64 c.N), .val (.int .i64 c.S), .val (.int .i64 c.T), .slc 0 0 c.First.length none, .slc 1 0 c.Head.length none, .slc 2 0 c.Rev.length none, .slc 3 0 c.Cap.length none, .slc 4 0 c.Arc.length none, .slc 5 0 c.Back.length none], .val (.int .i64 ((v : Nat) : Int)), .func 75 [] [.ptr 14 0 0, .ptr 15 0 0]] (q1 .ready none)]) [0, 1, 2, 3, 4, 5, 6, 7, 8, 9, 10, 11, 12, 13, 14, 15, 16] ⟨.inr ⟨_, rfl, .inl rfl⟩, .inr ⟨_, rfl, .inl rfl⟩, .inr ⟨_, rfl, .inl rfl⟩, .inr ⟨_, rfl, .inl rfl⟩, .inr ⟨_, rfl, .inl rfl⟩, .inr ⟨_, rfl, .inl rfl⟩, .inr ⟨_, rfl, .inl rfl⟩, .inr ⟨_, rfl, .inl rfl⟩, .inr ⟨_, rfl, .inl rfl⟩, .inr ⟨_, rfl, .inl rfl⟩, .inr ⟨_, rfl, .inl rfl⟩, .inr ⟨_, rfl, .inl rfl⟩, .inr ⟨_, rfl, .inl rfl⟩, .inr ⟨_, rfl, .inl rfl⟩, .inr ⟨_, rfl, .inl rfl⟩, .inr ⟨_, rfl, .inl rfl⟩, .inr ⟨_, rfl, .inl rfl⟩, trivial⟩ rfl (pre_ok rfl) ?_
    refine iter_none rfl ?_
    -- region 13
    refine w_region ?_
    refine rw_t 77 rfl rfl rfl (do_add rfl rfl (by omega) ?_)
    refine rw_t 34 rfl rfl rfl (do_move rfl ?_)
    refine rw_nil ?_
    refine ⟨v + 1, [0, 1, 2, 3, 4, 5, 6, 7, 8, 9, 10, 11, 12], by dsimp only; omega, ⟨by omega, fun u hu => by rcases Nat.lt_or_ge u v with q | q; exact hgu u q; have : u = v := (by omega); subst this; exact ⟨hc3, fun j hj => g2 j (by unfold manyOf at hj; rw [hv1, hv2] at hj; rw [hv1, hv2] at hc4; omega)⟩⟩, ⟨.inr ⟨_, rfl, .inl rfl⟩, .inr ⟨_, rfl, .inl rfl⟩, .inr ⟨_, rfl, .inl rfl⟩, .inr ⟨_, rfl, .inl rfl⟩, .inr ⟨_, rfl, .inl rfl⟩, .inr ⟨_, rfl, .inl rfl⟩, .inr ⟨_, rfl, .inl rfl⟩, .inr ⟨_, rfl, .inl rfl⟩, .inr ⟨_, rfl, .inl rfl⟩, .inr ⟨_, rfl, .inl rfl⟩, .inr ⟨_, rfl, .inl rfl⟩, .inr ⟨_, rfl, .inl rfl⟩, .inr ⟨_, rfl, .inl rfl⟩, trivial⟩, rfl, pre_ok rfl, ⟨⟨_, rfl, rfl⟩, ⟨_, rfl, rfl⟩, ⟨_, rfl, rfl⟩, ⟨_, rfl, rfl⟩, ⟨_, rfl, rfl⟩, trivial⟩⟩
  refine w_skip ?_
  refine w_seq ?_
  refine w_block ?_
  refine w_seq ?_
  -- region 3
  refine w_region ?_
  refine rw_t 20 rfl rfl rfl (do_move rfl ?_)
  refine rw_t 21 rfl rfl rfl (do_move rfl ?_)
  refine rw_t 22 rfl rfl rfl (do_yieldQ [(52, .val (.int .i64 (c.First.getD ((v : Nat) : Int).toNat 0 + (i : Int)))), (2, .ptr 9 0 0), (3, .ptr 10 0 0), (4, .ptr 11 0 0), (7, .ptr 13 0 0), (33, .val (.int .i64 c.N)), (34, .val (.int .i64 ((v : Nat) : Int))), (35, .val (.bool (decide (((v : Nat) : Int) < c.N)))), (36, .val (.int .i64 ((v : Nat) : Int))), (48, .val (.bool b2)), (49, .agg [.val (.int .i64 c.N), .val (.int .i64 c.S), .val (.int .i64 c.T), .slc 0 0 c.First.length none, .slc 1 0 c.Head.length none, .slc 2 0 c.Rev.length none, .slc 3 0 c.Cap.length none, .slc 4 0 c.Arc.length none, .slc 5 0 c.Back.length none]), (50, .val (.int .i64 ((v : Nat) : Int))), (51, .func 75 [] [.ptr 14 0 0, .ptr 15 0 0])] hq1 rfl rfl rfl rfl rfl rfl (fun ρr2 wr2 lr2 hρ2 => ?_))
  -- region 10
  refine w_region ?_
  refine rw_t 8 rfl rfl rfl (do_assign rfl ?_)
  refine rw_nil ?_
  refine asg_done rfl ?_
  refine w_block ?_
  rw [hv1, hv2] at hc4
  have hfv : c.First.getD ((v : Nat) : Int).toNat 0 = c.First.getD v 0 := by rw [hv1]
  have hd8 := h.hd (c.First.getD ((v : Nat) : Int).toNat 0 + (i : Int)).toNat (by rw [hv1]; omega)
  have hy8 := hh2 (c.Head.getD (c.First.getD ((v : Nat) : Int).toNat 0 + (i : Int)).toNat 0).toNat (by omega)
  have hy9 := hh2 v (by omega)
  refine w_seqB 76 (((p.Res.getD ((c.First.getD ((v : Nat) : Int).toNat 0 + (i : Int)).toNat) 0) > 0 ∧ (p.H.getD v 0) > ((p.H.getD ((c.Head.getD ((c.First.getD ((v : Nat) : Int).toNat 0 + (i : Int)).toNat) 0).toNat) 0) + 1))) ?_ ?_
  · -- region 11
    refine w_draw mixed [0, 1, 0, 7, 15, 31, 63, 127, 255, 127, 1023, 2047, 127, 4223, 127, 16511, 127, 114815, 245887, 520319, 1044607, 2093183] [4194303, 8388607] (by kernel_rfl) (by kernel_rfl) rfl rfl rfl (hle hρ2 rfl) ?_
    refine ra_q (j := 0) rfl rfl rfl rfl (do_fieldaddr rfl ⟨rfl, rfl⟩) (by rfl) ?_
    refine ra_q (j := 1) rfl rfl rfl rfl (do_load_box rfl rfl rfl ⟨rfl, rfl⟩) (by rfl) ?_
    refine ra_q (j := 2) rfl rfl rfl rfl (do_move rfl ⟨rfl, rfl⟩) (by rfl) ?_
    refine ra_q (j := 3) rfl rfl rfl rfl (do_ix0 rfl rfl rfl (by first | omega | (simp only [ls] <;> omega)) ⟨rfl, rfl⟩) (by rfl) ?_
    refine ra_q (j := 4) rfl rfl rfl rfl (do_load_arr rfl rfl (by first | omega | (simp only [ls] <;> omega)) rfl ⟨rfl, rfl⟩) (by rfl) ?_
    refine ra_q (j := 5) rfl rfl rfl rfl (do_bin rfl rfl rfl ⟨rfl, rfl⟩) (by rfl) ?_
    refine ra_q (j := 6) rfl rfl rfl rfl (do_move rfl ⟨rfl, rfl⟩) (by rfl) ?_
    refine ra_case 59 rfl (fun g4 => ?_) (fun g4 => ?_)
    · have kg4 := g4
      try simp only [bs] at kg4
      refine ra_gt (j := 7) rfl rfl rfl rfl g4 rfl rfl rfl (do_fieldaddr rfl ⟨rfl, rfl⟩) (by rfl) ?_
      refine ra_gt (j := 8) rfl rfl rfl rfl g4 rfl rfl rfl (do_load_box rfl rfl rfl ⟨rfl, rfl⟩) (by rfl) ?_
      refine ra_gt (j := 9) rfl rfl rfl rfl g4 rfl rfl rfl (do_load_box rfl rfl rfl ⟨rfl, rfl⟩) (by rfl) ?_
      refine ra_gt (j := 10) rfl rfl rfl rfl g4 rfl rfl rfl (do_ixn rfl rfl rfl (by first | omega | (simp only [ls] <;> omega)) ⟨rfl, rfl⟩) (by rfl) ?_
      refine ra_gt (j := 11) rfl rfl rfl rfl g4 rfl rfl rfl (do_load_arr rfl rfl (by first | omega | (simp only [ls] <;> omega)) rfl ⟨rfl, rfl⟩) (by rfl) ?_
      refine ra_gt (j := 12) rfl rfl rfl rfl g4 rfl rfl rfl (do_fieldaddr rfl ⟨rfl, rfl⟩) (by rfl) ?_
      refine ra_gt (j := 13) rfl rfl rfl rfl g4 rfl rfl rfl (do_load_box rfl rfl rfl ⟨rfl, rfl⟩) (by rfl) ?_
      refine ra_gt (j := 14) rfl rfl rfl rfl g4 rfl rfl rfl (do_fieldaddr rfl ⟨rfl, rfl⟩) (by rfl) ?_
      refine ra_gt (j := 15) rfl rfl rfl rfl g4 rfl rfl rfl (do_load_box rfl rfl rfl ⟨rfl, rfl⟩) (by rfl) ?_
      refine ra_gt (j := 16) rfl rfl rfl rfl g4 rfl rfl rfl (do_move rfl ⟨rfl, rfl⟩) (by rfl) ?_
      refine ra_gt (j := 17) rfl rfl rfl rfl g4 rfl rfl rfl (do_ix0 rfl rfl rfl (by first | omega | (simp only [ls] <;> omega)) ⟨rfl, rfl⟩) (by rfl) ?_
      refine ra_gt (j := 18) rfl rfl rfl rfl g4 rfl rfl rfl (do_load_arr rfl rfl (by first | omega | (simp only [ls] <;> omega)) rfl ⟨rfl, rfl⟩) (by rfl) ?_
      refine ra_gt (j := 19) rfl rfl rfl rfl g4 rfl rfl rfl (do_ix0 rfl rfl rfl (by first | omega | (simp only [ls] <;> omega)) ⟨rfl, rfl⟩) (by rfl) ?_
      refine ra_gt (j := 20) rfl rfl rfl rfl g4 rfl rfl rfl (do_load_arr rfl rfl (by first | omega | (simp only [ls] <;> omega)) rfl ⟨rfl, rfl⟩) (by rfl) ?_
      refine ra_gt (j := 21) rfl rfl rfl rfl g4 rfl rfl rfl (do_add rfl rfl (by omega) ⟨rfl, rfl⟩) (by rfl) ?_
      refine n_done ?_
      refine rw_gt 75 6 59 true rfl rfl rfl rfl rfl rfl g4 (do_bin rfl rfl rfl ?_)
      refine rw_t 76 rfl rfl rfl (do_pick_t rfl g4 rfl ?_)
      refine rw_nil ?_
      refine ⟨rfl, ⟨_, rfl, by first | (simp; done) | (simp only [bs]; omega) | (simp [*]; done) | (simp; omega) | (constructor <;> intro h <;> simp_all <;> omega)⟩, ?_⟩
      repeat (refine ⟨⟨_, rfl, rfl⟩, ?_⟩)
      exact trivial
    · have kg4 := g4
      try simp only [bs] at kg4
      refine ra_gf (j := 7) rfl rfl rfl rfl (by rw [g4]; decide) rfl rfl rfl ?_
      refine ra_gf (j := 8) rfl rfl rfl rfl (by rw [g4]; decide) rfl rfl rfl ?_
      refine ra_gf (j := 9) rfl rfl rfl rfl (by rw [g4]; decide) rfl rfl rfl ?_
      refine ra_gf (j := 10) rfl rfl rfl rfl (by rw [g4]; decide) rfl rfl rfl ?_
      refine ra_gf (j := 11) rfl rfl rfl rfl (by rw [g4]; decide) rfl rfl rfl ?_
      refine ra_gf (j := 12) rfl rfl rfl rfl (by rw [g4]; decide) rfl rfl rfl ?_
      refine ra_gf (j := 13) rfl rfl rfl rfl (by rw [g4]; decide) rfl rfl rfl ?_
      refine ra_gf (j := 14) rfl rfl rfl rfl (by rw [g4]; decide) rfl rfl rfl ?_
      refine ra_gf (j := 15) rfl rfl rfl rfl (by rw [g4]; decide) rfl rfl rfl ?_
      refine ra_gf (j := 16) rfl rfl rfl rfl (by rw [g4]; decide) rfl rfl rfl ?_
      refine ra_gf (j := 17) rfl rfl rfl rfl (by rw [g4]; decide) rfl rfl rfl ?_
      refine ra_gf (j := 18) rfl rfl rfl rfl (by rw [g4]; decide) rfl rfl rfl ?_
      refine ra_gf (j := 19) rfl rfl rfl rfl (by rw [g4]; decide) rfl rfl rfl ?_
      refine ra_gf (j := 20) rfl rfl rfl rfl (by rw [g4]; decide) rfl rfl rfl ?_
      refine ra_gf (j := 21) rfl rfl rfl rfl (by rw [g4]; decide) rfl rfl rfl ?_
      refine n_done ?_
      refine rw_gf 75 6 59 true rfl rfl rfl rfl rfl rfl (by rw [g4]; decide) ?_
      refine rw_t 76 rfl rfl rfl (do_pick_f rfl g4 rfl ?_)
      refine rw_nil ?_
      refine ⟨rfl, ⟨_, rfl, by first | (simp; done) | (simp only [bs]; omega) | (simp [*]; done) | (simp; omega) | (constructor <;> intro h <;> simp_all <;> omega)⟩, ?_⟩
      repeat (refine ⟨⟨_, rfl, rfl⟩, ?_⟩)
      exact trivial
  intro b3 hb3
  refine w_condP hb3 rfl (fun hc5 => ?_) (fun hc5 => ?_)
  · refine w_seq ?_
    -- region 12
    refine w_region ?_
    refine rw_u rfl rfl (n_store_box (f := 0) rfl rfl rfl (Nat.le_of_ble_eq_true rfl) rfl ?_)
    refine rw_nil ?_
    refine w_ret ?_
    repeat (with_reducible first | refine bl_n ?_ | refine bl_r ?_ | refine nx_r ?_ | refine nx_e ?_ | refine bl_e rfl ?_)
    refine round_ret rfl ?_
    refine rw_t 23 rfl rfl rfl (do_not rfl ?_)
    refine rw_nil ?_
    refine w_cond rfl (fun hc6 => ?_) (fun hc6 => ?_)
    rotate_left
    · exfalso; first | (cases hc6; done) | exact (hc6 trivial) | (try simp only [bs] at hc6; first | omega | (simp_all; done) | (simp_all; omega))
    refine w_ret ?_
    refine ret_iter (.inl rfl) rfl (Y := [SO.ints false .i64 c.First, SO.ints false .i64 c.Head, SO.ints false .i64 c.Rev, SO.ints false .i64 c.Cap, SO.ints false .i64 c.Arc, SO.bools false c.Back, SO.ints false .i64 p.Res, SO.ints false .i64 p.Ex, SO.ints false .i64 p.H, .box [.val (.int .i64 c.N), .val (.int .i64 c.S), .val (.int .i64 c.T), .slc 0 0 c.First.length none, .slc 1 0 c.Head.length none, .slc 2 0 c.Rev.length none, .slc 3 0 c.Cap.length none, .slc 4 0 c.Arc.length none, .slc 5 0 c.Back.length none], .box [.slc 6 0 p.Res.length none, .slc 7 0 p.Ex.length none, .slc 8 0 p.H.length none], .box [.val (.bool false)], SO.ints true .i64 ((broR c p.Res).1), .box [.val (.int .i64 ((v : Nat) : Int))], .box [.val (.int .i64 c.N), .val (.int .i64 c.S), .val (.int .i64 c.T), .slc 0 0 c.First.length none, .slc 1 0 c.Head.length none, .slc 2 0 c.Rev.length none, .slc 3 0 c.Cap.length none, .slc 4 0 c.Arc.length none, .slc 5 0 c.Back.length none], .box [.val (.int .i64 ((v : Nat) : Int))], .gen [.ptr 9 0 0, .ptr 10 0 0, .ptr 11 0 0, .ptr 13 0 0, .val (.int .i64 c.N), .val (.int .i64 ((v : Nat) : Int)), .val (.bool (decide (((v : Nat) : Int) < c.N))), .val (.int .i64 ((v : Nat) : Int)), .val (.bool b2), .agg [.val (.int .i64 c.N), .val (.int .i64 c.S), .val (.int .i64 c.T), .slc 0 0 c.First.length none, .slc 1 0 c.Head.length none, .slc 2 0 c.Rev.length none, .slc 3 0 c.Cap.length none, .slc 4 0 c.Arc.length none, .slc 5 0 c.Back.length none], .val (.int .i64 ((v : Nat) : Int)), .func 75 [] [.ptr 14 0 0, .ptr 15 0 0]] (q1 .done (some .ret))]) [0, 1, 2, 3, 4, 5, 6, 7, 8, 9, 10, 11, 12, 13, 14, 15, 16] ⟨.inr ⟨_, rfl, .inl rfl⟩, .inr ⟨_, rfl, .inl rfl⟩, .inr ⟨_, rfl, .inl rfl⟩, .inr ⟨_, rfl, .inl rfl⟩, .inr ⟨_, rfl, .inl rfl⟩, .inr ⟨_, rfl, .inl rfl⟩, .inr ⟨_, rfl, .inl rfl⟩, .inr ⟨_, rfl, .inl rfl⟩, .inr ⟨_, rfl, .inl rfl⟩, .inr ⟨_, rfl, .inl rfl⟩, .inr ⟨_, rfl, .inl rfl⟩, .inr ⟨_, rfl, .inl rfl⟩, .inr ⟨_, rfl, .inl rfl⟩, .inr ⟨_, rfl, .inl rfl⟩, .inr ⟨_, rfl, .inl rfl⟩, .inr ⟨_, rfl, .inl rfl⟩, .inr ⟨_, rfl, .inl rfl⟩, trivial⟩ rfl (pre_ok rfl) ?_
    refine iter_ret rfl ?_
    exact ret_eq (.inl rfl) (.cons (res_one rfl rfl rfl) .nil) [0, 1, 2, 3, 4, 5, 6, 7, 8] (Eq.symm (bool_congr (decide_eq_false (fun q => (q.2 v (by omega)).2 i (by unfold manyOf; rw [hv1, hv2]; omega) hc5)))) ⟨.inr ⟨_, rfl, .inl rfl⟩, .inr ⟨_, rfl, .inl rfl⟩, .inr ⟨_, rfl, .inl rfl⟩, .inr ⟨_, rfl, .inl rfl⟩, .inr ⟨_, rfl, .inl rfl⟩, .inr ⟨_, rfl, .inl rfl⟩, .inr ⟨_, rfl, .inl rfl⟩, .inr ⟨_, rfl, .inl rfl⟩, .inr ⟨_, rfl, .inl rfl⟩, trivial⟩ rfl (pre_ok rfl)
  refine w_skip ?_
  repeat (with_reducible first | refine bl_n ?_ | refine bl_r ?_ | refine nx_r ?_ | refine nx_e ?_ | refine bl_e rfl ?_)
  refine round_normal rfl ?_
  refine rw_t 23 rfl rfl rfl (do_not rfl ?_)
  refine rw_nil ?_
  refine w_cond rfl (fun hc7 => ?_) (fun hc7 => ?_)
  · exfalso; first | (cases hc7; done) | exact (hc7 trivial) | (try simp only [bs] at hc7; first | omega | (simp_all; done) | (simp_all; omega))
  refine w_skip ?_
  -- region 2
  refine w_region ?_
  refine rw_t 18 rfl rfl rfl (do_move rfl ?_)
  refine rw_t 19 rfl rfl rfl (do_add rfl rfl (by omega) ?_)
  refine rw_t 4 rfl rfl rfl (do_assign rfl ?_)
  refine rw_nil ?_
  refine ⟨i + 1, [0, 1, 2, 3, 4, 5, 6, 7, 8, 9, 10, 11, 12, 13, 14, 15, 16], by dsimp only; omega, ⟨by omega, fun j hj => by rcases Nat.lt_or_ge j i with q | q; exact g2 j q; have : j = i := (by omega); subst this; exact hc5⟩, ⟨.inr ⟨_, rfl, .inl rfl⟩, .inr ⟨_, rfl, .inl rfl⟩, .inr ⟨_, rfl, .inl rfl⟩, .inr ⟨_, rfl, .inl rfl⟩, .inr ⟨_, rfl, .inl rfl⟩, .inr ⟨_, rfl, .inl rfl⟩, .inr ⟨_, rfl, .inl rfl⟩, .inr ⟨_, rfl, .inl rfl⟩, .inr ⟨_, rfl, .inl rfl⟩, .inr ⟨_, rfl, .inl rfl⟩, .inr ⟨_, rfl, .inl rfl⟩, .inr ⟨_, rfl, .inl rfl⟩, .inr ⟨_, rfl, .inl rfl⟩, .inr ⟨_, rfl, .inl rfl⟩, .inr ⟨_, rfl, .inl rfl⟩, .inr ⟨_, rfl, .inl rfl⟩, .inr ⟨_, rfl, .inl rfl⟩, trivial⟩, rfl, pre_ok rfl, ⟨⟨_, rfl, rfl⟩, ⟨_, rfl, rfl⟩, ⟨_, rfl, rfl⟩, ⟨_, rfl, Eq.symm (val_congr (by omega))⟩, trivial⟩⟩
end Go.Proofs
