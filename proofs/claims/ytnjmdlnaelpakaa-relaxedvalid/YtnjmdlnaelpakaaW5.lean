/- RelaxedValid answers true for every input that can be read, and leaves the input as it was. Part 5. -/
import Derived.Test.YtnjmdlnaelpakaaW4
set_option linter.unusedVariables false
set_option linter.unusedSimpArgs false
set_option linter.unusedVariables false
namespace Go.Proofs
open Go Go.Sx Go.RowKit
def sameP (a b : Pre) : Prop := a.Res = b.Res ∧ a.Ex = b.Ex ∧ a.H = b.H
instance (a b : Pre) : Decidable (sameP a b) := by unfold sameP; infer_instance
-- f20 "acequia/acequiaref09.Run"
set_option maxHeartbeats 8000000 in
set_option synthInstance.maxHeartbeats 400000 in
set_option synthInstance.maxSize 2000 in
theorem t_rRun0 (c : Csr) (p : Pre) (h : CsrG c) (hp : rightP c p) (l : List Event) (hl : ∀ e ∈ l, EvIn e) (hll : l.length < 1073741824) (hz : (runE c p l 0).2.1 = 0) : Tri Try.prog 20 [.agg [.val (.int .i64 c.N), .val (.int .i64 c.S), .val (.int .i64 c.T), .slc 0 0 c.First.length none, .slc 1 0 c.Head.length none, .slc 2 0 c.Rev.length none, .slc 3 0 c.Cap.length none, .slc 4 0 c.Arc.length none, .slc 5 0 c.Back.length none], .agg [.slc 6 0 p.Res.length none, .slc 7 0 p.Ex.length none, .slc 8 0 p.H.length none], .slc 9 0 l.length none] [SO.ints false .i64 c.First, SO.ints false .i64 c.Head, SO.ints false .i64 c.Rev, SO.ints false .i64 c.Cap, SO.ints false .i64 c.Arc, SO.bools false c.Back, SO.ints false .i64 p.Res, SO.ints false .i64 p.Ex, SO.ints false .i64 p.H, SO.events false l] (fun s H => s = .tup [.agg [.slc 6 0 p.Res.length none, .slc 7 0 p.Ex.length none, .slc 8 0 p.H.length none], .val (.int .i64 0), .val (.int .i64 ((runE c p l 0).2.2))] ∧ H = [SO.ints false .i64 c.First, SO.ints false .i64 c.Head, SO.ints false .i64 c.Rev, SO.ints false .i64 c.Cap, SO.ints false .i64 c.Arc, SO.bools false c.Back, SO.ints false .i64 p.Res, SO.ints false .i64 p.Ex, SO.ints false .i64 p.H, SO.events false l]) := by
  refine tri_of_w (fn := Try.f20) Try.func20 rfl (by simp [Try.f20]) ?_
  intro ρ w hρ
  refine w_seq ?_
  have hn := h.n
  have hf := h.first
  have hhd := h.head
  have hrl := h.rev
  have hcl := h.cap
  have hal := h.arc
  have hbl := h.back
  have hr := hp.1.1
  have hx := hp.1.2.1
  have hh := hp.1.2.2
  have hS := h.s
  have hT := h.t
  obtain ⟨z1, z2⟩ := runE_zero hz
  -- region 0
  refine w_region ?_
  refine rw_t 3 rfl rfl rfl (n_box_agg (n := 10) rfl rfl ?_)
  refine rw_t 4 rfl rfl rfl (n_box_agg (n := 11) rfl rfl ?_)
  refine rw_t 6 rfl rfl rfl (n_alloc (n := 12) rfl ?_)
  refine rw_t 7 rfl rfl rfl (do_assign rfl ?_)
  refine rw_t 8 rfl rfl rfl (do_assign rfl ?_)
  refine rw_nil ?_
  refine w_seq ?_
  refine w_seq ?_
  -- region 1
  refine w_region ?_
  refine rw_t 9 rfl rfl rfl (do_assign rfl ?_)
  refine rw_nil ?_
  refine w_block ?_
  refine w_loopS (ι := Nat) (fun i => [(2, .slc 9 0 l.length none), (3, .ptr 10 0 0), (4, .ptr 11 0 0), (6, .ptr 12 0 0), (9, .val (.int .i64 ((i : Nat) : Int)))]) (fun i => [SO.ints false .i64 c.First, SO.ints false .i64 c.Head, SO.ints false .i64 c.Rev, SO.ints false .i64 c.Cap, SO.ints false .i64 c.Arc, SO.bools false c.Back, SO.ints false .i64 p.Res, SO.ints false .i64 p.Ex, SO.ints false .i64 p.H, SO.events false l, .box [.val (.int .i64 c.N), .val (.int .i64 c.S), .val (.int .i64 c.T), .slc 0 0 c.First.length none, .slc 1 0 c.Head.length none, .slc 2 0 c.Rev.length none, .slc 3 0 c.Cap.length none, .slc 4 0 c.Arc.length none, .slc 5 0 c.Back.length none], .box [.slc 6 0 p.Res.length none, .slc 7 0 p.Ex.length none, .slc 8 0 p.H.length none], .box [.val (.slice none 0 0), .val (.slice none 0 0), .val (.slice none 0 0)]]) (fun i => 0) (fun i => i = 0) (0) [0, 1, 2, 3, 4, 5, 6, 7, 8, 9, 10, 11, 12] (rfl) ⟨.inr ⟨_, rfl, .inl rfl⟩, .inr ⟨_, rfl, .inl rfl⟩, .inr ⟨_, rfl, .inl rfl⟩, .inr ⟨_, rfl, .inl rfl⟩, .inr ⟨_, rfl, .inl rfl⟩, .inr ⟨_, rfl, .inl rfl⟩, .inr ⟨_, rfl, .inl rfl⟩, .inr ⟨_, rfl, .inl rfl⟩, .inr ⟨_, rfl, .inl rfl⟩, .inr ⟨_, rfl, .inl rfl⟩, .inr ⟨_, rfl, .inl rfl⟩, .inr ⟨_, rfl, .inl rfl⟩, .inr ⟨_, rfl, .inl rfl⟩, trivial⟩ rfl (pre_ok rfl) hρ ⟨⟨_, rfl, rfl⟩, ⟨_, rfl, rfl⟩, ⟨_, rfl, rfl⟩, ⟨_, rfl, rfl⟩, ⟨_, rfl, rfl⟩, trivial⟩ ?_
  intro i hi
  refine w_seq ?_
  refine w_seq ?_
  -- region 2
  refine w_region ?_
  refine rw_t 12 rfl rfl rfl (do_move rfl ?_)
  refine rw_t 13 rfl rfl rfl (do_move rfl ?_)
  refine rw_t 14 rfl rfl rfl (do_len rfl ?_)
  refine rw_t 15 rfl rfl rfl (do_bin rfl rfl rfl ?_)
  refine rw_nil ?_
  refine w_cond rfl (fun hc1 => ?_) (fun hc1 => ?_)
  all_goals try simp only [bs] at hc1
  rotate_left
  · refine w_exit ?_ -- exit 0
    refine w_seq ?_
    -- region 8
    refine w_region ?_
    refine rw_t 34 rfl rfl rfl (n_load_boxagg [_, _, _] rfl rfl (Nat.le_of_ble_eq_true rfl) rfl ?_)
    refine rw_t 35 rfl rfl rfl (do_move rfl ?_)
    refine rw_t 36 rfl rfl rfl (do_len rfl ?_)
    refine rw_u rfl rfl (n_store_whole rfl rfl rfl rfl rfl rfl ?_)
    refine rw_t 7 rfl rfl rfl (do_assign rfl ?_)
    refine rw_t 8 rfl rfl rfl (do_assign rfl ?_)
    refine rw_nil ?_
    have hi0 : i = 0 := hi
    subst hi0
    have hl0 : l = [] := List.eq_nil_of_length_eq_zero (by omega)
    subst hl0
    refine w_ret ?_
    -- RESULT .tup [.agg [.slc 6 0 p.Res.length none, .slc 7 0 p.Ex.length none, .slc 8 0 p.H.length none], .val (.int .i64 ((l.length : Nat) : Int)), .val (.int .i64 0)], WANTED .tup [.agg [.slc 6 0 p.Res.length none, .slc 7 0 p.Ex.length none, .slc 8 0 p.H.length none], .val (.int .i64 0), .val (.int .i64 ((runE c p l 0).2.2))]
    exact ret_eq (.inl rfl) (.cons (res_agg rfl rfl (Nat.le_of_ble_eq_true rfl)) (.cons (res_tmp rfl) (.cons (res_tmp rfl) .nil))) [0, 1, 2, 3, 4, 5, 6, 7, 8, 9] (rfl) ⟨.inr ⟨_, rfl, .inl rfl⟩, .inr ⟨_, rfl, .inl rfl⟩, .inr ⟨_, rfl, .inl rfl⟩, .inr ⟨_, rfl, .inl rfl⟩, .inr ⟨_, rfl, .inl rfl⟩, .inr ⟨_, rfl, .inl rfl⟩, .inr ⟨_, rfl, .inl rfl⟩, .inr ⟨_, rfl, .inl rfl⟩, .inr ⟨_, rfl, .inl rfl⟩, .inr ⟨_, rfl, .inl rfl⟩, trivial⟩ rfl (pre_ok rfl)
  refine w_skip ?_
  refine w_seq ?_
  refine w_block ?_
  refine w_seq ?_
  have hi0 : i = 0 := hi
  have he := hl _ (getD_mem Event.none (show i < l.length by omega))
  have hln : l ≠ [] := fun q => by rw [q] at hc1; simp at hc1; omega
  have hlg : legalE c p (l.getD i Event.none) ≠ 0 := by rw [hi0]; exact z2.resolve_left hln
  -- region 4
  refine w_any mixed ?_
  refine w_late 9 [11] rfl mixed (by kernel_rfl) (fun c e H h => no_panic h) ?_
  refine wa_draw [0, 0, 0, 0, 12, 28, 63, 127, 255, 255, 0] [2047, 4095] (by kernel_rfl) (by kernel_rfl) rfl rfl rfl (hle hρ rfl) ?_
  refine ra_q' rfl (some 19) rfl (j := 0) rfl rfl rfl (n_load_boxagg [_, _, _, _, _, _, _, _, _] rfl rfl (Nat.le_of_ble_eq_true rfl) rfl ⟨rfl, rfl⟩) (by rfl) ?_
  refine ra_q' rfl (some 20) rfl (j := 1) rfl rfl rfl (n_load_boxagg [_, _, _] rfl rfl (Nat.le_of_ble_eq_true rfl) rfl ⟨rfl, rfl⟩) (by rfl) ?_
  refine ra_q' rfl (some 21) rfl (j := 2) rfl rfl rfl (do_move rfl ⟨rfl, rfl⟩) (by rfl) ?_
  refine ra_q' rfl (some 22) rfl (j := 3) rfl rfl rfl (do_move rfl ⟨rfl, rfl⟩) (by rfl) ?_
  refine ra_q' rfl (some 23) rfl (j := 4) rfl rfl rfl (do_ixn rfl rfl rfl (by first | omega | (simp only [ls] <;> omega)) ⟨rfl, rfl⟩) (by rfl) ?_
  refine ra_q' rfl (some 24) rfl (j := 5) rfl rfl rfl (n_load_arragg [_, _, _, _, _, _, _] rfl rfl rfl (by first | omega | (simp only [ls] <;> omega)) rfl ⟨rfl, rfl⟩) (by rfl) ?_
  refine ra_q' rfl (some 25) rfl (j := 6) rfl rfl rfl (do_callR (X' := .tup [.agg [.slc 6 0 p.Res.length none, .slc 7 0 p.Ex.length none, .slc 8 0 p.H.length none], .val (.int .i64 (legalE c p (l.getD i Event.none)))]) rfl rfl (t_rMoveN (c := c) (p := p) (e := (l.getD i Event.none)) (h) (hp) (he) (hlg)) [0, 1, 2, 3, 4, 5, 6, 7, 8] ⟨.inr ⟨_, rfl, srv⟩, .inr ⟨_, rfl, srv⟩, .inr ⟨_, rfl, srv⟩, .inr ⟨_, rfl, srv⟩, .inr ⟨_, rfl, srv⟩, .inr ⟨_, rfl, srv⟩, .inr ⟨_, rfl, srv⟩, .inr ⟨_, rfl, srv⟩, .inr ⟨_, rfl, srv⟩, trivial⟩ rfl rfl rfl ⟨rfl, rfl⟩) (by rfl) ?_
  refine ra_q' rfl (some 18) rfl (j := 7) rfl rfl rfl (do_move rfl ⟨rfl, rfl⟩) (by rfl) ?_
  refine ra_q' rfl (some 26) rfl (j := 8) rfl rfl rfl (do_extract rfl rfl ⟨rfl, rfl⟩) (by rfl) ?_
  refine ra_q' rfl (some 27) rfl (j := 9) rfl rfl rfl (do_extract rfl rfl ⟨rfl, rfl⟩) (by rfl) ?_
  refine ra_n' rfl (some 10) rfl (j := 10) rfl rfl rfl (g_alloc (n := 13) rfl ⟨rfl, rfl⟩) (by rfl) (by rfl) (by rfl) ?_
  refine n_done ?_
  refine rw_u rfl rfl (n_store_whole rfl rfl rfl rfl rfl rfl ?_)
  refine rw_t 11 rfl rfl rfl (do_assign rfl ?_)
  refine rw_nil ?_
  refine w_seq ?_
  refine w_seq ?_
  -- region 5
  refine w_region ?_
  refine rw_t 28 rfl rfl rfl (do_move rfl ?_)
  refine rw_t 29 rfl rfl rfl (do_bin rfl rfl rfl ?_)
  refine rw_nil ?_
  refine w_cond rfl (fun hc2 => ?_) (fun hc2 => ?_)
  rotate_left
  · exfalso; first | (cases hc2; done) | exact (hc2 trivial) | (try simp only [bs] at hc2; first | omega | (simp_all; done) | (simp_all; omega))
  refine w_seq ?_
  -- region 6
  refine w_region ?_
  refine rw_t 30 rfl rfl rfl (n_load_boxagg [_, _, _] rfl rfl (Nat.le_of_ble_eq_true rfl) rfl ?_)
  refine rw_t 31 rfl rfl rfl (do_move rfl ?_)
  refine rw_t 32 rfl rfl rfl (do_move rfl ?_)
  refine rw_u rfl rfl (n_store_whole rfl rfl rfl rfl rfl rfl ?_)
  refine rw_t 7 rfl rfl rfl (do_assign rfl ?_)
  refine rw_t 8 rfl rfl rfl (do_assign rfl ?_)
  refine rw_nil ?_
  subst hi0
  have e1 : (runE c p l 0).2.2 = legalE c p (l.getD 0 Event.none) := by
    cases l with
    | nil => exact (hln rfl).elim
    | cons e l => simp only [runE, List.getD_cons_zero] at hlg ⊢; rw [if_neg hlg]
  refine w_ret ?_
  exact ret_eq (.inl rfl) (.cons (res_agg rfl rfl (Nat.le_of_ble_eq_true rfl)) (.cons (res_tmp rfl) (.cons (res_tmp rfl) .nil))) [0, 1, 2, 3, 4, 5, 6, 7, 8, 9] (by rw [e1]; rfl) ⟨.inr ⟨_, rfl, .inl rfl⟩, .inr ⟨_, rfl, .inl rfl⟩, .inr ⟨_, rfl, .inl rfl⟩, .inr ⟨_, rfl, .inl rfl⟩, .inr ⟨_, rfl, .inl rfl⟩, .inr ⟨_, rfl, .inl rfl⟩, .inr ⟨_, rfl, .inl rfl⟩, .inr ⟨_, rfl, .inl rfl⟩, .inr ⟨_, rfl, .inl rfl⟩, .inr ⟨_, rfl, .inl rfl⟩, trivial⟩ rfl (pre_ok rfl)
-- f20 "acequia/acequiaref09.Run"
set_option maxHeartbeats 8000000 in
set_option synthInstance.maxHeartbeats 400000 in
set_option synthInstance.maxSize 2000 in
theorem t_rRun1 (c : Csr) (p : Pre) (h : CsrG c) (hp : rightP c p) (l : List Event) (hl : ∀ e ∈ l, EvIn e) (hll : l.length < 1073741824) (hz : (runE c p l 0).2.1 ≠ 0) : Tri Try.prog 20 [.agg [.val (.int .i64 c.N), .val (.int .i64 c.S), .val (.int .i64 c.T), .slc 0 0 c.First.length none, .slc 1 0 c.Head.length none, .slc 2 0 c.Rev.length none, .slc 3 0 c.Cap.length none, .slc 4 0 c.Arc.length none, .slc 5 0 c.Back.length none], .agg [.slc 6 0 p.Res.length none, .slc 7 0 p.Ex.length none, .slc 8 0 p.H.length none], .slc 9 0 l.length none] [SO.ints false .i64 c.First, SO.ints false .i64 c.Head, SO.ints false .i64 c.Rev, SO.ints false .i64 c.Cap, SO.ints false .i64 c.Arc, SO.bools false c.Back, SO.ints false .i64 p.Res, SO.ints false .i64 p.Ex, SO.ints false .i64 p.H, SO.events false l] (fun s H => s = .tup [.agg [.slc 10 0 ((runE c p l 0).1.Res.length) none, .slc 11 0 ((runE c p l 0).1.Ex.length) none, .slc 12 0 ((runE c p l 0).1.H.length) none], .val (.int .i64 ((runE c p l 0).2.1)), .val (.int .i64 ((runE c p l 0).2.2))] ∧ H = [SO.ints false .i64 c.First, SO.ints false .i64 c.Head, SO.ints false .i64 c.Rev, SO.ints false .i64 c.Cap, SO.ints false .i64 c.Arc, SO.bools false c.Back, SO.ints false .i64 p.Res, SO.ints false .i64 p.Ex, SO.ints false .i64 p.H, SO.events false l, SO.ints true .i64 ((runE c p l 0).1.Res), SO.ints true .i64 ((runE c p l 0).1.Ex), SO.ints true .i64 ((runE c p l 0).1.H)]) := by
  refine tri_of_w (fn := Try.f20) Try.func20 rfl (by simp [Try.f20]) ?_
  intro ρ w hρ
  refine w_seq ?_
  have hn := h.n
  have hf := h.first
  have hhd := h.head
  have hrl := h.rev
  have hcl := h.cap
  have hal := h.arc
  have hbl := h.back
  have hr := hp.1.1
  have hx := hp.1.2.1
  have hh := hp.1.2.2
  have hS := h.s
  have hT := h.t
  -- region 0
  refine w_region ?_
  refine rw_t 3 rfl rfl rfl (n_box_agg (n := 10) rfl rfl ?_)
  refine rw_t 4 rfl rfl rfl (n_box_agg (n := 11) rfl rfl ?_)
  refine rw_t 6 rfl rfl rfl (n_alloc (n := 12) rfl ?_)
  refine rw_t 7 rfl rfl rfl (do_assign rfl ?_)
  refine rw_t 8 rfl rfl rfl (do_assign rfl ?_)
  refine rw_nil ?_
  refine w_seq ?_
  refine w_seq ?_
  -- region 1
  refine w_region ?_
  refine rw_t 9 rfl rfl rfl (do_assign rfl ?_)
  refine rw_nil ?_
  refine w_block ?_
  refine w_loopS (ι := Nat × Pre) (fun q => [(2, .slc 9 0 l.length none), (3, .ptr 10 0 0), (4, .ptr 11 0 0), (6, .ptr 12 0 0), (9, .val (.int .i64 ((q.1 : Nat) : Int)))]) (fun q => [SO.ints false .i64 c.First, SO.ints false .i64 c.Head, SO.ints false .i64 c.Rev, SO.ints false .i64 c.Cap, SO.ints false .i64 c.Arc, SO.bools false c.Back, SO.ints false .i64 p.Res, SO.ints false .i64 p.Ex, SO.ints false .i64 p.H, SO.events false l, .box [.val (.int .i64 c.N), .val (.int .i64 c.S), .val (.int .i64 c.T), .slc 0 0 c.First.length none, .slc 1 0 c.Head.length none, .slc 2 0 c.Rev.length none, .slc 3 0 c.Cap.length none, .slc 4 0 c.Arc.length none, .slc 5 0 c.Back.length none], .box [.slc 13 0 q.2.Res.length none, .slc 14 0 q.2.Ex.length none, .slc 15 0 q.2.H.length none], .box [.val (.slice none 0 0), .val (.slice none 0 0), .val (.slice none 0 0)], SO.ints (posB q.1) .i64 q.2.Res, SO.ints (posB q.1) .i64 q.2.Ex, SO.ints (posB q.1) .i64 q.2.H]) (fun q => l.length - q.1) (fun q => q.1 ≤ l.length ∧ rightP c q.2 ∧ runE c p l 0 = runE c q.2 (l.drop q.1) q.1) ((0, p)) [0, 1, 2, 3, 4, 5, 6, 7, 8, 9, 10, 11, 12, 6, 7, 8] (⟨by simp, hp, rfl⟩) ⟨.inr ⟨_, rfl, .inl rfl⟩, .inr ⟨_, rfl, .inl rfl⟩, .inr ⟨_, rfl, .inl rfl⟩, .inr ⟨_, rfl, .inl rfl⟩, .inr ⟨_, rfl, .inl rfl⟩, .inr ⟨_, rfl, .inl rfl⟩, .inr ⟨_, rfl, .inl rfl⟩, .inr ⟨_, rfl, .inl rfl⟩, .inr ⟨_, rfl, .inl rfl⟩, .inr ⟨_, rfl, .inl rfl⟩, .inr ⟨_, rfl, .inl rfl⟩, .inr ⟨_, rfl, .inl rfl⟩, .inr ⟨_, rfl, .inl rfl⟩, .inr ⟨_, rfl, .inl rfl⟩, .inr ⟨_, rfl, .inl rfl⟩, .inr ⟨_, rfl, .inl rfl⟩, trivial⟩ rfl (pre_ok rfl) hρ ⟨⟨_, rfl, rfl⟩, ⟨_, rfl, rfl⟩, ⟨_, rfl, rfl⟩, ⟨_, rfl, rfl⟩, ⟨_, rfl, rfl⟩, trivial⟩ ?_
  rintro ⟨i, r⟩ ⟨g1, g2, g3⟩
  dsimp only at g1 g2 g3 ⊢
  refine w_seq ?_
  refine w_seq ?_
  -- region 2
  refine w_region ?_
  refine rw_t 12 rfl rfl rfl (do_move rfl ?_)
  refine rw_t 13 rfl rfl rfl (do_move rfl ?_)
  refine rw_t 14 rfl rfl rfl (do_len rfl ?_)
  refine rw_t 15 rfl rfl rfl (do_bin rfl rfl rfl ?_)
  refine rw_nil ?_
  refine w_cond rfl (fun hc1 => ?_) (fun hc1 => ?_)
  all_goals try simp only [bs] at hc1
  rotate_left
  · refine w_exit ?_ -- exit 0
    refine w_seq ?_
    -- region 8
    refine w_region ?_
    refine rw_t 34 rfl rfl rfl (n_load_boxagg [_, _, _] rfl rfl (Nat.le_of_ble_eq_true rfl) rfl ?_)
    refine rw_t 35 rfl rfl rfl (do_move rfl ?_)
    refine rw_t 36 rfl rfl rfl (do_len rfl ?_)
    refine rw_u rfl rfl (n_store_whole rfl rfl rfl rfl rfl rfl ?_)
    refine rw_t 7 rfl rfl rfl (do_assign rfl ?_)
    refine rw_t 8 rfl rfl rfl (do_assign rfl ?_)
    refine rw_nil ?_
    have hi : i = l.length := by omega
    subst hi
    have e1 : runE c p l 0 = (r, (l.length : Int), 0) := by rw [g3, List.drop_length]; rfl
    have hp1 : posB l.length = true := posB_true (fun q => hz (by rw [e1]; dsimp only; omega))
    refine w_ret ?_
    exact ret_eq (.inl rfl) (.cons (res_agg rfl rfl (Nat.le_of_ble_eq_true rfl)) (.cons (res_tmp rfl) (.cons (res_tmp rfl) .nil))) [0, 1, 2, 3, 4, 5, 6, 7, 8, 9, 13, 14, 15] (by rw [e1]; rfl) ⟨.inr ⟨_, rfl, .inl rfl⟩, .inr ⟨_, rfl, .inl rfl⟩, .inr ⟨_, rfl, .inl rfl⟩, .inr ⟨_, rfl, .inl rfl⟩, .inr ⟨_, rfl, .inl rfl⟩, .inr ⟨_, rfl, .inl rfl⟩, .inr ⟨_, rfl, .inl rfl⟩, .inr ⟨_, rfl, .inl rfl⟩, .inr ⟨_, rfl, .inl rfl⟩, .inr ⟨_, rfl, .inl rfl⟩, .inr ⟨_, rfl, by rw [e1, hp1]; exact .inl rfl⟩, .inr ⟨_, rfl, by rw [e1, hp1]; exact .inl rfl⟩, .inr ⟨_, rfl, by rw [e1, hp1]; exact .inl rfl⟩, trivial⟩ rfl (pre_ok rfl)
  refine w_skip ?_
  refine w_seq ?_
  refine w_block ?_
  refine w_seq ?_
  by_cases hlg : legalE c r (l.getD i Event.none) = 0
  · have e2 := right_does h g2 hlg
    have he := hl _ (getD_mem Event.none (show i < l.length by omega))
    have hdr := drop_getD Event.none (show i < l.length by omega)
    -- region 4
    refine w_any mixed ?_
    refine w_late 9 [11] rfl mixed (by kernel_rfl) (fun c e H h => no_panic h) ?_
    refine wa_draw [0, 0, 0, 0, 12, 28, 63, 127, 255, 255, 0] [2047, 4095] (by kernel_rfl) (by kernel_rfl) rfl rfl rfl (hle hρ rfl) ?_
    refine ra_q' rfl (some 19) rfl (j := 0) rfl rfl rfl (n_load_boxagg [_, _, _, _, _, _, _, _, _] rfl rfl (Nat.le_of_ble_eq_true rfl) rfl ⟨rfl, rfl⟩) (by rfl) ?_
    refine ra_q' rfl (some 20) rfl (j := 1) rfl rfl rfl (n_load_boxagg [_, _, _] rfl rfl (Nat.le_of_ble_eq_true rfl) rfl ⟨rfl, rfl⟩) (by rfl) ?_
    refine ra_q' rfl (some 21) rfl (j := 2) rfl rfl rfl (do_move rfl ⟨rfl, rfl⟩) (by rfl) ?_
    refine ra_q' rfl (some 22) rfl (j := 3) rfl rfl rfl (do_move rfl ⟨rfl, rfl⟩) (by rfl) ?_
    refine ra_q' rfl (some 23) rfl (j := 4) rfl rfl rfl (do_ixn rfl rfl rfl (by first | omega | (simp only [ls] <;> omega)) ⟨rfl, rfl⟩) (by rfl) ?_
    refine ra_q' rfl (some 24) rfl (j := 5) rfl rfl rfl (n_load_arragg [_, _, _, _, _, _, _] rfl rfl rfl (by first | omega | (simp only [ls] <;> omega)) rfl ⟨rfl, rfl⟩) (by rfl) ?_
    refine ra_n' rfl (some 25) rfl (j := 6) rfl rfl rfl (g_callN (X' := .tup [.agg [.slc 16 0 ((doesP c r (l.getD i Event.none)).Res.length) none, .slc 17 0 ((doesP c r (l.getD i Event.none)).Ex.length) none, .slc 18 0 ((doesP c r (l.getD i Event.none)).H.length) none], .val (.int .i64 0)]) (N' := [SO.ints true .i64 ((doesP c r (l.getD i Event.none)).Res), SO.ints true .i64 ((doesP c r (l.getD i Event.none)).Ex), SO.ints true .i64 ((doesP c r (l.getD i Event.none)).H)]) rfl rfl (t_rMoveY (c := c) (p := r) (e := (l.getD i Event.none)) (h) (g2) (he) (hlg)) [0, 1, 2, 3, 4, 5, 13, 14, 15] ⟨.inr ⟨_, rfl, srv⟩, .inr ⟨_, rfl, srv⟩, .inr ⟨_, rfl, srv⟩, .inr ⟨_, rfl, srv⟩, .inr ⟨_, rfl, srv⟩, .inr ⟨_, rfl, srv⟩, .inr ⟨_, rfl, srv⟩, .inr ⟨_, rfl, srv⟩, .inr ⟨_, rfl, srv⟩, trivial⟩ rfl rfl rfl rfl rfl ⟨rfl, rfl⟩) (by rfl) (by rfl) (by rfl) ?_
    refine ra_q' rfl (some 18) rfl (j := 7) rfl rfl rfl (do_move rfl ⟨rfl, rfl⟩) (by rfl) ?_
    refine ra_q' rfl (some 26) rfl (j := 8) rfl rfl rfl (do_extract rfl rfl ⟨rfl, rfl⟩) (by rfl) ?_
    refine ra_q' rfl (some 27) rfl (j := 9) rfl rfl rfl (do_extract rfl rfl ⟨rfl, rfl⟩) (by rfl) ?_
    refine ra_n' rfl (some 10) rfl (j := 10) rfl rfl rfl (g_alloc (n := 19) rfl ⟨rfl, rfl⟩) (by rfl) (by rfl) (by rfl) ?_
    refine n_done ?_
    refine rw_u rfl rfl (n_store_whole rfl rfl rfl rfl rfl rfl ?_)
    refine rw_t 11 rfl rfl rfl (do_assign rfl ?_)
    refine rw_nil ?_
    refine w_seq ?_
    refine w_seq ?_
    -- region 5
    refine w_region ?_
    refine rw_t 28 rfl rfl rfl (do_move rfl ?_)
    refine rw_t 29 rfl rfl rfl (do_bin rfl rfl rfl ?_)
    refine rw_nil ?_
    refine w_cond rfl (fun hc2 => ?_) (fun hc2 => ?_)
    · exfalso; first | (cases hc2; done) | exact (hc2 trivial) | (try simp only [bs] at hc2; first | omega | (simp_all; done) | (simp_all; omega))
    refine w_skip ?_
    -- region 7
    refine w_region ?_
    refine rw_t 33 rfl rfl rfl (n_load_boxagg [_, _, _] rfl rfl (Nat.le_of_ble_eq_true rfl) rfl ?_)
    refine rw_u rfl rfl (n_store_whole rfl rfl rfl rfl rfl rfl ?_)
    refine rw_nil ?_
    -- region 3
    refine w_region ?_
    refine rw_t 16 rfl rfl rfl (do_move rfl ?_)
    refine rw_t 17 rfl rfl rfl (do_add rfl rfl (by omega) ?_)
    refine rw_t 9 rfl rfl rfl (do_assign rfl ?_)
    refine rw_nil ?_
    refine ⟨(i + 1, doesP c r (l.getD i Event.none)), [0, 1, 2, 3, 4, 5, 6, 7, 8, 9, 10, 11, 12, 16, 17, 18], by dsimp only; omega, ⟨by dsimp only; omega, e2, by dsimp only; rw [g3, hdr]; simp only [runE]; rw [if_pos hlg]⟩, ⟨.inr ⟨_, rfl, .inl rfl⟩, .inr ⟨_, rfl, .inl rfl⟩, .inr ⟨_, rfl, .inl rfl⟩, .inr ⟨_, rfl, .inl rfl⟩, .inr ⟨_, rfl, .inl rfl⟩, .inr ⟨_, rfl, .inl rfl⟩, .inr ⟨_, rfl, .inl rfl⟩, .inr ⟨_, rfl, .inl rfl⟩, .inr ⟨_, rfl, .inl rfl⟩, .inr ⟨_, rfl, .inl rfl⟩, .inr ⟨_, rfl, .inl rfl⟩, .inr ⟨_, rfl, .inl rfl⟩, .inr ⟨_, rfl, .inl rfl⟩, .inr ⟨_, rfl, .inl rfl⟩, .inr ⟨_, rfl, .inl rfl⟩, .inr ⟨_, rfl, .inl rfl⟩, trivial⟩, rfl, pre_ok rfl, ⟨⟨_, rfl, rfl⟩, ⟨_, rfl, rfl⟩, ⟨_, rfl, rfl⟩, ⟨_, rfl, rfl⟩, ⟨_, rfl, rfl⟩, trivial⟩⟩
  · have he := hl _ (getD_mem Event.none (show i < l.length by omega))
    have hdr := drop_getD Event.none (show i < l.length by omega)
    -- region 4
    refine w_any mixed ?_
    refine w_late 9 [11] rfl mixed (by kernel_rfl) (fun c e H h => no_panic h) ?_
    refine wa_draw [0, 0, 0, 0, 12, 28, 63, 127, 255, 255, 0] [2047, 4095] (by kernel_rfl) (by kernel_rfl) rfl rfl rfl (hle hρ rfl) ?_
    refine ra_q' rfl (some 19) rfl (j := 0) rfl rfl rfl (n_load_boxagg [_, _, _, _, _, _, _, _, _] rfl rfl (Nat.le_of_ble_eq_true rfl) rfl ⟨rfl, rfl⟩) (by rfl) ?_
    refine ra_q' rfl (some 20) rfl (j := 1) rfl rfl rfl (n_load_boxagg [_, _, _] rfl rfl (Nat.le_of_ble_eq_true rfl) rfl ⟨rfl, rfl⟩) (by rfl) ?_
    refine ra_q' rfl (some 21) rfl (j := 2) rfl rfl rfl (do_move rfl ⟨rfl, rfl⟩) (by rfl) ?_
    refine ra_q' rfl (some 22) rfl (j := 3) rfl rfl rfl (do_move rfl ⟨rfl, rfl⟩) (by rfl) ?_
    refine ra_q' rfl (some 23) rfl (j := 4) rfl rfl rfl (do_ixn rfl rfl rfl (by first | omega | (simp only [ls] <;> omega)) ⟨rfl, rfl⟩) (by rfl) ?_
    refine ra_q' rfl (some 24) rfl (j := 5) rfl rfl rfl (n_load_arragg [_, _, _, _, _, _, _] rfl rfl rfl (by first | omega | (simp only [ls] <;> omega)) rfl ⟨rfl, rfl⟩) (by rfl) ?_
    refine ra_q' rfl (some 25) rfl (j := 6) rfl rfl rfl (do_callR (X' := .tup [.agg [.slc 13 0 r.Res.length none, .slc 14 0 r.Ex.length none, .slc 15 0 r.H.length none], .val (.int .i64 (legalE c r (l.getD i Event.none)))]) rfl rfl (t_rMoveN (c := c) (p := r) (e := (l.getD i Event.none)) (h) (g2) (he) (hlg)) [0, 1, 2, 3, 4, 5, 13, 14, 15] ⟨.inr ⟨_, rfl, srv⟩, .inr ⟨_, rfl, srv⟩, .inr ⟨_, rfl, srv⟩, .inr ⟨_, rfl, srv⟩, .inr ⟨_, rfl, srv⟩, .inr ⟨_, rfl, srv⟩, .inr ⟨_, rfl, srv⟩, .inr ⟨_, rfl, srv⟩, .inr ⟨_, rfl, srv⟩, trivial⟩ rfl rfl rfl ⟨rfl, rfl⟩) (by rfl) ?_
    refine ra_q' rfl (some 18) rfl (j := 7) rfl rfl rfl (do_move rfl ⟨rfl, rfl⟩) (by rfl) ?_
    refine ra_q' rfl (some 26) rfl (j := 8) rfl rfl rfl (do_extract rfl rfl ⟨rfl, rfl⟩) (by rfl) ?_
    refine ra_q' rfl (some 27) rfl (j := 9) rfl rfl rfl (do_extract rfl rfl ⟨rfl, rfl⟩) (by rfl) ?_
    refine ra_n' rfl (some 10) rfl (j := 10) rfl rfl rfl (g_alloc (n := 16) rfl ⟨rfl, rfl⟩) (by rfl) (by rfl) (by rfl) ?_
    refine n_done ?_
    refine rw_u rfl rfl (n_store_whole rfl rfl rfl rfl rfl rfl ?_)
    refine rw_t 11 rfl rfl rfl (do_assign rfl ?_)
    refine rw_nil ?_
    refine w_seq ?_
    refine w_seq ?_
    -- region 5
    refine w_region ?_
    refine rw_t 28 rfl rfl rfl (do_move rfl ?_)
    refine rw_t 29 rfl rfl rfl (do_bin rfl rfl rfl ?_)
    refine rw_nil ?_
    refine w_cond rfl (fun hc3 => ?_) (fun hc3 => ?_)
    rotate_left
    · exfalso; first | (cases hc3; done) | exact (hc3 trivial) | (try simp only [bs] at hc3; first | omega | (simp_all; done) | (simp_all; omega))
    refine w_seq ?_
    -- region 6
    refine w_region ?_
    refine rw_t 30 rfl rfl rfl (n_load_boxagg [_, _, _] rfl rfl (Nat.le_of_ble_eq_true rfl) rfl ?_)
    refine rw_t 31 rfl rfl rfl (do_move rfl ?_)
    refine rw_t 32 rfl rfl rfl (do_move rfl ?_)
    refine rw_u rfl rfl (n_store_whole rfl rfl rfl rfl rfl rfl ?_)
    refine rw_t 7 rfl rfl rfl (do_assign rfl ?_)
    refine rw_t 8 rfl rfl rfl (do_assign rfl ?_)
    refine rw_nil ?_
    have e1 : runE c p l 0 = (r, (i : Int), legalE c r (l.getD i Event.none)) := by rw [g3, hdr]; simp only [runE]; rw [if_neg hlg]
    have hp1 : posB i = true := posB_true (fun q => hz (by rw [e1]; dsimp only; omega))
    refine w_ret ?_
    exact ret_eq (.inl rfl) (.cons (res_agg rfl rfl (Nat.le_of_ble_eq_true rfl)) (.cons (res_tmp rfl) (.cons (res_tmp rfl) .nil))) [0, 1, 2, 3, 4, 5, 6, 7, 8, 9, 13, 14, 15] (by rw [e1]; rfl) ⟨.inr ⟨_, rfl, .inl rfl⟩, .inr ⟨_, rfl, .inl rfl⟩, .inr ⟨_, rfl, .inl rfl⟩, .inr ⟨_, rfl, .inl rfl⟩, .inr ⟨_, rfl, .inl rfl⟩, .inr ⟨_, rfl, .inl rfl⟩, .inr ⟨_, rfl, .inl rfl⟩, .inr ⟨_, rfl, .inl rfl⟩, .inr ⟨_, rfl, .inl rfl⟩, .inr ⟨_, rfl, .inl rfl⟩, .inr ⟨_, rfl, by rw [e1, hp1]; exact .inl rfl⟩, .inr ⟨_, rfl, by rw [e1, hp1]; exact .inl rfl⟩, .inr ⟨_, rfl, by rw [e1, hp1]; exact .inl rfl⟩, trivial⟩ rfl (pre_ok rfl)
end Go.Proofs

set_option linter.unusedVariables false
namespace Go.Proofs
open Go Go.Sx Go.RowKit
def lowK (c : Csr) (p : Pre) (a0 : Int) (k : Nat) : Int := if (leastK c p a0 k).2 = true then (leastK c p a0 k).1 else -1
theorem lowK_next {c : Csr} {p : Pre} (hh : ∀ v, 0 ≤ p.H.getD v 0 ∧ p.H.getD v 0 ≤ 8192) (a0 : Int) (k : Nat) : lowK c p a0 (k + 1) = if p.Res.getD (a0 + k).toNat 0 > 0 ∧ (lowK c p a0 k < 0 ∨ p.H.getD (c.Head.getD (a0 + k).toNat 0).toNat 0 < lowK c p a0 k) then p.H.getD (c.Head.getD (a0 + k).toNat 0).toNat 0 else lowK c p a0 k := by
  have h1 : (lowK c p a0 k < 0 ∨ p.H.getD (c.Head.getD (a0 + k).toNat 0).toNat 0 < lowK c p a0 k) ↔ _ := least_low hh (c := c) a0 k
  by_cases hc : p.Res.getD (a0 + k).toNat 0 > 0 ∧ (¬ (leastK c p a0 k).2 = true ∨ p.H.getD (c.Head.getD (a0 + k).toNat 0).toNat 0 < (leastK c p a0 k).1)
  · have e : leastK c p a0 (k + 1) = (p.H.getD (c.Head.getD (a0 + k).toNat 0).toNat 0, true) := by simp only [leastK]; rw [if_pos hc]
    rw [if_pos ⟨hc.1, h1.2 hc.2⟩]
    simp only [lowK, e, if_true]
  · have e : leastK c p a0 (k + 1) = leastK c p a0 k := by simp only [leastK]; rw [if_neg hc]
    rw [if_neg (fun q => hc ⟨q.1, h1.1 q.2⟩)]
    simp only [lowK, e]
theorem lowK_in {c : Csr} {p : Pre} (hh : ∀ v, 0 ≤ p.H.getD v 0 ∧ p.H.getD v 0 ≤ 8192) (a0 : Int) (k : Nat) : -1 ≤ lowK c p a0 k ∧ lowK c p a0 k ≤ 8192 := by
  have h1 := leastK_in (M := 8192) (by omega) hh (c := c) a0 k
  unfold lowK; split <;> omega
theorem low_strict {c : Csr} {p : Pre} {e : Event} (hh : ∀ v, 0 ≤ p.H.getD v 0 ∧ p.H.getD v 0 ≤ 8192) : ((leastOf c p e.u).2 = true ∧ p.Ex.getD e.u.toNat 0 > 0 ∧ (leastOf c p e.u).1 ≥ p.H.getD e.u.toNat 0 ∧ e.h = (leastOf c p e.u).1 + 1) ↔
    ((p.Ex.getD e.u.toNat 0 > 0 ∧ lowK c p (c.First.getD e.u.toNat 0) (manyOf c e.u) ≥ p.H.getD e.u.toNat 0) ∧ e.h = lowK c p (c.First.getD e.u.toNat 0) (manyOf c e.u) + 1) := by
  have h1 := hh e.u.toNat
  unfold lowK leastOf
  by_cases hs : (leastK c p (c.First.getD e.u.toNat 0) (manyOf c e.u)).2 = true
  · rw [if_pos hs]; simp only [hs, true_and, and_assoc]
  · rw [if_neg hs]
    constructor
    · intro q; exact (hs q.1).elim
    · intro q; omega
-- f18 "acequia/acequiaref09.Strict"
set_option maxHeartbeats 8000000 in
set_option synthInstance.maxHeartbeats 400000 in
set_option synthInstance.maxSize 2000 in
theorem t_rStrict (c : Csr) (p : Pre) (h : CsrG c) (hp : rightP c p) (e : Event) (he : EvIn e) : Tri Try.prog 18 [.agg [.val (.int .i64 c.N), .val (.int .i64 c.S), .val (.int .i64 c.T), .slc 0 0 c.First.length none, .slc 1 0 c.Head.length none, .slc 2 0 c.Rev.length none, .slc 3 0 c.Cap.length none, .slc 4 0 c.Arc.length none, .slc 5 0 c.Back.length none], .agg [.slc 6 0 p.Res.length none, .slc 7 0 p.Ex.length none, .slc 8 0 p.H.length none], .agg [.val (.int .i64 e.who), .val (.int .u8 e.what), .val (.int .i64 e.u), .val (.int .i64 e.arc), .val (.int .i64 e.d), .val (.int .i64 e.h), .val (.int .i64 e.low)]] [SO.ints false .i64 c.First, SO.ints false .i64 c.Head, SO.ints false .i64 c.Rev, SO.ints false .i64 c.Cap, SO.ints false .i64 c.Arc, SO.bools false c.Back, SO.ints false .i64 p.Res, SO.ints false .i64 p.Ex, SO.ints false .i64 p.H] (fun s H => s = .val (.bool (decide (strictP c p e))) ∧ H = [SO.ints false .i64 c.First, SO.ints false .i64 c.Head, SO.ints false .i64 c.Rev, SO.ints false .i64 c.Cap, SO.ints false .i64 c.Arc, SO.bools false c.Back, SO.ints false .i64 p.Res, SO.ints false .i64 p.Ex, SO.ints false .i64 p.H]) := by
  refine tri_of_w (fn := Try.f18) Try.func18 rfl (by simp [Try.f18]) ?_
  intro ρ w hρ
  refine w_seq ?_
  have hn := h.n
  have hf := h.first
  have hhd := h.head
  have hrl := h.rev
  have hcl := h.cap
  have hal := h.arc
  have hbl := h.back
  have hr := hp.1.1
  have hx := hp.1.2.1
  have hh := hp.1.2.2
  have hS := h.s
  have hT := h.t
  have hha := high_all hp h.toCsrT
  -- region 0
  refine w_region ?_
  refine rw_t 3 rfl rfl rfl (n_box_agg (n := 9) rfl rfl ?_)
  refine rw_t 4 rfl rfl rfl (n_box_agg (n := 10) rfl rfl ?_)
  refine rw_t 5 rfl rfl rfl (n_box_agg (n := 11) rfl rfl ?_)
  refine rw_t 6 rfl rfl rfl (do_assign rfl ?_)
  refine rw_nil ?_
  refine w_seq ?_
  refine w_seq ?_
  -- region 1
  refine w_region ?_
  refine rw_t 11 rfl rfl rfl (n_load_boxagg [_, _, _, _, _, _, _, _, _] rfl rfl (Nat.le_of_ble_eq_true rfl) rfl ?_)
  refine rw_t 12 rfl rfl rfl (n_load_boxagg [_, _, _] rfl rfl (Nat.le_of_ble_eq_true rfl) rfl ?_)
  refine rw_t 13 rfl rfl rfl (n_load_boxagg [_, _, _, _, _, _, _] rfl rfl (Nat.le_of_ble_eq_true rfl) rfl ?_)
  refine rw_t 14 rfl rfl rfl (do_callR (X' := .val (.int .i64 (legalE c p e))) rfl rfl (t_rLegal (c := c) (p := p) (e := e) (h.toCsrOK) (right_len hp) (he)) [0, 1, 2, 3, 4, 5, 6, 7, 8] ⟨.inr ⟨_, rfl, srv⟩, .inr ⟨_, rfl, srv⟩, .inr ⟨_, rfl, srv⟩, .inr ⟨_, rfl, srv⟩, .inr ⟨_, rfl, srv⟩, .inr ⟨_, rfl, srv⟩, .inr ⟨_, rfl, srv⟩, .inr ⟨_, rfl, srv⟩, .inr ⟨_, rfl, srv⟩, trivial⟩ rfl rfl rfl ?_)
  refine rw_t 15 rfl rfl rfl (do_bin rfl rfl rfl ?_)
  refine rw_nil ?_
  refine w_cond rfl (fun hc1 => ?_) (fun hc1 => ?_)
  all_goals try simp only [bs] at hc1
  · refine w_seq ?_
    -- region 2
    refine w_region ?_
    refine rw_t 6 rfl rfl rfl (do_assign rfl ?_)
    refine rw_nil ?_
    refine w_ret ?_
    exact ret_eq (.inl rfl) (.cons (res_tmp rfl) .nil) [0, 1, 2, 3, 4, 5, 6, 7, 8] (Eq.symm (bool_congr (decide_eq_false (fun q => hc1 q.1)))) ⟨.inr ⟨_, rfl, .inl rfl⟩, .inr ⟨_, rfl, .inl rfl⟩, .inr ⟨_, rfl, .inl rfl⟩, .inr ⟨_, rfl, .inl rfl⟩, .inr ⟨_, rfl, .inl rfl⟩, .inr ⟨_, rfl, .inl rfl⟩, .inr ⟨_, rfl, .inl rfl⟩, .inr ⟨_, rfl, .inl rfl⟩, .inr ⟨_, rfl, .inl rfl⟩, trivial⟩ rfl (pre_ok rfl)
  refine w_skip ?_
  refine w_seq ?_
  refine w_seq ?_
  have hu := legal_u hc1
  -- region 3
  refine w_region ?_
  refine rw_t 16 rfl rfl rfl (do_fieldaddr rfl ?_)
  refine rw_t 17 rfl rfl rfl (do_load_box rfl rfl rfl ?_)
  refine rw_t 18 rfl rfl rfl (do_bin rfl rfl rfl ?_)
  refine rw_nil ?_
  refine w_cond rfl (fun hc2 => ?_) (fun hc2 => ?_)
  all_goals try simp only [bs] at hc2
  · refine w_seq ?_
    obtain ⟨a1, a2, a3, a4, a5, a6, a7⟩ := legal_push hc1 (by omega)
    obtain ⟨t1, t2, t3⟩ := tail_of_arc h.toCsrT ⟨hu.2.1, hu.2.2.1⟩ a1 a2
    have hA : e.arc.toNat < c.Head.length := by omega
    have hhd2 := h.hd _ hA
    have y1 := hha e.u.toNat
    have y2 := hha (c.Head.getD e.arc.toNat 0).toNat
    -- region 4
    refine w_region ?_
    refine rw_t 19 rfl rfl rfl (do_fieldaddr rfl ?_)
    refine rw_t 20 rfl rfl rfl (do_load_box rfl rfl rfl ?_)
    refine rw_t 21 rfl rfl rfl (do_fieldaddr rfl ?_)
    refine rw_t 22 rfl rfl rfl (do_load_box rfl rfl rfl ?_)
    refine rw_t 23 rfl rfl rfl (do_ix0 rfl rfl rfl (by first | omega | (simp only [ls] <;> omega)) ?_)
    refine rw_t 24 rfl rfl rfl (do_load_arr rfl rfl (by first | omega | (simp only [ls] <;> omega)) rfl ?_)
    refine rw_t 7 rfl rfl rfl (do_assign rfl ?_)
    refine rw_nil ?_
    refine w_seq ?_
    refine w_seq ?_
    -- region 5
    refine w_region ?_
    refine rw_t 25 rfl rfl rfl (do_fieldaddr rfl ?_)
    refine rw_t 26 rfl rfl rfl (do_load_box rfl rfl rfl ?_)
    refine rw_t 27 rfl rfl rfl (do_fieldaddr rfl ?_)
    refine rw_t 28 rfl rfl rfl (do_load_box rfl rfl rfl ?_)
    refine rw_t 29 rfl rfl rfl (do_ix0 rfl rfl rfl (by first | omega | (simp only [ls] <;> omega)) ?_)
    refine rw_t 30 rfl rfl rfl (do_load_arr rfl rfl (by first | omega | (simp only [ls] <;> omega)) rfl ?_)
    refine rw_t 31 rfl rfl rfl (do_move rfl ?_)
    refine rw_t 32 rfl rfl rfl (do_bin rfl rfl rfl ?_)
    refine rw_nil ?_
    refine w_cond rfl (fun hc3 => ?_) (fun hc3 => ?_)
    all_goals try simp only [bs] at hc3
    · -- region 6
      refine w_region ?_
      refine rw_t 33 rfl rfl rfl (do_fieldaddr rfl ?_)
      refine rw_t 34 rfl rfl rfl (do_load_box rfl rfl rfl ?_)
      refine rw_t 35 rfl rfl rfl (do_fieldaddr rfl ?_)
      refine rw_t 36 rfl rfl rfl (do_load_box rfl rfl rfl ?_)
      refine rw_t 37 rfl rfl rfl (do_ix0 rfl rfl rfl (by first | omega | (simp only [ls] <;> omega)) ?_)
      refine rw_t 38 rfl rfl rfl (do_load_arr rfl rfl (by first | omega | (simp only [ls] <;> omega)) rfl ?_)
      refine rw_t 7 rfl rfl rfl (do_assign rfl ?_)
      refine rw_nil ?_
      refine w_env [(3, .ptr 9 0 0), (4, .ptr 10 0 0), (5, .ptr 11 0 0), (7, .val (.int .i64 (p.Res.getD e.arc.toNat 0)))] ⟨⟨_, rfl, rfl⟩, ⟨_, rfl, rfl⟩, ⟨_, rfl, rfl⟩, ⟨_, rfl, rfl⟩, trivial⟩ ?_
      refine w_seqB 6 (((p.H.getD e.u.toNat 0) = ((p.H.getD ((c.Head.getD e.arc.toNat 0).toNat) 0) + 1) ∧ e.d = (p.Res.getD e.arc.toNat 0))) ?_ ?_
      · -- region 7
        refine w_draw mixed [0, 1, 0, 4, 15, 31, 0, 64, 0, 256, 0, 1024, 3840, 7936, 16320, 32704, 65472, 131071, 262143, 524287, 1048575, 524287] [4194303, 8388607, 16777215] (by kernel_rfl) (by kernel_rfl) rfl rfl rfl (hle hρ rfl) ?_
        refine ra_q (j := 0) rfl rfl rfl rfl (do_fieldaddr rfl ⟨rfl, rfl⟩) (by rfl) ?_
        refine ra_q (j := 1) rfl rfl rfl rfl (do_load_box rfl rfl rfl ⟨rfl, rfl⟩) (by rfl) ?_
        refine ra_q (j := 2) rfl rfl rfl rfl (do_fieldaddr rfl ⟨rfl, rfl⟩) (by rfl) ?_
        refine ra_q (j := 3) rfl rfl rfl rfl (do_load_box rfl rfl rfl ⟨rfl, rfl⟩) (by rfl) ?_
        refine ra_q (j := 4) rfl rfl rfl rfl (do_ix0 rfl rfl rfl (by first | omega | (simp only [ls] <;> omega)) ⟨rfl, rfl⟩) (by rfl) ?_
        refine ra_q (j := 5) rfl rfl rfl rfl (do_load_arr rfl rfl (by first | omega | (simp only [ls] <;> omega)) rfl ⟨rfl, rfl⟩) (by rfl) ?_
        refine ra_q (j := 6) rfl rfl rfl rfl (do_fieldaddr rfl ⟨rfl, rfl⟩) (by rfl) ?_
        refine ra_q (j := 7) rfl rfl rfl rfl (do_load_box rfl rfl rfl ⟨rfl, rfl⟩) (by rfl) ?_
        refine ra_q (j := 8) rfl rfl rfl rfl (do_fieldaddr rfl ⟨rfl, rfl⟩) (by rfl) ?_
        refine ra_q (j := 9) rfl rfl rfl rfl (do_load_box rfl rfl rfl ⟨rfl, rfl⟩) (by rfl) ?_
        refine ra_q (j := 10) rfl rfl rfl rfl (do_fieldaddr rfl ⟨rfl, rfl⟩) (by rfl) ?_
        refine ra_q (j := 11) rfl rfl rfl rfl (do_load_box rfl rfl rfl ⟨rfl, rfl⟩) (by rfl) ?_
        refine ra_q (j := 12) rfl rfl rfl rfl (do_ix0 rfl rfl rfl (by first | omega | (simp only [ls] <;> omega)) ⟨rfl, rfl⟩) (by rfl) ?_
        refine ra_q (j := 13) rfl rfl rfl rfl (do_load_arr rfl rfl (by first | omega | (simp only [ls] <;> omega)) rfl ⟨rfl, rfl⟩) (by rfl) ?_
        refine ra_q (j := 14) rfl rfl rfl rfl (do_ix0 rfl rfl rfl (by first | omega | (simp only [ls] <;> omega)) ⟨rfl, rfl⟩) (by rfl) ?_
        refine ra_q (j := 15) rfl rfl rfl rfl (do_load_arr rfl rfl (by first | omega | (simp only [ls] <;> omega)) rfl ⟨rfl, rfl⟩) (by rfl) ?_
        refine ra_q (j := 16) rfl rfl rfl rfl (do_add rfl rfl (by omega) ⟨rfl, rfl⟩) (by rfl) ?_
        refine ra_q (j := 17) rfl rfl rfl rfl (do_bin rfl rfl rfl ⟨rfl, rfl⟩) (by rfl) ?_
        refine ra_q (j := 18) rfl rfl rfl rfl (do_move rfl ⟨rfl, rfl⟩) (by rfl) ?_
        refine ra_case 57 rfl (fun g1 => ?_) (fun g1 => ?_)
        · have kg1 := g1
          try simp only [bs] at kg1
          refine ra_gt (j := 19) rfl rfl rfl rfl g1 rfl rfl rfl (do_fieldaddr rfl ⟨rfl, rfl⟩) (by rfl) ?_
          refine ra_gt (j := 20) rfl rfl rfl rfl g1 rfl rfl rfl (do_load_box rfl rfl rfl ⟨rfl, rfl⟩) (by rfl) ?_
          refine ra_gt (j := 21) rfl rfl rfl rfl g1 rfl rfl rfl (do_move rfl ⟨rfl, rfl⟩) (by rfl) ?_
          refine n_done ?_
          refine rw_gt 61 18 57 true rfl rfl rfl rfl rfl rfl g1 (do_bin rfl rfl rfl ?_)
          refine rw_t 62 rfl rfl rfl (do_pick_t rfl g1 rfl ?_)
          refine rw_t 6 rfl rfl rfl (do_assign rfl ?_)
          refine rw_nil ?_
          refine ⟨rfl, ⟨_, rfl, by first | (simp; done) | (simp only [bs]; omega) | (simp [*]; done) | (simp; omega) | (constructor <;> intro h <;> simp_all <;> omega)⟩, ?_⟩
          repeat (refine ⟨⟨_, rfl, rfl⟩, ?_⟩)
          exact trivial
        · have kg1 := g1
          try simp only [bs] at kg1
          refine ra_gf (j := 19) rfl rfl rfl rfl (by rw [g1]; decide) rfl rfl rfl ?_
          refine ra_gf (j := 20) rfl rfl rfl rfl (by rw [g1]; decide) rfl rfl rfl ?_
          refine ra_gf (j := 21) rfl rfl rfl rfl (by rw [g1]; decide) rfl rfl rfl ?_
          refine n_done ?_
          refine rw_gf 61 18 57 true rfl rfl rfl rfl rfl rfl (by rw [g1]; decide) ?_
          refine rw_t 62 rfl rfl rfl (do_pick_f rfl g1 rfl ?_)
          refine rw_t 6 rfl rfl rfl (do_assign rfl ?_)
          refine rw_nil ?_
          refine ⟨rfl, ⟨_, rfl, by first | (simp; done) | (simp only [bs]; omega) | (simp [*]; done) | (simp; omega) | (constructor <;> intro h <;> simp_all <;> omega)⟩, ?_⟩
          repeat (refine ⟨⟨_, rfl, rfl⟩, ?_⟩)
          exact trivial
      intro b1 hb1
      refine w_ret ?_
      exact ret_eq (.inl rfl) (.cons (res_tmp rfl) .nil) [0, 1, 2, 3, 4, 5, 6, 7, 8] (Eq.symm (bool_congr (dec_of hb1 (by unfold strictP; rw [if_pos hc2, if_pos hc3]; exact ⟨fun q => ⟨by omega, q.2.2⟩, fun q => ⟨hc1, by omega, q.2⟩⟩)))) ⟨.inr ⟨_, rfl, .inl rfl⟩, .inr ⟨_, rfl, .inl rfl⟩, .inr ⟨_, rfl, .inl rfl⟩, .inr ⟨_, rfl, .inl rfl⟩, .inr ⟨_, rfl, .inl rfl⟩, .inr ⟨_, rfl, .inl rfl⟩, .inr ⟨_, rfl, .inl rfl⟩, .inr ⟨_, rfl, .inl rfl⟩, .inr ⟨_, rfl, .inl rfl⟩, trivial⟩ rfl (pre_ok rfl)
    · refine w_skip ?_
      refine w_env [(3, .ptr 9 0 0), (4, .ptr 10 0 0), (5, .ptr 11 0 0), (7, .val (.int .i64 (p.Ex.getD e.u.toNat 0)))] ⟨⟨_, rfl, rfl⟩, ⟨_, rfl, rfl⟩, ⟨_, rfl, rfl⟩, ⟨_, rfl, rfl⟩, trivial⟩ ?_
      refine w_seqB 6 (((p.H.getD e.u.toNat 0) = ((p.H.getD ((c.Head.getD e.arc.toNat 0).toNat) 0) + 1) ∧ e.d = (p.Ex.getD e.u.toNat 0))) ?_ ?_
      · -- region 7
        refine w_draw mixed [0, 1, 0, 4, 15, 31, 0, 64, 0, 256, 0, 1024, 3840, 7936, 16320, 32704, 65472, 131071, 262143, 524287, 1048575, 524287] [4194303, 8388607, 16777215] (by kernel_rfl) (by kernel_rfl) rfl rfl rfl (hle hρ rfl) ?_
        refine ra_q (j := 0) rfl rfl rfl rfl (do_fieldaddr rfl ⟨rfl, rfl⟩) (by rfl) ?_
        refine ra_q (j := 1) rfl rfl rfl rfl (do_load_box rfl rfl rfl ⟨rfl, rfl⟩) (by rfl) ?_
        refine ra_q (j := 2) rfl rfl rfl rfl (do_fieldaddr rfl ⟨rfl, rfl⟩) (by rfl) ?_
        refine ra_q (j := 3) rfl rfl rfl rfl (do_load_box rfl rfl rfl ⟨rfl, rfl⟩) (by rfl) ?_
        refine ra_q (j := 4) rfl rfl rfl rfl (do_ix0 rfl rfl rfl (by first | omega | (simp only [ls] <;> omega)) ⟨rfl, rfl⟩) (by rfl) ?_
        refine ra_q (j := 5) rfl rfl rfl rfl (do_load_arr rfl rfl (by first | omega | (simp only [ls] <;> omega)) rfl ⟨rfl, rfl⟩) (by rfl) ?_
        refine ra_q (j := 6) rfl rfl rfl rfl (do_fieldaddr rfl ⟨rfl, rfl⟩) (by rfl) ?_
        refine ra_q (j := 7) rfl rfl rfl rfl (do_load_box rfl rfl rfl ⟨rfl, rfl⟩) (by rfl) ?_
        refine ra_q (j := 8) rfl rfl rfl rfl (do_fieldaddr rfl ⟨rfl, rfl⟩) (by rfl) ?_
        refine ra_q (j := 9) rfl rfl rfl rfl (do_load_box rfl rfl rfl ⟨rfl, rfl⟩) (by rfl) ?_
        refine ra_q (j := 10) rfl rfl rfl rfl (do_fieldaddr rfl ⟨rfl, rfl⟩) (by rfl) ?_
        refine ra_q (j := 11) rfl rfl rfl rfl (do_load_box rfl rfl rfl ⟨rfl, rfl⟩) (by rfl) ?_
        refine ra_q (j := 12) rfl rfl rfl rfl (do_ix0 rfl rfl rfl (by first | omega | (simp only [ls] <;> omega)) ⟨rfl, rfl⟩) (by rfl) ?_
        refine ra_q (j := 13) rfl rfl rfl rfl (do_load_arr rfl rfl (by first | omega | (simp only [ls] <;> omega)) rfl ⟨rfl, rfl⟩) (by rfl) ?_
        refine ra_q (j := 14) rfl rfl rfl rfl (do_ix0 rfl rfl rfl (by first | omega | (simp only [ls] <;> omega)) ⟨rfl, rfl⟩) (by rfl) ?_
        refine ra_q (j := 15) rfl rfl rfl rfl (do_load_arr rfl rfl (by first | omega | (simp only [ls] <;> omega)) rfl ⟨rfl, rfl⟩) (by rfl) ?_
        refine ra_q (j := 16) rfl rfl rfl rfl (do_add rfl rfl (by omega) ⟨rfl, rfl⟩) (by rfl) ?_
        refine ra_q (j := 17) rfl rfl rfl rfl (do_bin rfl rfl rfl ⟨rfl, rfl⟩) (by rfl) ?_
        refine ra_q (j := 18) rfl rfl rfl rfl (do_move rfl ⟨rfl, rfl⟩) (by rfl) ?_
        refine ra_case 57 rfl (fun g2 => ?_) (fun g2 => ?_)
        · have kg2 := g2
          try simp only [bs] at kg2
          refine ra_gt (j := 19) rfl rfl rfl rfl g2 rfl rfl rfl (do_fieldaddr rfl ⟨rfl, rfl⟩) (by rfl) ?_
          refine ra_gt (j := 20) rfl rfl rfl rfl g2 rfl rfl rfl (do_load_box rfl rfl rfl ⟨rfl, rfl⟩) (by rfl) ?_
          refine ra_gt (j := 21) rfl rfl rfl rfl g2 rfl rfl rfl (do_move rfl ⟨rfl, rfl⟩) (by rfl) ?_
          refine n_done ?_
          refine rw_gt 61 18 57 true rfl rfl rfl rfl rfl rfl g2 (do_bin rfl rfl rfl ?_)
          refine rw_t 62 rfl rfl rfl (do_pick_t rfl g2 rfl ?_)
          refine rw_t 6 rfl rfl rfl (do_assign rfl ?_)
          refine rw_nil ?_
          refine ⟨rfl, ⟨_, rfl, by first | (simp; done) | (simp only [bs]; omega) | (simp [*]; done) | (simp; omega) | (constructor <;> intro h <;> simp_all <;> omega)⟩, ?_⟩
          repeat (refine ⟨⟨_, rfl, rfl⟩, ?_⟩)
          exact trivial
        · have kg2 := g2
          try simp only [bs] at kg2
          refine ra_gf (j := 19) rfl rfl rfl rfl (by rw [g2]; decide) rfl rfl rfl ?_
          refine ra_gf (j := 20) rfl rfl rfl rfl (by rw [g2]; decide) rfl rfl rfl ?_
          refine ra_gf (j := 21) rfl rfl rfl rfl (by rw [g2]; decide) rfl rfl rfl ?_
          refine n_done ?_
          refine rw_gf 61 18 57 true rfl rfl rfl rfl rfl rfl (by rw [g2]; decide) ?_
          refine rw_t 62 rfl rfl rfl (do_pick_f rfl g2 rfl ?_)
          refine rw_t 6 rfl rfl rfl (do_assign rfl ?_)
          refine rw_nil ?_
          refine ⟨rfl, ⟨_, rfl, by first | (simp; done) | (simp only [bs]; omega) | (simp [*]; done) | (simp; omega) | (constructor <;> intro h <;> simp_all <;> omega)⟩, ?_⟩
          repeat (refine ⟨⟨_, rfl, rfl⟩, ?_⟩)
          exact trivial
      intro b2 hb2
      refine w_ret ?_
      exact ret_eq (.inl rfl) (.cons (res_tmp rfl) .nil) [0, 1, 2, 3, 4, 5, 6, 7, 8] (Eq.symm (bool_congr (dec_of hb2 (by unfold strictP; rw [if_pos hc2, if_neg hc3]; exact ⟨fun q => ⟨by omega, q.2.2⟩, fun q => ⟨hc1, by omega, q.2⟩⟩)))) ⟨.inr ⟨_, rfl, .inl rfl⟩, .inr ⟨_, rfl, .inl rfl⟩, .inr ⟨_, rfl, .inl rfl⟩, .inr ⟨_, rfl, .inl rfl⟩, .inr ⟨_, rfl, .inl rfl⟩, .inr ⟨_, rfl, .inl rfl⟩, .inr ⟨_, rfl, .inl rfl⟩, .inr ⟨_, rfl, .inl rfl⟩, .inr ⟨_, rfl, .inl rfl⟩, trivial⟩ rfl (pre_ok rfl)
  refine w_skip ?_
  refine w_seq ?_
  have hm := h.mono e.u.toNat (by omega)
  have hmt : (e.u + 1).toNat = e.u.toNat + 1 := by omega
  rw [← hmt] at hm
  -- region 8
  refine w_region ?_
  refine rw_t 8 rfl rfl rfl (do_assign rfl ?_)
  refine rw_nil ?_
  refine w_seq ?_
  refine w_seq ?_
  -- region 9
  refine w_region ?_
  refine rw_t 63 rfl rfl rfl (do_fieldaddr rfl ?_)
  refine rw_t 64 rfl rfl rfl (do_load_box rfl rfl rfl ?_)
  refine rw_t 65 rfl rfl rfl (do_fieldaddr rfl ?_)
  refine rw_t 66 rfl rfl rfl (do_load_box rfl rfl rfl ?_)
  refine rw_t 67 rfl rfl rfl (do_ix0 rfl rfl rfl (by first | omega | (simp only [ls] <;> omega)) ?_)
  refine rw_t 68 rfl rfl rfl (do_load_arr rfl rfl (by first | omega | (simp only [ls] <;> omega)) rfl ?_)
  refine rw_t 9 rfl rfl rfl (do_assign rfl ?_)
  refine rw_nil ?_
  refine w_block ?_
  refine w_loopS (ι := Nat) (fun i => [(3, .ptr 9 0 0), (4, .ptr 10 0 0), (5, .ptr 11 0 0), (6, .val (.bool false)), (8, .val (.int .i64 (lowK c p (c.First.getD e.u.toNat 0) i))), (9, .val (.int .i64 ((c.First.getD e.u.toNat 0) + (i : Int))))]) (fun i => [SO.ints false .i64 c.First, SO.ints false .i64 c.Head, SO.ints false .i64 c.Rev, SO.ints false .i64 c.Cap, SO.ints false .i64 c.Arc, SO.bools false c.Back, SO.ints false .i64 p.Res, SO.ints false .i64 p.Ex, SO.ints false .i64 p.H, .box [.val (.int .i64 c.N), .val (.int .i64 c.S), .val (.int .i64 c.T), .slc 0 0 c.First.length none, .slc 1 0 c.Head.length none, .slc 2 0 c.Rev.length none, .slc 3 0 c.Cap.length none, .slc 4 0 c.Arc.length none, .slc 5 0 c.Back.length none], .box [.slc 6 0 p.Res.length none, .slc 7 0 p.Ex.length none, .slc 8 0 p.H.length none], .box [.val (.int .i64 e.who), .val (.int .u8 e.what), .val (.int .i64 e.u), .val (.int .i64 e.arc), .val (.int .i64 e.d), .val (.int .i64 e.h), .val (.int .i64 e.low)]]) (fun i => manyOf c e.u - i) (fun i => i ≤ manyOf c e.u) (0) [0, 1, 2, 3, 4, 5, 6, 7, 8, 9, 10, 11] (by simp) ⟨.inr ⟨_, rfl, .inl rfl⟩, .inr ⟨_, rfl, .inl rfl⟩, .inr ⟨_, rfl, .inl rfl⟩, .inr ⟨_, rfl, .inl rfl⟩, .inr ⟨_, rfl, .inl rfl⟩, .inr ⟨_, rfl, .inl rfl⟩, .inr ⟨_, rfl, .inl rfl⟩, .inr ⟨_, rfl, .inl rfl⟩, .inr ⟨_, rfl, .inl rfl⟩, .inr ⟨_, rfl, .inl rfl⟩, .inr ⟨_, rfl, .inl rfl⟩, .inr ⟨_, rfl, .inl rfl⟩, trivial⟩ rfl (pre_ok rfl) hρ ⟨⟨_, rfl, rfl⟩, ⟨_, rfl, rfl⟩, ⟨_, rfl, rfl⟩, ⟨_, rfl, rfl⟩, ⟨_, rfl, Eq.symm (val_congr (rfl))⟩, ⟨_, rfl, Eq.symm (val_congr (by simp))⟩, trivial⟩ ?_
  intro i hi
  have hmo : (manyOf c e.u : Int) = c.First.getD (e.u + 1).toNat 0 - c.First.getD e.u.toNat 0 := by unfold manyOf; omega
  refine w_seq ?_
  refine w_seq ?_
  -- region 10
  refine w_region ?_
  refine rw_t 69 rfl rfl rfl (do_move rfl ?_)
  refine rw_t 70 rfl rfl rfl (do_fieldaddr rfl ?_)
  refine rw_t 71 rfl rfl rfl (do_load_box rfl rfl rfl ?_)
  refine rw_t 72 rfl rfl rfl (do_fieldaddr rfl ?_)
  refine rw_t 73 rfl rfl rfl (do_load_box rfl rfl rfl ?_)
  refine rw_t 74 rfl rfl rfl (do_add rfl rfl (by omega) ?_)
  refine rw_t 75 rfl rfl rfl (do_ix0 rfl rfl rfl (by first | omega | (simp only [ls] <;> omega)) ?_)
  refine rw_t 76 rfl rfl rfl (do_load_arr rfl rfl (by first | omega | (simp only [ls] <;> omega)) rfl ?_)
  refine rw_t 77 rfl rfl rfl (do_bin rfl rfl rfl ?_)
  refine rw_nil ?_
  refine w_cond rfl (fun hc4 => ?_) (fun hc4 => ?_)
  all_goals try simp only [bs] at hc4
  rotate_left
  · refine w_exit ?_ -- exit 0
    have hla := lowK_in hha (c := c) (c.First.getD e.u.toNat 0) i
    refine w_env [(4, .ptr 10 0 0), (5, .ptr 11 0 0), (8, .val (.int .i64 (lowK c p (c.First.getD e.u.toNat 0) i)))] ⟨⟨_, rfl, rfl⟩, ⟨_, rfl, rfl⟩, ⟨_, rfl, rfl⟩, trivial⟩ ?_
    refine w_seqB 6 ((((p.Ex.getD e.u.toNat 0) > 0 ∧ lowK c p (c.First.getD e.u.toNat 0) i ≥ (p.H.getD e.u.toNat 0)) ∧ e.h = (lowK c p (c.First.getD e.u.toNat 0) i + 1))) ?_ ?_
    · -- region 15
      refine w_region ?_
      refine rw_t 105 rfl rfl rfl (do_fieldaddr rfl ?_)
      refine rw_t 106 rfl rfl rfl (do_load_box rfl rfl rfl ?_)
      refine rw_t 107 rfl rfl rfl (do_fieldaddr rfl ?_)
      refine rw_t 108 rfl rfl rfl (do_load_box rfl rfl rfl ?_)
      refine rw_t 109 rfl rfl rfl (do_ix0 rfl rfl rfl (by first | omega | (simp only [ls] <;> omega)) ?_)
      refine rw_t 110 rfl rfl rfl (do_load_arr rfl rfl (by first | omega | (simp only [ls] <;> omega)) rfl ?_)
      refine rw_t 111 rfl rfl rfl (do_bin rfl rfl rfl ?_)
      refine rw_t 112 rfl rfl rfl (do_move rfl ?_)
      refine rw_case 112 rfl (fun g3 => ?_) (fun g3 => ?_)
      · have kg3 := g3
        try simp only [bs] at kg3
        refine rw_gt 113 7 112 true rfl rfl rfl rfl rfl rfl g3 (do_move rfl ?_)
        refine rw_gt 114 7 112 true rfl rfl rfl rfl rfl rfl g3 (do_fieldaddr rfl ?_)
        refine rw_gt 115 7 112 true rfl rfl rfl rfl rfl rfl g3 (do_load_box rfl rfl rfl ?_)
        refine rw_gt 116 7 112 true rfl rfl rfl rfl rfl rfl g3 (do_fieldaddr rfl ?_)
        refine rw_gt 117 7 112 true rfl rfl rfl rfl rfl rfl g3 (do_load_box rfl rfl rfl ?_)
        refine rw_gt 118 7 112 true rfl rfl rfl rfl rfl rfl g3 (do_ix0 rfl rfl rfl (by first | omega | (simp only [ls] <;> omega)) ?_)
        refine rw_gt 119 7 112 true rfl rfl rfl rfl rfl rfl g3 (do_load_arr rfl rfl (by first | omega | (simp only [ls] <;> omega)) rfl ?_)
        refine rw_gt 120 7 112 true rfl rfl rfl rfl rfl rfl g3 (do_bin rfl rfl rfl ?_)
        refine rw_t 121 rfl rfl rfl (do_pick_t rfl g3 rfl ?_)
        refine rw_t 122 rfl rfl rfl (do_move rfl ?_)
        refine rw_case 122 rfl (fun g4 => ?_) (fun g4 => ?_)
        · have kg4 := g4
          try simp only [bs] at kg4
          refine rw_gt 123 17 122 true rfl rfl rfl rfl rfl rfl g4 (do_fieldaddr rfl ?_)
          refine rw_gt 124 17 122 true rfl rfl rfl rfl rfl rfl g4 (do_load_box rfl rfl rfl ?_)
          refine rw_gt 125 17 122 true rfl rfl rfl rfl rfl rfl g4 (do_move rfl ?_)
          refine rw_gt 126 17 122 true rfl rfl rfl rfl rfl rfl g4 (do_add rfl rfl (by omega) ?_)
          refine rw_gt 127 17 122 true rfl rfl rfl rfl rfl rfl g4 (do_bin rfl rfl rfl ?_)
          refine rw_t 128 rfl rfl rfl (do_pick_t rfl g4 rfl ?_)
          refine rw_t 6 rfl rfl rfl (do_assign rfl ?_)
          refine rw_nil ?_
          refine ⟨rfl, ⟨_, rfl, by first | (simp; done) | (simp only [bs]; omega) | (simp [*]; done) | (simp; omega) | (constructor <;> intro h <;> simp_all <;> omega)⟩, ?_⟩
          repeat (refine ⟨⟨_, rfl, rfl⟩, ?_⟩)
          exact trivial
        · have kg4 := g4
          try simp only [bs] at kg4
          refine rw_gf 123 17 122 true rfl rfl rfl rfl rfl rfl (by rw [g4]; decide) ?_
          refine rw_gf 124 17 122 true rfl rfl rfl rfl rfl rfl (by rw [g4]; decide) ?_
          refine rw_gf 125 17 122 true rfl rfl rfl rfl rfl rfl (by rw [g4]; decide) ?_
          refine rw_gf 126 17 122 true rfl rfl rfl rfl rfl rfl (by rw [g4]; decide) ?_
          refine rw_gf 127 17 122 true rfl rfl rfl rfl rfl rfl (by rw [g4]; decide) ?_
          refine rw_t 128 rfl rfl rfl (do_pick_f rfl g4 rfl ?_)
          refine rw_t 6 rfl rfl rfl (do_assign rfl ?_)
          refine rw_nil ?_
          refine ⟨rfl, ⟨_, rfl, by first | (simp; done) | (simp only [bs]; omega) | (simp [*]; done) | (simp; omega) | (constructor <;> intro h <;> simp_all <;> omega)⟩, ?_⟩
          repeat (refine ⟨⟨_, rfl, rfl⟩, ?_⟩)
          exact trivial
      · have kg3 := g3
        try simp only [bs] at kg3
        refine rw_gf 113 7 112 true rfl rfl rfl rfl rfl rfl (by rw [g3]; decide) ?_
        refine rw_gf 114 7 112 true rfl rfl rfl rfl rfl rfl (by rw [g3]; decide) ?_
        refine rw_gf 115 7 112 true rfl rfl rfl rfl rfl rfl (by rw [g3]; decide) ?_
        refine rw_gf 116 7 112 true rfl rfl rfl rfl rfl rfl (by rw [g3]; decide) ?_
        refine rw_gf 117 7 112 true rfl rfl rfl rfl rfl rfl (by rw [g3]; decide) ?_
        refine rw_gf 118 7 112 true rfl rfl rfl rfl rfl rfl (by rw [g3]; decide) ?_
        refine rw_gf 119 7 112 true rfl rfl rfl rfl rfl rfl (by rw [g3]; decide) ?_
        refine rw_gf 120 7 112 true rfl rfl rfl rfl rfl rfl (by rw [g3]; decide) ?_
        refine rw_t 121 rfl rfl rfl (do_pick_f rfl g3 rfl ?_)
        refine rw_t 122 rfl rfl rfl (do_move rfl ?_)
        refine rw_gf 123 17 122 true rfl rfl rfl rfl rfl rfl (by decide) ?_
        refine rw_gf 124 17 122 true rfl rfl rfl rfl rfl rfl (by decide) ?_
        refine rw_gf 125 17 122 true rfl rfl rfl rfl rfl rfl (by decide) ?_
        refine rw_gf 126 17 122 true rfl rfl rfl rfl rfl rfl (by decide) ?_
        refine rw_gf 127 17 122 true rfl rfl rfl rfl rfl rfl (by decide) ?_
        refine rw_t 128 rfl rfl rfl (do_pick_f rfl rfl rfl ?_)
        refine rw_t 6 rfl rfl rfl (do_assign rfl ?_)
        refine rw_nil ?_
        refine ⟨rfl, ⟨_, rfl, by first | (simp; done) | (simp only [bs]; omega) | (simp [*]; done) | (simp; omega) | (constructor <;> intro h <;> simp_all <;> omega)⟩, ?_⟩
        repeat (refine ⟨⟨_, rfl, rfl⟩, ?_⟩)
        exact trivial
    intro b3 hb3
    refine w_ret ?_
    exact ret_eq (.inl rfl) (.cons (res_tmp rfl) .nil) [0, 1, 2, 3, 4, 5, 6, 7, 8] (Eq.symm (bool_congr (dec_of hb3 (by unfold strictP; rw [if_neg hc2, low_strict hha]; have hi' : i = manyOf c e.u := (by omega); subst hi'; exact ⟨fun q => q.2, fun q => ⟨hc1, q⟩⟩)))) ⟨.inr ⟨_, rfl, .inl rfl⟩, .inr ⟨_, rfl, .inl rfl⟩, .inr ⟨_, rfl, .inl rfl⟩, .inr ⟨_, rfl, .inl rfl⟩, .inr ⟨_, rfl, .inl rfl⟩, .inr ⟨_, rfl, .inl rfl⟩, .inr ⟨_, rfl, .inl rfl⟩, .inr ⟨_, rfl, .inl rfl⟩, .inr ⟨_, rfl, .inl rfl⟩, trivial⟩ rfl (pre_ok rfl)
  refine w_skip ?_
  refine w_seq ?_
  refine w_block ?_
  refine w_seq ?_
  have hA : ((c.First.getD e.u.toNat 0) + (i : Int)).toNat < c.Head.length := by omega
  have hhd2 := h.hd _ hA
  have hla := lowK_in hha (c := c) (c.First.getD e.u.toNat 0) i
  -- region 12
  refine w_draw mixed [0, 1, 0, 4, 0, 28, 60] [127, 255, 511] (by kernel_rfl) (by kernel_rfl) rfl rfl rfl (hle hρ rfl) ?_
  refine ra_q (j := 0) rfl rfl rfl rfl (do_fieldaddr rfl ⟨rfl, rfl⟩) (by rfl) ?_
  refine ra_q (j := 1) rfl rfl rfl rfl (do_load_box rfl rfl rfl ⟨rfl, rfl⟩) (by rfl) ?_
  refine ra_q (j := 2) rfl rfl rfl rfl (do_fieldaddr rfl ⟨rfl, rfl⟩) (by rfl) ?_
  refine ra_q (j := 3) rfl rfl rfl rfl (do_load_box rfl rfl rfl ⟨rfl, rfl⟩) (by rfl) ?_
  refine ra_q (j := 4) rfl rfl rfl rfl (do_move rfl ⟨rfl, rfl⟩) (by rfl) ?_
  refine ra_q (j := 5) rfl rfl rfl rfl (do_ix0 rfl rfl rfl (by first | omega | (simp only [ls] <;> omega)) ⟨rfl, rfl⟩) (by rfl) ?_
  refine ra_q (j := 6) rfl rfl rfl rfl (do_load_arr rfl rfl (by first | omega | (simp only [ls] <;> omega)) rfl ⟨rfl, rfl⟩) (by rfl) ?_
  refine n_done ?_
  refine rw_t 87 rfl rfl rfl (do_ix0 rfl rfl rfl (by first | omega | (simp only [ls] <;> omega)) ?_)
  refine rw_t 88 rfl rfl rfl (do_load_arr rfl rfl (by first | omega | (simp only [ls] <;> omega)) rfl ?_)
  refine rw_t 10 rfl rfl rfl (do_assign rfl ?_)
  refine rw_nil ?_
  refine w_seqB 103 (((p.Res.getD (((c.First.getD e.u.toNat 0) + (i : Int)).toNat) 0) > 0 ∧ (lowK c p (c.First.getD e.u.toNat 0) i < 0 ∨ (p.H.getD ((c.Head.getD (((c.First.getD e.u.toNat 0) + (i : Int)).toNat) 0).toNat) 0) < lowK c p (c.First.getD e.u.toNat 0) i))) ?_ ?_
  · -- region 13
    refine w_region ?_
    refine rw_t 89 rfl rfl rfl (do_fieldaddr rfl ?_)
    refine rw_t 90 rfl rfl rfl (do_load_box rfl rfl rfl ?_)
    refine rw_t 91 rfl rfl rfl (do_move rfl ?_)
    refine rw_t 92 rfl rfl rfl (do_ix0 rfl rfl rfl (by first | omega | (simp only [ls] <;> omega)) ?_)
    refine rw_t 93 rfl rfl rfl (do_load_arr rfl rfl (by first | omega | (simp only [ls] <;> omega)) rfl ?_)
    refine rw_t 94 rfl rfl rfl (do_bin rfl rfl rfl ?_)
    refine rw_t 95 rfl rfl rfl (do_move rfl ?_)
    refine rw_case 95 rfl (fun g5 => ?_) (fun g5 => ?_)
    · have kg5 := g5
      try simp only [bs] at kg5
      refine rw_gt 96 6 95 true rfl rfl rfl rfl rfl rfl g5 (do_move rfl ?_)
      refine rw_gt 97 6 95 true rfl rfl rfl rfl rfl rfl g5 (do_bin rfl rfl rfl ?_)
      refine rw_gt 98 6 95 true rfl rfl rfl rfl rfl rfl g5 (do_move rfl ?_)
      refine rw_case 98 rfl (fun g6 => ?_) (fun g6 => ?_)
      · have kg6 := g6
        try simp only [bs] at kg6
        refine rw_gf 99 9 98 false rfl rfl rfl rfl rfl rfl (by rw [g6]; decide) ?_
        refine rw_gf 100 9 98 false rfl rfl rfl rfl rfl rfl (by rw [g6]; decide) ?_
        refine rw_gf 101 9 98 false rfl rfl rfl rfl rfl rfl (by rw [g6]; decide) ?_
        refine rw_gt 102 6 95 true rfl rfl rfl rfl rfl rfl g5 (do_pick_t rfl g6 rfl ?_)
        refine rw_t 103 rfl rfl rfl (do_pick_t rfl g5 rfl ?_)
        refine rw_nil ?_
        refine ⟨rfl, ⟨_, rfl, by first | (simp; done) | (simp only [bs]; omega) | (simp [*]; done) | (simp; omega) | (constructor <;> intro h <;> simp_all <;> omega)⟩, ?_⟩
        repeat (refine ⟨⟨_, rfl, rfl⟩, ?_⟩)
        exact trivial
      · have kg6 := g6
        try simp only [bs] at kg6
        refine rw_gt 99 9 98 false rfl rfl rfl rfl rfl rfl g6 (do_move rfl ?_)
        refine rw_gt 100 9 98 false rfl rfl rfl rfl rfl rfl g6 (do_move rfl ?_)
        refine rw_gt 101 9 98 false rfl rfl rfl rfl rfl rfl g6 (do_bin rfl rfl rfl ?_)
        refine rw_gt 102 6 95 true rfl rfl rfl rfl rfl rfl g5 (do_pick_f rfl g6 rfl ?_)
        refine rw_t 103 rfl rfl rfl (do_pick_t rfl g5 rfl ?_)
        refine rw_nil ?_
        refine ⟨rfl, ⟨_, rfl, by first | (simp; done) | (simp only [bs]; omega) | (simp [*]; done) | (simp; omega) | (constructor <;> intro h <;> simp_all <;> omega)⟩, ?_⟩
        repeat (refine ⟨⟨_, rfl, rfl⟩, ?_⟩)
        exact trivial
    · have kg5 := g5
      try simp only [bs] at kg5
      refine rw_gf 96 6 95 true rfl rfl rfl rfl rfl rfl (by rw [g5]; decide) ?_
      refine rw_gf 97 6 95 true rfl rfl rfl rfl rfl rfl (by rw [g5]; decide) ?_
      refine rw_gf 98 6 95 true rfl rfl rfl rfl rfl rfl (by rw [g5]; decide) ?_
      refine rw_gu 99 9 98 false rfl rfl rfl rfl rfl rfl ?_
      refine rw_gu 100 9 98 false rfl rfl rfl rfl rfl rfl ?_
      refine rw_gu 101 9 98 false rfl rfl rfl rfl rfl rfl ?_
      refine rw_gf 102 6 95 true rfl rfl rfl rfl rfl rfl (by rw [g5]; decide) ?_
      refine rw_t 103 rfl rfl rfl (do_pick_f rfl g5 rfl ?_)
      refine rw_nil ?_
      refine ⟨rfl, ⟨_, rfl, by first | (simp; done) | (simp only [bs]; omega) | (simp [*]; done) | (simp; omega) | (constructor <;> intro h <;> simp_all <;> omega)⟩, ?_⟩
      repeat (refine ⟨⟨_, rfl, rfl⟩, ?_⟩)
      exact trivial
  intro b4 hb4
  refine w_condP hb4 rfl (fun hc5 => ?_) (fun hc5 => ?_)
  · -- region 14
    refine w_region ?_
    refine rw_t 104 rfl rfl rfl (do_move rfl ?_)
    refine rw_t 8 rfl rfl rfl (do_assign rfl ?_)
    refine rw_nil ?_
    -- region 11
    refine w_region ?_
    refine rw_t 78 rfl rfl rfl (do_move rfl ?_)
    refine rw_t 79 rfl rfl rfl (do_add rfl rfl (by omega) ?_)
    refine rw_t 9 rfl rfl rfl (do_assign rfl ?_)
    refine rw_nil ?_
    refine ⟨i + 1, [0, 1, 2, 3, 4, 5, 6, 7, 8, 9, 10, 11], by dsimp only; omega, by omega, ⟨.inr ⟨_, rfl, .inl rfl⟩, .inr ⟨_, rfl, .inl rfl⟩, .inr ⟨_, rfl, .inl rfl⟩, .inr ⟨_, rfl, .inl rfl⟩, .inr ⟨_, rfl, .inl rfl⟩, .inr ⟨_, rfl, .inl rfl⟩, .inr ⟨_, rfl, .inl rfl⟩, .inr ⟨_, rfl, .inl rfl⟩, .inr ⟨_, rfl, .inl rfl⟩, .inr ⟨_, rfl, .inl rfl⟩, .inr ⟨_, rfl, .inl rfl⟩, .inr ⟨_, rfl, .inl rfl⟩, trivial⟩, rfl, pre_ok rfl, ⟨⟨_, rfl, rfl⟩, ⟨_, rfl, rfl⟩, ⟨_, rfl, rfl⟩, ⟨_, rfl, rfl⟩, ⟨_, rfl, Eq.symm (val_congr (by rw [lowK_next hha, if_pos hc5]))⟩, ⟨_, rfl, Eq.symm (val_congr (by omega))⟩, trivial⟩⟩
  · refine w_skip ?_
    -- region 11
    refine w_region ?_
    refine rw_t 78 rfl rfl rfl (do_move rfl ?_)
    refine rw_t 79 rfl rfl rfl (do_add rfl rfl (by omega) ?_)
    refine rw_t 9 rfl rfl rfl (do_assign rfl ?_)
    refine rw_nil ?_
    refine ⟨i + 1, [0, 1, 2, 3, 4, 5, 6, 7, 8, 9, 10, 11], by dsimp only; omega, by omega, ⟨.inr ⟨_, rfl, .inl rfl⟩, .inr ⟨_, rfl, .inl rfl⟩, .inr ⟨_, rfl, .inl rfl⟩, .inr ⟨_, rfl, .inl rfl⟩, .inr ⟨_, rfl, .inl rfl⟩, .inr ⟨_, rfl, .inl rfl⟩, .inr ⟨_, rfl, .inl rfl⟩, .inr ⟨_, rfl, .inl rfl⟩, .inr ⟨_, rfl, .inl rfl⟩, .inr ⟨_, rfl, .inl rfl⟩, .inr ⟨_, rfl, .inl rfl⟩, .inr ⟨_, rfl, .inl rfl⟩, trivial⟩, rfl, pre_ok rfl, ⟨⟨_, rfl, rfl⟩, ⟨_, rfl, rfl⟩, ⟨_, rfl, rfl⟩, ⟨_, rfl, rfl⟩, ⟨_, rfl, Eq.symm (val_congr (by rw [lowK_next hha, if_neg hc5]))⟩, ⟨_, rfl, Eq.symm (val_congr (by omega))⟩, trivial⟩⟩
-- f15 "acequia/acequialaw09.same"
set_option maxHeartbeats 8000000 in
set_option synthInstance.maxHeartbeats 400000 in
set_option synthInstance.maxSize 2000 in
theorem t_same (a b : Pre) (hl : a.Res.length < 4611686018427387904 ∧ a.Ex.length < 4611686018427387904 ∧ a.H.length < 4611686018427387904) : Tri Try.prog 15 [.agg [.slc 0 0 a.Res.length none, .slc 1 0 a.Ex.length none, .slc 2 0 a.H.length none], .agg [.slc 3 0 b.Res.length none, .slc 4 0 b.Ex.length none, .slc 5 0 b.H.length none]] [SO.ints false .i64 a.Res, SO.ints false .i64 a.Ex, SO.ints false .i64 a.H, SO.ints false .i64 b.Res, SO.ints false .i64 b.Ex, SO.ints false .i64 b.H] (fun s H => s = .val (.bool (decide (sameP a b))) ∧ H = [SO.ints false .i64 a.Res, SO.ints false .i64 a.Ex, SO.ints false .i64 a.H, SO.ints false .i64 b.Res, SO.ints false .i64 b.Ex, SO.ints false .i64 b.H]) := by
  refine tri_of_w (fn := Try.f15) Try.func15 rfl (by simp [Try.f15]) ?_
  intro ρ w hρ
  refine w_seq ?_
  -- region 0
  refine w_region ?_
  refine rw_t 2 rfl rfl rfl (n_box_agg (n := 6) rfl rfl ?_)
  refine rw_t 3 rfl rfl rfl (n_box_agg (n := 7) rfl rfl ?_)
  refine rw_t 4 rfl rfl rfl (do_assign rfl ?_)
  refine rw_nil ?_
  refine w_env [(2, .ptr 6 0 0), (3, .ptr 7 0 0)] ⟨⟨_, rfl, rfl⟩, ⟨_, rfl, rfl⟩, trivial⟩ ?_
  refine w_seqB 4 (((a.Res = b.Res ∧ a.Ex = b.Ex) ∧ a.H = b.H)) ?_ ?_
  · -- region 1
    refine w_region ?_
    refine rw_t 5 rfl rfl rfl (do_fieldaddr rfl ?_)
    refine rw_t 6 rfl rfl rfl (do_load_box rfl rfl rfl ?_)
    refine rw_t 7 rfl rfl rfl (do_fieldaddr rfl ?_)
    refine rw_t 8 rfl rfl rfl (do_load_box rfl rfl rfl ?_)
    refine rw_t 9 rfl rfl rfl (do_callR (X' := .val (.bool (decide (a.Res = b.Res)))) rfl rfl (t_Longs (a := a.Res) (b := b.Res) (by omega)) [0, 3] ⟨.inr ⟨_, rfl, srv⟩, .inr ⟨_, rfl, srv⟩, trivial⟩ rfl rfl rfl ?_)
    refine rw_t 10 rfl rfl rfl (do_move rfl ?_)
    refine rw_case 10 rfl (fun g1 => ?_) (fun g1 => ?_)
    · have kg1 := g1
      try simp only [bs] at kg1
      refine rw_gt 11 5 10 true rfl rfl rfl rfl rfl rfl g1 (do_fieldaddr rfl ?_)
      refine rw_gt 12 5 10 true rfl rfl rfl rfl rfl rfl g1 (do_load_box rfl rfl rfl ?_)
      refine rw_gt 13 5 10 true rfl rfl rfl rfl rfl rfl g1 (do_fieldaddr rfl ?_)
      refine rw_gt 14 5 10 true rfl rfl rfl rfl rfl rfl g1 (do_load_box rfl rfl rfl ?_)
      refine rw_gt 15 5 10 true rfl rfl rfl rfl rfl rfl g1 (do_callR (X' := .val (.bool (decide (a.Ex = b.Ex)))) rfl rfl (t_Longs (a := a.Ex) (b := b.Ex) (by omega)) [1, 4] ⟨.inr ⟨_, rfl, srv⟩, .inr ⟨_, rfl, srv⟩, trivial⟩ rfl rfl rfl ?_)
      refine rw_t 16 rfl rfl rfl (do_pick_t rfl g1 rfl ?_)
      refine rw_t 17 rfl rfl rfl (do_move rfl ?_)
      refine rw_case 17 rfl (fun g2 => ?_) (fun g2 => ?_)
      · have kg2 := g2
        try simp only [bs] at kg2
        refine rw_gt 18 12 17 true rfl rfl rfl rfl rfl rfl g2 (do_fieldaddr rfl ?_)
        refine rw_gt 19 12 17 true rfl rfl rfl rfl rfl rfl g2 (do_load_box rfl rfl rfl ?_)
        refine rw_gt 20 12 17 true rfl rfl rfl rfl rfl rfl g2 (do_fieldaddr rfl ?_)
        refine rw_gt 21 12 17 true rfl rfl rfl rfl rfl rfl g2 (do_load_box rfl rfl rfl ?_)
        refine rw_gt 22 12 17 true rfl rfl rfl rfl rfl rfl g2 (do_callR (X' := .val (.bool (decide (a.H = b.H)))) rfl rfl (t_Ints (a := a.H) (b := b.H) (by omega)) [2, 5] ⟨.inr ⟨_, rfl, srv⟩, .inr ⟨_, rfl, srv⟩, trivial⟩ rfl rfl rfl ?_)
        refine rw_t 23 rfl rfl rfl (do_pick_t rfl g2 rfl ?_)
        refine rw_t 4 rfl rfl rfl (do_assign rfl ?_)
        refine rw_nil ?_
        refine ⟨rfl, ⟨_, rfl, by first | (simp; done) | (simp only [bs]; omega) | (simp [*]; done) | (simp; omega) | (constructor <;> intro h <;> simp_all <;> omega)⟩, ?_⟩
        repeat (refine ⟨⟨_, rfl, rfl⟩, ?_⟩)
        exact trivial
      · have kg2 := g2
        try simp only [bs] at kg2
        refine rw_gf 18 12 17 true rfl rfl rfl rfl rfl rfl (by rw [g2]; decide) ?_
        refine rw_gf 19 12 17 true rfl rfl rfl rfl rfl rfl (by rw [g2]; decide) ?_
        refine rw_gf 20 12 17 true rfl rfl rfl rfl rfl rfl (by rw [g2]; decide) ?_
        refine rw_gf 21 12 17 true rfl rfl rfl rfl rfl rfl (by rw [g2]; decide) ?_
        refine rw_gf 22 12 17 true rfl rfl rfl rfl rfl rfl (by rw [g2]; decide) ?_
        refine rw_t 23 rfl rfl rfl (do_pick_f rfl g2 rfl ?_)
        refine rw_t 4 rfl rfl rfl (do_assign rfl ?_)
        refine rw_nil ?_
        refine ⟨rfl, ⟨_, rfl, by first | (simp; done) | (simp only [bs]; omega) | (simp [*]; done) | (simp; omega) | (constructor <;> intro h <;> simp_all <;> omega)⟩, ?_⟩
        repeat (refine ⟨⟨_, rfl, rfl⟩, ?_⟩)
        exact trivial
    · have kg1 := g1
      try simp only [bs] at kg1
      refine rw_gf 11 5 10 true rfl rfl rfl rfl rfl rfl (by rw [g1]; decide) ?_
      refine rw_gf 12 5 10 true rfl rfl rfl rfl rfl rfl (by rw [g1]; decide) ?_
      refine rw_gf 13 5 10 true rfl rfl rfl rfl rfl rfl (by rw [g1]; decide) ?_
      refine rw_gf 14 5 10 true rfl rfl rfl rfl rfl rfl (by rw [g1]; decide) ?_
      refine rw_gf 15 5 10 true rfl rfl rfl rfl rfl rfl (by rw [g1]; decide) ?_
      refine rw_t 16 rfl rfl rfl (do_pick_f rfl g1 rfl ?_)
      refine rw_t 17 rfl rfl rfl (do_move rfl ?_)
      refine rw_gf 18 12 17 true rfl rfl rfl rfl rfl rfl (by decide) ?_
      refine rw_gf 19 12 17 true rfl rfl rfl rfl rfl rfl (by decide) ?_
      refine rw_gf 20 12 17 true rfl rfl rfl rfl rfl rfl (by decide) ?_
      refine rw_gf 21 12 17 true rfl rfl rfl rfl rfl rfl (by decide) ?_
      refine rw_gf 22 12 17 true rfl rfl rfl rfl rfl rfl (by decide) ?_
      refine rw_t 23 rfl rfl rfl (do_pick_f rfl rfl rfl ?_)
      refine rw_t 4 rfl rfl rfl (do_assign rfl ?_)
      refine rw_nil ?_
      refine ⟨rfl, ⟨_, rfl, by first | (simp; done) | (simp only [bs]; omega) | (simp [*]; done) | (simp; omega) | (constructor <;> intro h <;> simp_all <;> omega)⟩, ?_⟩
      repeat (refine ⟨⟨_, rfl, rfl⟩, ?_⟩)
      exact trivial
  intro b1 hb1
  refine w_ret ?_
  exact ret_eq (.inl rfl) (.cons (res_tmp rfl) .nil) [0, 1, 2, 3, 4, 5] (Eq.symm (bool_congr (dec_of hb1 (by unfold sameP; rw [and_assoc])))) ⟨.inr ⟨_, rfl, .inl rfl⟩, .inr ⟨_, rfl, .inl rfl⟩, .inr ⟨_, rfl, .inl rfl⟩, .inr ⟨_, rfl, .inl rfl⟩, .inr ⟨_, rfl, .inl rfl⟩, .inr ⟨_, rfl, .inl rfl⟩, trivial⟩ rfl (pre_ok rfl)
end Go.Proofs

set_option linter.unusedVariables false
namespace Go.Proofs
open Go Go.Sx Go.RowKit
/-- A small net: what the statements make of any. -/
structure Small (n : Net) : Prop extends NetOK n where
  sz : n.N ≤ 64 ∧ n.arcs.length ≤ 64
  prod : n.N.toNat * (2 * n.arcs.length) ≤ 2048
  caps : ∀ a ∈ n.arcs, a.cap ≤ 1125899906842624
theorem first_at (n : Net) {v : Nat} (hv : v ≤ n.N.toNat) : (makeC n).First.getD v 0 = ((rowsOf n v).length : Int) := by
  show (firstOf n n.N.toNat ++ [((rows n).length : Int)]).getD v 0 = _
  have hl := firstOf_len n n.N.toNat
  simp only [List.getD]
  rcases Nat.eq_or_lt_of_le hv with h | h
  · subst h
    rw [List.getElem?_append_right (by omega), hl, Nat.sub_self]; rfl
  · rw [List.getElem?_append_left (by omega)]
    simp [firstOf, h]
theorem rowsOf_pre (n : Net) {v w : Nat} (h : v ≤ w) : rowsOf n v <+: rowsOf n w := by
  induction w with
  | zero => have : v = 0 := by omega
            subst this; exact List.prefix_refl _
  | succ w ih =>
    rcases Nat.eq_or_lt_of_le h with h1 | h1
    · subst h1; exact List.prefix_refl _
    · exact (ih (by omega)).trans (by rw [rowsOf_next]; exact List.prefix_append _ _)
theorem rowsOf_mono (n : Net) {v w : Nat} (h : v ≤ w) : (rowsOf n v).length ≤ (rowsOf n w).length := (rowsOf_pre n h).length_le
theorem getD_pre {α : Type} {l m : List α} (h : l <+: m) (d : α) {i : Nat} (hi : i < l.length) : m.getD i d = l.getD i d := by
  obtain ⟨t, rfl⟩ := h
  simp only [List.getD, List.getElem?_append_left hi]
theorem make_ok {n : Net} (h : Small n) : CsrOK (makeC n) where
  toCsrLen := make_len h.toNetOK h.sz
  s := h.s
  t := h.t
  st := h.st
  mono := fun v hv => by
    have hv' : v < n.N.toNat := hv
    rw [first_at n (by omega), first_at n (by omega), make_head]
    have h1 := rowsOf_mono n (show v ≤ v + 1 by omega)
    have h2 : (rowsOf n (v + 1)).length ≤ (rows n).length := rowsOf_mono n (show v + 1 ≤ n.N.toNat by omega)
    omega
  hd := fun a ha => by
    rw [make_head] at ha
    show 0 ≤ ((rows n).map Row.hd).getD a 0 ∧ ((rows n).map Row.hd).getD a 0 < n.N
    rw [getD_hd]
    obtain ⟨k, hk, hne, hc⟩ := row_cases h.toNetOK ha
    have := h.arc hk
    rcases hc with e | e <;> rw [e] <;> dsimp only <;> omega
  rv := fun a ha => by
    rw [make_head] at ha ⊢
    obtain ⟨j, h1, h2, h3, h4, h5⟩ := rev_spec h.toNetOK ha
    rw [h3]; omega
  cp := fun a ha => by
    rw [make_head] at ha
    obtain ⟨k, hk, hne, hc⟩ := row_cases h.toNetOK ha
    have := h.arc hk
    have h1 := cap_le h.toNetOK hk
    have harc : ((rows n).getD a Row.none).arc = (k : Int) := by rcases hc with e | e <;> rw [e]
    rw [most_spec h.toNetOK ha harc]
    refine ⟨?_, by omega, h1⟩
    show 0 ≤ ((rows n).map Row.cap).getD a 0
    rw [getD_cap]
    rcases hc with e | e <;> rw [e] <;> dsimp only <;> omega
theorem make_t {n : Net} (h : Small n) : CsrT (makeC n) where
  toCsrOK := make_ok h
  f0 := by rw [first_at n (by omega)]; rfl
  fN := by
    have : (makeC n).N.toNat = n.N.toNat := rfl
    rw [this, first_at n (Nat.le_refl _), make_head]; rfl
  small := by
    rw [make_head]
    exact Nat.le_trans (rowsOf_len n n.N.toNat) h.prod
  capv := fun a ha => by
    rw [make_head] at ha
    obtain ⟨k, hk, hne, hc⟩ := row_cases h.toNetOK ha
    have harc : ((rows n).getD a Row.none).arc = (k : Int) := by rcases hc with e | e <;> rw [e]
    rw [most_spec h.toNetOK ha harc]
    exact h.caps _ (getD_mem _ hk)
theorem tail_end {n : Net} (h : Small n) {i : Nat} (hi : i < (rows n).length) : tailOf (makeC n) i = endOf n ((rows n).getD i Row.none).key := by
  obtain ⟨v, h1, ⟨h2, h3⟩, h4, _⟩ := (make_t h).tail_at (a := (i : Int)) (by omega) (by rw [make_head]; omega)
  have hv : v < n.N.toNat := h1
  rw [first_at n (by omega)] at h2 h3
  rw [h4]
  have e1 : (rows n).getD i Row.none = (rowsOf n (v + 1)).getD i Row.none := getD_pre (rowsOf_pre n (show v + 1 ≤ n.N.toNat by omega)) _ (by omega)
  rw [e1]
  have hlen : i < (rowsOf n (v + 1)).length := by omega
  have hm : (rowsOf n (v + 1)).getD i Row.none ∈ rowsAt n v n.arcs.length := by
    rw [rowsOf_next] at hlen ⊢
    simp only [List.getD]
    rw [List.getElem?_append_right (by omega)]
    rw [List.length_append] at hlen
    have : i - (rowsOf n v).length < (rowsAt n v n.arcs.length).length := by omega
    rw [List.getElem?_eq_getElem this]
    exact List.getElem_mem _
  exact (end_rowsAt hm).symm
theorem make_g {n : Net} (h : Small n) : CsrG (makeC n) where
  toCsrT := make_t h
  rne := fun a ha => by
    rw [make_head] at ha
    obtain ⟨j, h1, h2, h3, h4, h5⟩ := rev_spec h.toNetOK ha
    rw [h3]; omega
  rrv := fun a ha => by
    rw [make_head] at ha
    obtain ⟨j, h1, h2, h3, h4, h5⟩ := rev_spec h.toNetOK ha
    obtain ⟨j', k1, k2, k3, k4, k5⟩ := rev_spec h.toNetOK h1
    rw [h3, Int.toNat_natCast, k3]
    have : j' = a := key_inj k1 ha (by unfold Row.key; rw [k4, k5, h4, h5]; simp)
    rw [this]
  rbk := fun a ha => by
    rw [make_head] at ha
    obtain ⟨j, h1, h2, h3, h4, h5⟩ := rev_spec h.toNetOK ha
    rw [h3, Int.toNat_natCast]
    show ((rows n).map Row.back).getD j false = !(((rows n).map Row.back).getD a false)
    rw [getD_back, getD_back, h5]
  rtl := fun a ha => by
    rw [make_head] at ha
    obtain ⟨j, h1, h2, h3, h4, h5⟩ := rev_spec h.toNetOK ha
    rw [tail_end h ha, h3, Int.toNat_natCast]
    show _ = ((rows n).map Row.hd).getD j 0
    rw [getD_hd]
    obtain ⟨k, hk, hne, hc⟩ := row_cases h.toNetOK ha
    obtain ⟨k', hk', hne', hc'⟩ := row_cases h.toNetOK h1
    rcases hc with e | e <;> rcases hc' with e' | e' <;> rw [e, e'] at h4 h5 <;> dsimp only at h4 h5
    · cases h5
    · have : k' = k := by omega
      subst this; rw [e, e']; simp [endOf, Row.key]
    · have : k' = k := by omega
      subst this; rw [e, e']; simp [endOf, Row.key]
    · cases h5
/-! ### The first state -/
def sumN (F : Nat → Int) : Nat → Int
  | 0 => 0
  | k + 1 => sumN F k + F k
theorem sumN_add (F G : Nat → Int) : ∀ k, sumN (fun i => F i + G i) k = sumN F k + sumN G k
  | 0 => rfl
  | k + 1 => by simp only [sumN, sumN_add F G k]; omega
theorem sumN_zero {F : Nat → Int} : ∀ {k : Nat}, (∀ i, i < k → F i = 0) → sumN F k = 0
  | 0, _ => rfl
  | k + 1, h => by simp only [sumN]; rw [sumN_zero (fun i hi => h i (by omega)), h k (by omega)]; rfl
theorem sumN_congr {F G : Nat → Int} : ∀ {k : Nat}, (∀ i, i < k → F i = G i) → sumN F k = sumN G k
  | 0, _ => rfl
  | k + 1, h => by simp only [sumN]; rw [sumN_congr (fun i hi => h i (by omega)), h k (by omega)]
theorem sumN_one {F : Nat → Int} {j : Nat} : ∀ {k : Nat}, j < k → (∀ i, i < k → i ≠ j → F i = 0) → sumN F k = F j
  | k + 1, hj, h => by
    simp only [sumN]
    rcases Nat.eq_or_lt_of_le (Nat.le_of_lt_succ hj) with e | hlt
    · subst e; rw [sumN_zero (fun i hi => h i (by omega) (by omega))]; omega
    · rw [sumN_one hlt (fun i hi hne => h i (by omega) hne), h k (by omega) (by omega)]; omega
def sumL (g : Row → Int) (l : List Row) : Int := (l.map g).sum
theorem sumL_app (g : Row → Int) (l m : List Row) : sumL g (l ++ m) = sumL g l + sumL g m := by simp [sumL]
/-- What an arc brings a vertex, by its residual arcs. -/
def gX (n : Net) (f : List Int) (v : Int) (r : Row) : Int := if r.back = true then (if endOf n r.key = v then f.getD r.arc.toNat 0 else 0) - (if r.hd = v then f.getD r.arc.toNat 0 else 0) else 0
theorem exK_sumL {n : Net} (h : Small n) (f : List Int) (v : Int) : ∀ k, k ≤ (rows n).length → exK (makeC n) (resOf (makeC n) f (makeC n).Head.length) k v = sumL (gX n f v) ((rows n).take k)
  | 0, _ => rfl
  | k + 1, hk => by
    simp only [exK]
    rw [exK_sumL h f v k (by omega), take_snoc Row.none (show k < (rows n).length by omega), sumL_app, tail_end h (by omega)]
    congr 1
    show (if ((rows n).map Row.back).getD k false = true then _ else _) = (List.map (gX n f v) [(rows n).getD k Row.none]).sum
    have e2 : (makeC n).Head.getD k 0 = ((rows n).getD k Row.none).hd := getD_hd _ _
    have e3 : (makeC n).Arc.getD k 0 = ((rows n).getD k Row.none).arc := getD_arc _ _
    have e4 : (makeC n).Back.getD k false = ((rows n).getD k Row.none).back := getD_back _ _
    rw [getD_back, e2]
    simp only [List.map_cons, List.map_nil, List.sum_cons, List.sum_nil, Int.add_zero, gX]
    cases hb : ((rows n).getD k Row.none).back with
    | false => rfl
    | true =>
      have e1 : (resOf (makeC n) f (makeC n).Head.length).getD k 0 = f.getD ((rows n).getD k Row.none).arc.toNat 0 := by
        have hlt : k < (makeC n).Head.length := by rw [make_head]; omega
        have : (resOf (makeC n) f (makeC n).Head.length).getD k 0 = resAt (makeC n) f k := by
          simp [resOf, List.getD, hlt]
        rw [this]
        unfold resAt flowAt
        rw [e4, hb, if_pos rfl, e3]
      rw [e1]
theorem rowsOf_sum (n : Net) (g : Row → Int) : ∀ v, sumL g (rowsOf n v) = sumN (fun u => sumL g (rowsAt n (u : Int) n.arcs.length)) v
  | 0 => rfl
  | v + 1 => by rw [rowsOf_next, sumL_app, rowsOf_sum n g v]; rfl
/-- What the first arcs bring a vertex. -/
def arcX (n : Net) (f : List Int) (v : Int) : Nat → Int
  | 0 => 0
  | k + 1 => arcX n f v k + (if (n.arcs.getD k Arc.none).frm = (n.arcs.getD k Arc.none).to then 0 else (if (n.arcs.getD k Arc.none).to = v then f.getD k 0 else 0) - (if (n.arcs.getD k Arc.none).frm = v then f.getD k 0 else 0))
theorem row_sum (n : Net) (f : List Int) (v u : Int) (k : Nat) : sumL (gX n f v) (rowOf u (n.arcs.getD k Arc.none) k) = if (n.arcs.getD k Arc.none).frm = (n.arcs.getD k Arc.none).to then 0 else if (n.arcs.getD k Arc.none).to = u then (if (n.arcs.getD k Arc.none).to = v then f.getD k 0 else 0) - (if (n.arcs.getD k Arc.none).frm = v then f.getD k 0 else 0) else 0 := by
  unfold rowOf
  by_cases h1 : (n.arcs.getD k Arc.none).frm = (n.arcs.getD k Arc.none).to
  · rw [if_pos h1, if_pos h1]; rfl
  · rw [if_neg h1, if_neg h1]
    by_cases h2 : (n.arcs.getD k Arc.none).frm = u
    · rw [if_pos h2]
      by_cases h3 : (n.arcs.getD k Arc.none).to = u
      · exact (h1 (by omega)).elim
      · rw [if_neg h3, if_neg h3]; simp [sumL, gX]
    · rw [if_neg h2]
      by_cases h3 : (n.arcs.getD k Arc.none).to = u
      · rw [if_pos h3, if_pos h3]; simp [sumL, gX, endOf, Row.key]
      · rw [if_neg h3, if_neg h3]; rfl
theorem all_sum {n : Net} (h : NetOK n) (f : List Int) (v : Int) : ∀ m, m ≤ n.arcs.length → sumN (fun u => sumL (gX n f v) (rowsAt n (u : Int) m)) n.N.toNat = arcX n f v m
  | 0, _ => sumN_zero (fun i _ => rfl)
  | m + 1, hm => by
    have h1 := all_sum h f v m (by omega)
    have h2 : sumN (fun u => sumL (gX n f v) (rowsAt n (u : Int) (m + 1))) n.N.toNat = sumN (fun u => sumL (gX n f v) (rowsAt n (u : Int) m) + sumL (gX n f v) (rowOf (u : Int) (n.arcs.getD m Arc.none) m)) n.N.toNat :=
      sumN_congr (fun i _ => by rw [rowsAt_next, sumL_app])
    rw [h2, sumN_add, h1]
    simp only [arcX]
    congr 1
    have ha := h.arc (show m < n.arcs.length by omega)
    by_cases hc : (n.arcs.getD m Arc.none).frm = (n.arcs.getD m Arc.none).to
    · rw [if_pos hc]
      exact sumN_zero (fun i _ => by rw [row_sum, if_pos hc])
    · rw [if_neg hc]
      rw [sumN_one (j := (n.arcs.getD m Arc.none).to.toNat) (by omega) (fun i hi hne => by rw [row_sum, if_neg hc, if_neg (by omega)])]
      rw [row_sum, if_neg hc, if_pos (by omega)]
theorem ex_arcs {n : Net} (h : Small n) (f : List Int) (v : Int) : exOf (makeC n) (resOf (makeC n) f (makeC n).Head.length) v = arcX n f v n.arcs.length := by
  unfold exOf
  rw [show (makeC n).Head.length = (rows n).length from make_head n, ← make_head n, exK_sumL h f v _ (by rw [make_head]; exact Nat.le_refl _), make_head, List.take_length]
  show sumL _ (rowsOf n n.N.toNat) = _
  rw [rowsOf_sum, all_sum h.toNetOK f v _ (Nat.le_refl _)]
end Go.Proofs

set_option linter.unusedVariables false
namespace Go.Proofs
open Go Go.Sx Go.RowKit
open Classical in
theorem begF_get (n : Net) : ∀ m, m ≤ n.arcs.length → ∀ k, k < n.arcs.length → (begF n m).getD k 0 = if k < m ∧ fullArc n k then (n.arcs.getD k Arc.none).cap else 0
  | 0, _, k, hk => by rw [if_neg (by omega)]; simp [begF, List.getD, hk]
  | m + 1, hm, k, hk => by
    simp only [begF]
    have ih := begF_get n m (by omega) k hk
    by_cases hf : fullArc n m
    · rw [if_pos hf, getD_set _ _ _ _ (by rw [begF_len]; omega), ih]
      by_cases e : m = k
      · subst e; rw [if_pos rfl, if_pos ⟨by omega, hf⟩]
      · rw [if_neg e]
        by_cases hc : k < m ∧ fullArc n k
        · rw [if_pos hc, if_pos ⟨by omega, hc.2⟩]
        · rw [if_neg hc, if_neg (fun q => hc ⟨by omega, q.2⟩)]
    · rw [if_neg hf, ih]
      by_cases hc : k < m ∧ fullArc n k
      · rw [if_pos hc, if_pos ⟨by omega, hc.2⟩]
      · rw [if_neg hc, if_neg (fun q => ?_)]
        rcases Nat.lt_or_ge k m with h1 | h1
        · exact hc ⟨h1, q.2⟩
        · have : k = m := by omega
          subst this; exact hf q.2
theorem begX_get {n : Net} (h : NetOK n) (v : Nat) (hv : v < n.N.toNat) : ∀ m, m ≤ n.arcs.length → (begX n m).getD v 0 = arcX n (begF n n.arcs.length) v m
  | 0, _ => by simp [begX, arcX, List.getD, hv]
  | m + 1, hm => by
    have ih := begX_get h v hv m (by omega)
    have hF := begF_get n n.arcs.length (Nat.le_refl _) m (by omega)
    have ha := h.arc (show m < n.arcs.length by omega)
    simp only [begX, arcX]
    by_cases hf : fullArc n m
    · have hne : ¬ (n.arcs.getD m Arc.none).frm = (n.arcs.getD m Arc.none).to := by
        obtain ⟨h1, h2⟩ := hf
        rw [h1]; exact Ne.symm h2
      rw [if_pos ⟨by omega, hf⟩] at hF
      rw [if_pos hf, hF, if_neg hne]
      have hl := begX_len n m
      rw [getD_set _ _ _ _ (by rw [List.length_set]; omega), getD_set _ _ _ _ (by omega), getD_set _ _ _ _ (by omega)]
      rw [if_neg (show ¬ (n.arcs.getD m Arc.none).frm.toNat = (n.arcs.getD m Arc.none).to.toNat by omega)]
      by_cases e1 : (n.arcs.getD m Arc.none).to.toNat = v
      · rw [if_pos e1, if_pos (show (n.arcs.getD m Arc.none).to = (v : Int) by omega), if_neg (show ¬ (n.arcs.getD m Arc.none).frm = (v : Int) by omega), e1, ih]; omega
      · rw [if_neg e1, if_neg (show ¬ (n.arcs.getD m Arc.none).to = (v : Int) by omega)]
        by_cases e2 : (n.arcs.getD m Arc.none).frm.toNat = v
        · rw [if_pos e2, if_pos (show (n.arcs.getD m Arc.none).frm = (v : Int) by omega), e2, ih]; omega
        · rw [if_neg e2, if_neg (show ¬ (n.arcs.getD m Arc.none).frm = (v : Int) by omega), ih]; omega
    · rw [if_neg (fun q => hf q.2)] at hF
      rw [if_neg hf, hF, ih]
      simp only [ite_self, Int.sub_zero, Int.add_zero]
theorem arcX_nonneg {n : Net} (h : NetOK n) (v : Int) (hv : v ≠ n.S) : ∀ m, m ≤ n.arcs.length → 0 ≤ arcX n (begF n n.arcs.length) v m
  | 0, _ => Int.le_refl _
  | m + 1, hm => by
    have ih := arcX_nonneg h v hv m (by omega)
    have hF := begF_get n n.arcs.length (Nat.le_refl _) m (by omega)
    have ha := h.arc (show m < n.arcs.length by omega)
    simp only [arcX]
    by_cases hf : fullArc n m
    · rw [if_pos ⟨by omega, hf⟩] at hF
      rw [hF]
      obtain ⟨h1, h2⟩ := hf
      rw [if_neg (show ¬ (n.arcs.getD m Arc.none).frm = (n.arcs.getD m Arc.none).to by rw [h1]; exact Ne.symm h2), if_neg (show ¬ (n.arcs.getD m Arc.none).frm = v by rw [h1]; exact Ne.symm hv)]
      split <;> omega
    · rw [if_neg (fun q => hf q.2)] at hF
      rw [hF]
      simp only [ite_self, Int.sub_zero, Int.add_zero]
      exact ih
theorem res_get (c : Csr) (f : List Int) {a m : Nat} (h : a < m) : (resOf c f m).getD a 0 = resAt c f a := by simp [resOf, List.getD, h]
/-- What a flow leaves: of an arc and its partner. -/
theorem res_pairs {n : Net} (h : Small n) {f : List Int} (hl : f.length = n.arcs.length) (hf : ∀ k, k < n.arcs.length → 0 ≤ f.getD k 0 ∧ f.getD k 0 ≤ (n.arcs.getD k Arc.none).cap) : pairsP (makeC n) (resOf (makeC n) f (makeC n).Head.length) := by
  intro a ha
  have hg := make_g h
  have hr := res_in h.toNetOK hl hf
  have h1 := hr.flow a ha
  have h2 := hg.rv a ha
  have hb : (makeC n).Rev.getD a 0 < ((makeC n).Head.length : Int) := h2.2
  rw [res_get _ _ ha, res_get _ _ (show ((makeC n).Rev.getD a 0).toNat < (makeC n).Head.length by omega)]
  have hfl : flowAt (makeC n) f ((makeC n).Rev.getD a 0).toNat = flowAt (makeC n) f a := by
    rw [make_head] at ha
    obtain ⟨j, k1, k2, k3, k4, k5⟩ := rev_spec h.toNetOK ha
    unfold flowAt
    rw [k3, Int.toNat_natCast]
    show f.getD (((rows n).map Row.arc).getD j 0).toNat 0 = f.getD (((rows n).map Row.arc).getD a 0).toNat 0
    rw [getD_arc, getD_arc, k4]
  have hbk := hg.rbk a ha
  have hm := most_rev hg ha
  unfold resAt
  rw [hfl, hm, hbk]
  cases (makeC n).Back.getD a false with
  | true => simp only [Bool.not_true, if_true]; rw [if_neg (by decide)]; omega
  | false => simp only [Bool.not_false, if_true]; rw [if_neg (by decide)]; omega
theorem begH_get {n : Net} (h : NetOK n) {v : Nat} (hv : v < n.N.toNat) : (begH n).getD v 0 = if n.S.toNat = v then n.N else 0 := by
  unfold begH
  have := h.s
  rw [getD_set _ _ _ _ (by simp; omega)]
  split
  · rfl
  · simp [List.getD, hv]
theorem beg_right {n : Net} (h : Small n) : rightP (makeC n) (begP n) := by
  have hF := begF_in h.toNetOK n.arcs.length (Nat.le_refl _)
  have hlo := h.lo
  have hs := h.s
  have ht := h.t
  have hst := h.st
  refine ⟨⟨resOf_len _ _ _, begX_len n _, by show (begH n).length = _; simp [begH, makeC]⟩, ⟨?_, ?_, ?_⟩, res_pairs h (begF_len n _) hF, ?_⟩
  · intro v hv
    have hv' : v < n.N.toNat := hv
    show 0 ≤ (begH n).getD v 0 ∧ (begH n).getD v 0 ≤ 2 * n.N
    rw [begH_get h.toNetOK hv']
    split <;> omega
  · show (begH n).getD n.S.toNat 0 = n.N
    rw [begH_get h.toNetOK (by omega), if_pos rfl]
  · show (begH n).getD n.T.toNat 0 = 0
    rw [begH_get h.toNetOK (by omega), if_neg (by omega)]
  · intro v hv
    have hv' : v < n.N.toNat := hv
    have e : (begP n).Ex.getD v 0 = exOf (makeC n) (begP n).Res v := by
      show (begX n n.arcs.length).getD v 0 = exOf (makeC n) (resOf (makeC n) (begF n n.arcs.length) (makeC n).Head.length) v
      rw [ex_arcs h, begX_get h.toNetOK v hv' _ (Nat.le_refl _)]
    refine ⟨e, fun hne => ?_⟩
    show 0 ≤ (begX n n.arcs.length).getD v 0
    rw [begX_get h.toNetOK v hv' _ (Nat.le_refl _)]
    exact arcX_nonneg h.toNetOK _ hne _ (Nat.le_refl _)
/-- Nets that are made of any are small. -/
theorem some_small (n : Net) {va ar : Int} (hva : 2 ≤ va ∧ va ≤ 64) (har : 0 ≤ ar ∧ ar ≤ 64) (hp : va.toNat * (2 * ar.toNat) ≤ 2048) (hn : In64 n.N ∧ In64 n.S ∧ In64 n.T) (hin : ∀ a ∈ n.arcs, In64 a.frm ∧ In64 a.to ∧ In64 a.cap) : Small (someNet n va ar) := by
  have hN : 2 ≤ someN n va ∧ someN n va ≤ va := by
    unfold someN
    have h0 := among_lo n.N (va - 1)
    have h1 := among_hi n.N (n := va - 1) (by omega)
    omega
  have hlen : (someNet n va ar).arcs.length ≤ ar.toNat := by simp only [someNet, List.length_map, List.length_take]; omega
  have hS : 0 ≤ someS n va ∧ someS n va < someN n va := ⟨among_lo _ _, among_hi _ (by omega)⟩
  have hA : ∀ a ∈ (someNet n va ar).arcs, 0 ≤ a.frm ∧ a.frm < someN n va ∧ 0 ≤ a.to ∧ a.to < someN n va ∧ 0 ≤ a.cap ∧ a.cap ≤ 1125899906842624 := by
    intro a ha
    simp only [someNet, List.mem_map] at ha
    obtain ⟨b, hb, rfl⟩ := ha
    have hb' := hin b (List.mem_of_mem_take hb)
    refine ⟨among_lo _ _, among_hi _ (by omega), among_lo _ _, among_hi _ (by omega), ?_⟩
    show 0 ≤ capOf b.cap ∧ capOf b.cap ≤ _
    unfold capOf
    have h0 : 0 ≤ (if b.cap < 0 then -(b.cap + 1) else b.cap) := by split <;> omega
    rw [Int.tmod_eq_emod_of_nonneg h0]
    omega
  have hT : 0 ≤ someT n va ∧ someT n va < someN n va ∧ someS n va ≠ someT n va := by
    have h1 := among_lo n.T (someN n va)
    have h2 := among_hi n.T (n := someN n va) (by omega)
    unfold someT
    split
    · rename_i he
      have h3 : (someS n va + 1).tmod (someN n va) = (someS n va + 1) % (someN n va) := Int.tmod_eq_emod_of_nonneg (by omega)
      rw [h3]
      rcases Int.lt_or_le (someS n va + 1) (someN n va) with h4 | h4
      · rw [Int.emod_eq_of_lt (by omega) h4]; omega
      · have h5 : someS n va + 1 = someN n va := by omega
        rw [h5, Int.emod_self]; omega
    · rename_i he
      exact ⟨h1, h2, he⟩
  have hcs : ∀ l : List Arc, (∀ a ∈ l, 0 ≤ a.cap ∧ a.cap ≤ 1125899906842624) → capSum l ≤ l.length * 1125899906842624 := by
    intro l
    induction l with
    | nil => intro _; simp [capSum]
    | cons a l ih =>
      intro hl
      have h1 := ih (fun b hb => hl b (by simp [hb]))
      have h2 := hl a (by simp)
      have h3 : capSum (a :: l) = a.cap + capSum l := by simp [capSum]
      rw [h3]
      have h4 : ((a :: l).length : Int) = (l.length : Int) + 1 := by simp
      rw [h4, Int.add_mul]
      omega
  refine ⟨⟨hN.1, by show someN n va ≤ 4096; omega, by omega, hS, ⟨hT.1, hT.2.1⟩, hT.2.2, fun a ha => ?_, ?_⟩, ⟨by show someN n va ≤ 64; omega, by omega⟩, ?_, fun a ha => (hA a ha).2.2.2.2.2⟩
  · have := hA a ha
    show 0 ≤ a.frm ∧ a.frm < someN n va ∧ 0 ≤ a.to ∧ a.to < someN n va ∧ 0 ≤ a.cap
    omega
  · have h1 := hcs _ (fun a ha => (hA a ha).2.2.2.2)
    have h2 : ((someNet n va ar).arcs.length : Int) * 1125899906842624 ≤ 64 * 1125899906842624 := Int.mul_le_mul_of_nonneg_right (by omega) (by omega)
    omega
  · have : (someNet n va ar).N.toNat ≤ va.toNat := by show (someN n va).toNat ≤ _; omega
    exact Nat.le_trans (Nat.mul_le_mul this (by omega)) hp
end Go.Proofs

set_option linter.unusedVariables false
namespace Go.Proofs
open Go Go.Sx Go.RowKit
abbrev aw0 : Net := ⟨3, 0, 2, [⟨0, 1, 5⟩, ⟨1, 2, 5⟩]⟩
theorem aw0_small : Small aw0 := by
  refine ⟨⟨by decide, by decide, by decide, by decide, by decide, by decide, by decide, by decide⟩, by decide, by decide, by decide⟩
abbrev awP : Pre := ⟨(begP aw0).Res, (begP aw0).Ex, (begP aw0).H.set (1 : Int).toNat 1⟩
abbrev awE (d h low : Int) : Event := ⟨0, 1, 1, 2, d, h, low⟩
abbrev awL (u h : Int) : Event := ⟨0, 2, u, 0, 0, h, 0⟩
theorem aw_right : rightP (makeC aw0) awP := by decide +kernel
theorem aw_len : (begP aw0).Res.length = 4 ∧ (begP aw0).H.length = 3 := by decide +kernel
instance (x : Int) : Decidable (In64 x) := by unfold In64; infer_instance
theorem awE_in (d h low : Int) (hd : In64 d) (hh : In64 h) (hl : In64 low) : EvIn (awE d h low) := ⟨(by decide : In64 1), (by decide : In64 2), hd, hh, hl⟩
theorem awL_in (u h : Int) (hu : In64 u) (hh : In64 h) : EvIn (awL u h) := ⟨hu, (by decide : In64 0), (by decide : In64 0), hh, (by decide : In64 0)⟩
theorem aw_all : ((((((((rightP (makeC aw0) awP ∧ legalE (makeC aw0) awP (awE 3 1 0) = 0) ∧ ¬ (strictP (makeC aw0) awP (awE 3 1 0))) ∧ strictP (makeC aw0) awP (awE 5 1 0)) ∧ legalE (makeC aw0) awP (awE 3 1 1) = 30) ∧ legalE (makeC aw0) awP (awL 1 6) = 0) ∧ legalE (makeC aw0) awP (awL 1 1) = 30) ∧ legalE (makeC aw0) awP (awL 1 7) = 30) ∧ legalE (makeC aw0) awP (awL 2 6) = 2) := by
  decide +kernel
theorem aw_ex : ∀ x ∈ awP.Ex, In64 x := by decide +kernel
-- f21 "acequia/acequialaw09.awake"
set_option maxHeartbeats 8000000 in
set_option synthInstance.maxHeartbeats 400000 in
set_option synthInstance.maxSize 2000 in
theorem t_awake  : Tri Try.prog 21 [] [] (fun s H => s = .val (.bool true) ∧ H = []) := by
  refine tri_of_w (fn := Try.f21) Try.func21 rfl (by simp [Try.f21]) ?_
  intro ρ w hρ
  refine w_seq ?_
  -- region 0
  refine w_region ?_
  refine rw_t 0 rfl rfl rfl (do_assign rfl ?_)
  refine rw_nil ?_
  refine w_seq ?_
  -- region 1
  refine w_region ?_
  refine rw_t 11 rfl rfl rfl (do_build (out := [_, _, _]) rfl rfl ?_)
  refine rw_t 12 rfl rfl rfl (do_build (out := [_, _, _]) rfl rfl ?_)
  refine rw_t 13 rfl rfl rfl (n_bs (nm := 0) Arc encArc Arc.none [(⟨0, 1, 5⟩ : Arc), (⟨1, 2, 5⟩ : Arc)] rfl rfl rfl rfl rfl (fun _ => rfl) (fun _ _ h => by simp [encArc] at h; rcases h with rfl | rfl | rfl <;> rfl) rfl ?_)
  refine rw_cap 13 rfl ?_
  refine rw_t 14 rfl rfl rfl (do_build (out := [_, _, _, _]) rfl rfl ?_)
  refine rw_t 15 rfl rfl rfl (n_callN (X' := .tup [.agg [.val (.int .i64 ((makeC aw0).N)), .val (.int .i64 ((makeC aw0).S)), .val (.int .i64 ((makeC aw0).T)), .slc 1 0 ((makeC aw0).First.length) none, .slc 2 0 ((makeC aw0).Head.length) none, .slc 3 0 ((makeC aw0).Rev.length) none, .slc 4 0 ((makeC aw0).Cap.length) none, .slc 5 0 ((makeC aw0).Arc.length) none, .slc 6 0 ((makeC aw0).Back.length) none], .agg [.slc 7 0 ((begP aw0).Res.length) none, .slc 8 0 ((begP aw0).Ex.length) none, .slc 9 0 ((begP aw0).H.length) none]]) (N' := [SO.ints true .i64 ((makeC aw0).First), SO.ints true .i64 ((makeC aw0).Head), SO.ints true .i64 ((makeC aw0).Rev), SO.ints true .i64 ((makeC aw0).Cap), SO.ints true .i64 ((makeC aw0).Arc), SO.bools true ((makeC aw0).Back), SO.ints true .i64 ((begP aw0).Res), SO.ints true .i64 ((begP aw0).Ex), SO.ints true .i64 ((begP aw0).H)]) rfl rfl (t_begun (n := aw0) (aw0_small.toNetOK) (aw0_small.sz)) [0] ⟨.inr ⟨_, rfl, srv⟩, trivial⟩ rfl rfl rfl rfl rfl ?_)
  refine rw_t 10 rfl rfl rfl (do_move rfl ?_)
  refine rw_t 16 rfl rfl rfl (do_extract rfl rfl ?_)
  refine rw_t 17 rfl rfl rfl (do_extract rfl rfl ?_)
  refine rw_t 1 rfl rfl rfl (n_alloc (n := 10) rfl ?_)
  refine rw_t 2 rfl rfl rfl (n_alloc (n := 11) rfl ?_)
  refine rw_u rfl rfl (n_store_whole rfl rfl rfl rfl rfl rfl ?_)
  refine rw_u rfl rfl (n_store_whole rfl rfl rfl rfl rfl rfl ?_)
  refine rw_nil ?_
  refine w_seq ?_
  refine w_seq ?_
  -- region 2
  refine w_region ?_
  refine rw_t 18 rfl rfl rfl (do_fieldaddr rfl ?_)
  refine rw_t 19 rfl rfl rfl (do_load_box rfl rfl rfl ?_)
  refine rw_t 20 rfl rfl rfl (do_len rfl ?_)
  refine rw_t 21 rfl rfl rfl (do_bin rfl rfl rfl ?_)
  refine rw_nil ?_
  refine w_cond rfl (fun hc1 => ?_) (fun hc1 => ?_)
  · exfalso; exact absurd hc1 (by rw [aw_len.1]; decide)
  refine w_skip ?_
  refine w_seq ?_
  have hl := aw_len
  -- region 4
  refine w_region ?_
  refine rw_t 22 rfl rfl rfl (do_fieldaddr rfl ?_)
  refine rw_t 23 rfl rfl rfl (do_load_box rfl rfl rfl ?_)
  refine rw_t 24 rfl rfl rfl (do_ix0 rfl rfl rfl (by first | omega | (simp only [ls] <;> omega)) ?_)
  refine rw_u rfl rfl (n_store_arr (z := 1) rfl rfl rfl (by first | omega | (simp only [ls] <;> omega)) rfl (by decide) rfl ?_)
  refine rw_nil ?_
  refine w_seq ?_
  -- region 5
  refine w_region ?_
  refine rw_t 25 rfl rfl rfl (do_build (out := [_, _, _, _, _, _, _]) rfl rfl ?_)
  refine rw_t 3 rfl rfl rfl (n_alloc (n := 12) rfl ?_)
  refine rw_u rfl rfl (n_store_whole rfl rfl rfl rfl rfl rfl ?_)
  refine rw_nil ?_
  refine w_midS (ι := Unit) (fun _ => [(0, .val (.bool false)), (1, .ptr 10 0 0), (2, .ptr 11 0 0), (3, .ptr 12 0 0), (4, .ptr 13 0 0), (5, .ptr 14 0 0)]) (fun _ => [SO.arcs true [(⟨0, 1, 5⟩ : Arc), (⟨1, 2, 5⟩ : Arc)], SO.ints true .i64 ((makeC aw0).First), SO.ints true .i64 ((makeC aw0).Head), SO.ints true .i64 ((makeC aw0).Rev), SO.ints true .i64 ((makeC aw0).Cap), SO.ints true .i64 ((makeC aw0).Arc), SO.bools true ((makeC aw0).Back), SO.ints true .i64 ((begP aw0).Res), SO.ints true .i64 ((begP aw0).Ex), SO.ints true .i64 (((begP aw0).H).set ((1 : Int).toNat) 1), .box [.val (.int .i64 ((makeC aw0).N)), .val (.int .i64 ((makeC aw0).S)), .val (.int .i64 ((makeC aw0).T)), .slc 1 0 ((makeC aw0).First.length) none, .slc 2 0 ((makeC aw0).Head.length) none, .slc 3 0 ((makeC aw0).Rev.length) none, .slc 4 0 ((makeC aw0).Cap.length) none, .slc 5 0 ((makeC aw0).Arc.length) none, .slc 6 0 ((makeC aw0).Back.length) none], .box [.slc 7 0 ((begP aw0).Res.length) none, .slc 8 0 ((begP aw0).Ex.length) none, .slc 9 0 ((begP aw0).H.length) none], .box [.val (.int .i64 0), .val (.int .u8 1), .val (.int .i64 1), .val (.int .i64 2), .val (.int .i64 3), .val (.int .i64 1), .val (.int .i64 0)], .box [.val (.int .i64 0), .val (.int .u8 1), .val (.int .i64 1), .val (.int .i64 2), .val (.int .i64 3), .val (.int .i64 1), .val (.int .i64 0)], .box [.val (.int .i64 0), .val (.int .u8 1), .val (.int .i64 1), .val (.int .i64 2), .val (.int .i64 3), .val (.int .i64 1), .val (.int .i64 0)]]) (fun _ => True) hρ ?_ ?_
  · -- region 6
    refine w_any mixed ?_
    refine wa_drawZ [0, 0, 0, 0] [13, 31] [1] 2 rfl rfl (by decide) (by kernel_rfl) (by kernel_rfl) rfl rfl rfl (hle hρ rfl) ?_
    refine ra_q (j := 0) rfl rfl rfl rfl (n_load_boxagg [_, _, _, _, _, _, _] rfl rfl (Nat.le_of_ble_eq_true rfl) rfl ⟨rfl, rfl⟩) (by rfl) ?_
    refine ra_q (j := 1) rfl rfl rfl rfl (n_load_boxagg [_, _, _, _, _, _, _] rfl rfl (Nat.le_of_ble_eq_true rfl) rfl ⟨rfl, rfl⟩) (by rfl) ?_
    refine ra_n (j := 2) rfl rfl rfl rfl (g_alloc (n := 13) rfl ⟨rfl, rfl⟩) (by rfl) (by rfl) (by rfl) ?_
    refine ra_n (j := 3) rfl rfl rfl rfl (g_alloc (n := 14) rfl ⟨rfl, rfl⟩) (by rfl) (by rfl) (by rfl) ?_
    refine n_fin ?_ ?_
    · refine rw_u rfl rfl (n_store_whole rfl rfl rfl rfl rfl rfl ?_)
      refine rw_u rfl rfl (n_store_whole rfl rfl rfl rfl rfl rfl ?_)
      refine rw_nil ?_
      exact ⟨(), [0, 1, 2, 3, 4, 5, 6, 7, 8, 9, 10, 11, 12, 13, 14], trivial, ⟨.inr ⟨_, rfl, .inl rfl⟩, .inr ⟨_, rfl, .inl rfl⟩, .inr ⟨_, rfl, .inl rfl⟩, .inr ⟨_, rfl, .inl rfl⟩, .inr ⟨_, rfl, .inl rfl⟩, .inr ⟨_, rfl, .inl rfl⟩, .inr ⟨_, rfl, .inl rfl⟩, .inr ⟨_, rfl, .inl rfl⟩, .inr ⟨_, rfl, .inl rfl⟩, .inr ⟨_, rfl, .inl rfl⟩, .inr ⟨_, rfl, .inl rfl⟩, .inr ⟨_, rfl, .inl rfl⟩, .inr ⟨_, rfl, .inl rfl⟩, .inr ⟨_, rfl, .inl rfl⟩, .inr ⟨_, rfl, .inl rfl⟩, trivial⟩, rfl, pre_ok rfl, ⟨⟨_, rfl, rfl⟩, ⟨_, rfl, rfl⟩, ⟨_, rfl, rfl⟩, ⟨_, rfl, rfl⟩, ⟨_, rfl, rfl⟩, ⟨_, rfl, rfl⟩, trivial⟩⟩
    refine all_cons ?_ ?_
    · refine rx_step [1, 4] rfl (by kernel_rfl) rfl ?_
      refine rx_cons ?_ ?_
      · refine ⟨_, rfl, rfl, rfl, n_load_boxagg [_, _, _, _, _, _, _] rfl rfl (Nat.le_of_ble_eq_true rfl) rfl ?_⟩
        refine rx_step [4] rfl (by kernel_rfl) rfl ?_
        refine rx_cons ?_ ?_
        · refine ⟨_, rfl, rfl, rfl, do_store_boxagg rfl rfl rfl (Nat.le_of_ble_eq_true rfl) rfl (allPlain rfl) ?_⟩
          refine rx_step [5] rfl (by kernel_rfl) rfl ?_
          refine rx_cons ?_ ?_
          · refine ⟨_, rfl, rfl, rfl, do_store_boxagg rfl rfl rfl (Nat.le_of_ble_eq_true rfl) rfl (allPlain rfl) ?_⟩
            refine rx_done (by kernel_rfl) ?_
            exact ⟨(), [0, 1, 2, 3, 4, 5, 6, 7, 8, 9, 10, 11, 12, 13, 14], trivial, ⟨.inr ⟨_, rfl, .inl rfl⟩, .inr ⟨_, rfl, .inl rfl⟩, .inr ⟨_, rfl, .inl rfl⟩, .inr ⟨_, rfl, .inl rfl⟩, .inr ⟨_, rfl, .inl rfl⟩, .inr ⟨_, rfl, .inl rfl⟩, .inr ⟨_, rfl, .inl rfl⟩, .inr ⟨_, rfl, .inl rfl⟩, .inr ⟨_, rfl, .inl rfl⟩, .inr ⟨_, rfl, .inl rfl⟩, .inr ⟨_, rfl, .inl rfl⟩, .inr ⟨_, rfl, .inl rfl⟩, .inr ⟨_, rfl, .inl rfl⟩, .inr ⟨_, rfl, .inl rfl⟩, .inr ⟨_, rfl, .inl rfl⟩, trivial⟩, rfl, pre_ok rfl, ⟨⟨_, rfl, rfl⟩, ⟨_, rfl, rfl⟩, ⟨_, rfl, rfl⟩, ⟨_, rfl, rfl⟩, ⟨_, rfl, rfl⟩, ⟨_, rfl, rfl⟩, trivial⟩⟩
          exact rx_nil
        exact rx_nil
      refine rx_cons ?_ ?_
      · refine ⟨_, rfl, rfl, rfl, do_store_boxagg rfl rfl rfl (Nat.le_of_ble_eq_true rfl) rfl (allPlain rfl) ?_⟩
        refine rx_step [1] rfl (by kernel_rfl) rfl ?_
        refine rx_cons ?_ ?_
        · refine ⟨_, rfl, rfl, rfl, n_load_boxagg [_, _, _, _, _, _, _] rfl rfl (Nat.le_of_ble_eq_true rfl) rfl ?_⟩
          refine rx_step [5] rfl (by kernel_rfl) rfl ?_
          refine rx_cons ?_ ?_
          · refine ⟨_, rfl, rfl, rfl, do_store_boxagg rfl rfl rfl (Nat.le_of_ble_eq_true rfl) rfl (allPlain rfl) ?_⟩
            refine rx_done (by kernel_rfl) ?_
            exact ⟨(), [0, 1, 2, 3, 4, 5, 6, 7, 8, 9, 10, 11, 12, 13, 14], trivial, ⟨.inr ⟨_, rfl, .inl rfl⟩, .inr ⟨_, rfl, .inl rfl⟩, .inr ⟨_, rfl, .inl rfl⟩, .inr ⟨_, rfl, .inl rfl⟩, .inr ⟨_, rfl, .inl rfl⟩, .inr ⟨_, rfl, .inl rfl⟩, .inr ⟨_, rfl, .inl rfl⟩, .inr ⟨_, rfl, .inl rfl⟩, .inr ⟨_, rfl, .inl rfl⟩, .inr ⟨_, rfl, .inl rfl⟩, .inr ⟨_, rfl, .inl rfl⟩, .inr ⟨_, rfl, .inl rfl⟩, .inr ⟨_, rfl, .inl rfl⟩, .inr ⟨_, rfl, .inl rfl⟩, .inr ⟨_, rfl, .inl rfl⟩, trivial⟩, rfl, pre_ok rfl, ⟨⟨_, rfl, rfl⟩, ⟨_, rfl, rfl⟩, ⟨_, rfl, rfl⟩, ⟨_, rfl, rfl⟩, ⟨_, rfl, rfl⟩, ⟨_, rfl, rfl⟩, trivial⟩⟩
          exact rx_nil
        exact rx_nil
      exact rx_nil
    exact all_nil
  rintro ⟨⟩ -
  refine w_seq ?_
  -- region 7
  refine w_region ?_
  refine rw_t 28 rfl rfl rfl (do_fieldaddr rfl ?_)
  refine rw_u rfl rfl (n_store_box rfl rfl rfl (Nat.le_of_ble_eq_true rfl) rfl ?_)
  refine rw_t 29 rfl rfl rfl (do_fieldaddr rfl ?_)
  refine rw_u rfl rfl (n_store_box rfl rfl rfl (Nat.le_of_ble_eq_true rfl) rfl ?_)
  refine rw_nil ?_
  refine w_seq ?_
  -- region 8
  refine w_region ?_
  refine rw_t 30 rfl rfl rfl (do_build (out := [_, _, _, _, _, _, _]) rfl rfl ?_)
  refine rw_t 6 rfl rfl rfl (n_alloc (n := 15) rfl ?_)
  refine rw_u rfl rfl (n_store_whole rfl rfl rfl rfl rfl rfl ?_)
  refine rw_nil ?_
  refine w_midS (ι := Unit) (fun _ => [(0, .val (.bool false)), (1, .ptr 10 0 0), (2, .ptr 11 0 0), (3, .ptr 12 0 0), (4, .ptr 13 0 0), (5, .ptr 14 0 0), (6, .ptr 15 0 0), (7, .ptr 16 0 0), (8, .ptr 17 0 0), (9, .ptr 18 0 0)]) (fun _ => [SO.arcs true [(⟨0, 1, 5⟩ : Arc), (⟨1, 2, 5⟩ : Arc)], SO.ints true .i64 ((makeC aw0).First), SO.ints true .i64 ((makeC aw0).Head), SO.ints true .i64 ((makeC aw0).Rev), SO.ints true .i64 ((makeC aw0).Cap), SO.ints true .i64 ((makeC aw0).Arc), SO.bools true ((makeC aw0).Back), SO.ints true .i64 ((begP aw0).Res), SO.ints true .i64 ((begP aw0).Ex), SO.ints true .i64 (((begP aw0).H).set ((1 : Int).toNat) 1), .box [.val (.int .i64 ((makeC aw0).N)), .val (.int .i64 ((makeC aw0).S)), .val (.int .i64 ((makeC aw0).T)), .slc 1 0 ((makeC aw0).First.length) none, .slc 2 0 ((makeC aw0).Head.length) none, .slc 3 0 ((makeC aw0).Rev.length) none, .slc 4 0 ((makeC aw0).Cap.length) none, .slc 5 0 ((makeC aw0).Arc.length) none, .slc 6 0 ((makeC aw0).Back.length) none], .box [.slc 7 0 ((begP aw0).Res.length) none, .slc 8 0 ((begP aw0).Ex.length) none, .slc 9 0 ((begP aw0).H.length) none], .box [.val (.int .i64 0), .val (.int .u8 1), .val (.int .i64 1), .val (.int .i64 2), .val (.int .i64 3), .val (.int .i64 1), .val (.int .i64 0)], .box [.val (.int .i64 0), .val (.int .u8 1), .val (.int .i64 1), .val (.int .i64 2), .val (.int .i64 5), .val (.int .i64 1), .val (.int .i64 0)], .box [.val (.int .i64 0), .val (.int .u8 1), .val (.int .i64 1), .val (.int .i64 2), .val (.int .i64 3), .val (.int .i64 1), .val (.int .i64 1)], .box [.val (.int .i64 0), .val (.int .u8 2), .val (.int .i64 1), .val (.int .i64 0), .val (.int .i64 0), .val (.int .i64 6), .val (.int .i64 0)], .box [.val (.int .i64 0), .val (.int .u8 2), .val (.int .i64 1), .val (.int .i64 0), .val (.int .i64 0), .val (.int .i64 6), .val (.int .i64 0)], .box [.val (.int .i64 0), .val (.int .u8 2), .val (.int .i64 1), .val (.int .i64 0), .val (.int .i64 0), .val (.int .i64 6), .val (.int .i64 0)], .box [.val (.int .i64 0), .val (.int .u8 2), .val (.int .i64 1), .val (.int .i64 0), .val (.int .i64 0), .val (.int .i64 6), .val (.int .i64 0)]]) (fun _ => True) hρ ?_ ?_
  · -- region 9
    refine w_any mixed ?_
    refine wa_drawZ [0, 0, 0, 0, 0, 0] [57, 123, 255] [1, 2] 6 rfl rfl (by decide) (by kernel_rfl) (by kernel_rfl) rfl rfl rfl (hle hρ rfl) ?_
    refine ra_q (j := 0) rfl rfl rfl rfl (n_load_boxagg [_, _, _, _, _, _, _] rfl rfl (Nat.le_of_ble_eq_true rfl) rfl ⟨rfl, rfl⟩) (by rfl) ?_
    refine ra_q (j := 1) rfl rfl rfl rfl (n_load_boxagg [_, _, _, _, _, _, _] rfl rfl (Nat.le_of_ble_eq_true rfl) rfl ⟨rfl, rfl⟩) (by rfl) ?_
    refine ra_q (j := 2) rfl rfl rfl rfl (n_load_boxagg [_, _, _, _, _, _, _] rfl rfl (Nat.le_of_ble_eq_true rfl) rfl ⟨rfl, rfl⟩) (by rfl) ?_
    refine ra_n (j := 3) rfl rfl rfl rfl (g_alloc (n := 16) rfl ⟨rfl, rfl⟩) (by rfl) (by rfl) (by rfl) ?_
    refine ra_n (j := 4) rfl rfl rfl rfl (g_alloc (n := 17) rfl ⟨rfl, rfl⟩) (by rfl) (by rfl) (by rfl) ?_
    refine ra_n (j := 5) rfl rfl rfl rfl (g_alloc (n := 18) rfl ⟨rfl, rfl⟩) (by rfl) (by rfl) (by rfl) ?_
    refine n_fin ?_ ?_
    · refine rw_u rfl rfl (n_store_whole rfl rfl rfl rfl rfl rfl ?_)
      refine rw_u rfl rfl (n_store_whole rfl rfl rfl rfl rfl rfl ?_)
      refine rw_u rfl rfl (n_store_whole rfl rfl rfl rfl rfl rfl ?_)
      refine rw_nil ?_
      exact ⟨(), [0, 1, 2, 3, 4, 5, 6, 7, 8, 9, 10, 11, 12, 13, 14, 15, 16, 17, 18], trivial, ⟨.inr ⟨_, rfl, .inl rfl⟩, .inr ⟨_, rfl, .inl rfl⟩, .inr ⟨_, rfl, .inl rfl⟩, .inr ⟨_, rfl, .inl rfl⟩, .inr ⟨_, rfl, .inl rfl⟩, .inr ⟨_, rfl, .inl rfl⟩, .inr ⟨_, rfl, .inl rfl⟩, .inr ⟨_, rfl, .inl rfl⟩, .inr ⟨_, rfl, .inl rfl⟩, .inr ⟨_, rfl, .inl rfl⟩, .inr ⟨_, rfl, .inl rfl⟩, .inr ⟨_, rfl, .inl rfl⟩, .inr ⟨_, rfl, .inl rfl⟩, .inr ⟨_, rfl, .inl rfl⟩, .inr ⟨_, rfl, .inl rfl⟩, .inr ⟨_, rfl, .inl rfl⟩, .inr ⟨_, rfl, .inl rfl⟩, .inr ⟨_, rfl, .inl rfl⟩, .inr ⟨_, rfl, .inl rfl⟩, trivial⟩, rfl, pre_ok rfl, ⟨⟨_, rfl, rfl⟩, ⟨_, rfl, rfl⟩, ⟨_, rfl, rfl⟩, ⟨_, rfl, rfl⟩, ⟨_, rfl, rfl⟩, ⟨_, rfl, rfl⟩, ⟨_, rfl, rfl⟩, ⟨_, rfl, rfl⟩, ⟨_, rfl, rfl⟩, ⟨_, rfl, rfl⟩, trivial⟩⟩
    refine all_cons ?_ ?_
    · refine rx_step [1, 6] rfl (by kernel_rfl) rfl ?_
      refine rx_cons ?_ ?_
      · refine ⟨_, rfl, rfl, rfl, n_load_boxagg [_, _, _, _, _, _, _] rfl rfl (Nat.le_of_ble_eq_true rfl) rfl ?_⟩
        refine rx_step [6] rfl (by kernel_rfl) rfl ?_
        refine rx_cons ?_ ?_
        · refine ⟨_, rfl, rfl, rfl, do_store_boxagg rfl rfl rfl (Nat.le_of_ble_eq_true rfl) rfl (allPlain rfl) ?_⟩
          refine rx_step [7] rfl (by kernel_rfl) rfl ?_
          refine rx_cons ?_ ?_
          · refine ⟨_, rfl, rfl, rfl, do_store_boxagg rfl rfl rfl (Nat.le_of_ble_eq_true rfl) rfl (allPlain rfl) ?_⟩
            refine rx_step [8] rfl (by kernel_rfl) rfl ?_
            refine rx_cons ?_ ?_
            · refine ⟨_, rfl, rfl, rfl, do_store_boxagg rfl rfl rfl (Nat.le_of_ble_eq_true rfl) rfl (allPlain rfl) ?_⟩
              refine rx_done (by kernel_rfl) ?_
              exact ⟨(), [0, 1, 2, 3, 4, 5, 6, 7, 8, 9, 10, 11, 12, 13, 14, 15, 16, 17, 18], trivial, ⟨.inr ⟨_, rfl, .inl rfl⟩, .inr ⟨_, rfl, .inl rfl⟩, .inr ⟨_, rfl, .inl rfl⟩, .inr ⟨_, rfl, .inl rfl⟩, .inr ⟨_, rfl, .inl rfl⟩, .inr ⟨_, rfl, .inl rfl⟩, .inr ⟨_, rfl, .inl rfl⟩, .inr ⟨_, rfl, .inl rfl⟩, .inr ⟨_, rfl, .inl rfl⟩, .inr ⟨_, rfl, .inl rfl⟩, .inr ⟨_, rfl, .inl rfl⟩, .inr ⟨_, rfl, .inl rfl⟩, .inr ⟨_, rfl, .inl rfl⟩, .inr ⟨_, rfl, .inl rfl⟩, .inr ⟨_, rfl, .inl rfl⟩, .inr ⟨_, rfl, .inl rfl⟩, .inr ⟨_, rfl, .inl rfl⟩, .inr ⟨_, rfl, .inl rfl⟩, .inr ⟨_, rfl, .inl rfl⟩, trivial⟩, rfl, pre_ok rfl, ⟨⟨_, rfl, rfl⟩, ⟨_, rfl, rfl⟩, ⟨_, rfl, rfl⟩, ⟨_, rfl, rfl⟩, ⟨_, rfl, rfl⟩, ⟨_, rfl, rfl⟩, ⟨_, rfl, rfl⟩, ⟨_, rfl, rfl⟩, ⟨_, rfl, rfl⟩, ⟨_, rfl, rfl⟩, trivial⟩⟩
            exact rx_nil
          exact rx_nil
        exact rx_nil
      refine rx_cons ?_ ?_
      · refine ⟨_, rfl, rfl, rfl, do_store_boxagg rfl rfl rfl (Nat.le_of_ble_eq_true rfl) rfl (allPlain rfl) ?_⟩
        refine rx_step [1] rfl (by kernel_rfl) rfl ?_
        refine rx_cons ?_ ?_
        · refine ⟨_, rfl, rfl, rfl, n_load_boxagg [_, _, _, _, _, _, _] rfl rfl (Nat.le_of_ble_eq_true rfl) rfl ?_⟩
          refine rx_step [7] rfl (by kernel_rfl) rfl ?_
          refine rx_cons ?_ ?_
          · refine ⟨_, rfl, rfl, rfl, do_store_boxagg rfl rfl rfl (Nat.le_of_ble_eq_true rfl) rfl (allPlain rfl) ?_⟩
            refine rx_step [8] rfl (by kernel_rfl) rfl ?_
            refine rx_cons ?_ ?_
            · refine ⟨_, rfl, rfl, rfl, do_store_boxagg rfl rfl rfl (Nat.le_of_ble_eq_true rfl) rfl (allPlain rfl) ?_⟩
              refine rx_done (by kernel_rfl) ?_
              exact ⟨(), [0, 1, 2, 3, 4, 5, 6, 7, 8, 9, 10, 11, 12, 13, 14, 15, 16, 17, 18], trivial, ⟨.inr ⟨_, rfl, .inl rfl⟩, .inr ⟨_, rfl, .inl rfl⟩, .inr ⟨_, rfl, .inl rfl⟩, .inr ⟨_, rfl, .inl rfl⟩, .inr ⟨_, rfl, .inl rfl⟩, .inr ⟨_, rfl, .inl rfl⟩, .inr ⟨_, rfl, .inl rfl⟩, .inr ⟨_, rfl, .inl rfl⟩, .inr ⟨_, rfl, .inl rfl⟩, .inr ⟨_, rfl, .inl rfl⟩, .inr ⟨_, rfl, .inl rfl⟩, .inr ⟨_, rfl, .inl rfl⟩, .inr ⟨_, rfl, .inl rfl⟩, .inr ⟨_, rfl, .inl rfl⟩, .inr ⟨_, rfl, .inl rfl⟩, .inr ⟨_, rfl, .inl rfl⟩, .inr ⟨_, rfl, .inl rfl⟩, .inr ⟨_, rfl, .inl rfl⟩, .inr ⟨_, rfl, .inl rfl⟩, trivial⟩, rfl, pre_ok rfl, ⟨⟨_, rfl, rfl⟩, ⟨_, rfl, rfl⟩, ⟨_, rfl, rfl⟩, ⟨_, rfl, rfl⟩, ⟨_, rfl, rfl⟩, ⟨_, rfl, rfl⟩, ⟨_, rfl, rfl⟩, ⟨_, rfl, rfl⟩, ⟨_, rfl, rfl⟩, ⟨_, rfl, rfl⟩, trivial⟩⟩
            exact rx_nil
          exact rx_nil
        exact rx_nil
      exact rx_nil
    refine all_cons ?_ ?_
    · refine rx_step [1, 2, 6] rfl (by kernel_rfl) rfl ?_
      refine rx_cons ?_ ?_
      · refine ⟨_, rfl, rfl, rfl, n_load_boxagg [_, _, _, _, _, _, _] rfl rfl (Nat.le_of_ble_eq_true rfl) rfl ?_⟩
        refine rx_step [2, 6] rfl (by kernel_rfl) rfl ?_
        refine rx_cons ?_ ?_
        · refine ⟨_, rfl, rfl, rfl, n_load_boxagg [_, _, _, _, _, _, _] rfl rfl (Nat.le_of_ble_eq_true rfl) rfl ?_⟩
          refine rx_step [6] rfl (by kernel_rfl) rfl ?_
          refine rx_cons ?_ ?_
          · refine ⟨_, rfl, rfl, rfl, do_store_boxagg rfl rfl rfl (Nat.le_of_ble_eq_true rfl) rfl (allPlain rfl) ?_⟩
            refine rx_step [7] rfl (by kernel_rfl) rfl ?_
            refine rx_cons ?_ ?_
            · refine ⟨_, rfl, rfl, rfl, do_store_boxagg rfl rfl rfl (Nat.le_of_ble_eq_true rfl) rfl (allPlain rfl) ?_⟩
              refine rx_step [8] rfl (by kernel_rfl) rfl ?_
              refine rx_cons ?_ ?_
              · refine ⟨_, rfl, rfl, rfl, do_store_boxagg rfl rfl rfl (Nat.le_of_ble_eq_true rfl) rfl (allPlain rfl) ?_⟩
                refine rx_done (by kernel_rfl) ?_
                exact ⟨(), [0, 1, 2, 3, 4, 5, 6, 7, 8, 9, 10, 11, 12, 13, 14, 15, 16, 17, 18], trivial, ⟨.inr ⟨_, rfl, .inl rfl⟩, .inr ⟨_, rfl, .inl rfl⟩, .inr ⟨_, rfl, .inl rfl⟩, .inr ⟨_, rfl, .inl rfl⟩, .inr ⟨_, rfl, .inl rfl⟩, .inr ⟨_, rfl, .inl rfl⟩, .inr ⟨_, rfl, .inl rfl⟩, .inr ⟨_, rfl, .inl rfl⟩, .inr ⟨_, rfl, .inl rfl⟩, .inr ⟨_, rfl, .inl rfl⟩, .inr ⟨_, rfl, .inl rfl⟩, .inr ⟨_, rfl, .inl rfl⟩, .inr ⟨_, rfl, .inl rfl⟩, .inr ⟨_, rfl, .inl rfl⟩, .inr ⟨_, rfl, .inl rfl⟩, .inr ⟨_, rfl, .inl rfl⟩, .inr ⟨_, rfl, .inl rfl⟩, .inr ⟨_, rfl, .inl rfl⟩, .inr ⟨_, rfl, .inl rfl⟩, trivial⟩, rfl, pre_ok rfl, ⟨⟨_, rfl, rfl⟩, ⟨_, rfl, rfl⟩, ⟨_, rfl, rfl⟩, ⟨_, rfl, rfl⟩, ⟨_, rfl, rfl⟩, ⟨_, rfl, rfl⟩, ⟨_, rfl, rfl⟩, ⟨_, rfl, rfl⟩, ⟨_, rfl, rfl⟩, ⟨_, rfl, rfl⟩, trivial⟩⟩
              exact rx_nil
            exact rx_nil
          exact rx_nil
        refine rx_cons ?_ ?_
        · refine ⟨_, rfl, rfl, rfl, do_store_boxagg rfl rfl rfl (Nat.le_of_ble_eq_true rfl) rfl (allPlain rfl) ?_⟩
          refine rx_step [2, 7] rfl (by kernel_rfl) rfl ?_
          refine rx_cons ?_ ?_
          · refine ⟨_, rfl, rfl, rfl, n_load_boxagg [_, _, _, _, _, _, _] rfl rfl (Nat.le_of_ble_eq_true rfl) rfl ?_⟩
            refine rx_step [7] rfl (by kernel_rfl) rfl ?_
            refine rx_cons ?_ ?_
            · refine ⟨_, rfl, rfl, rfl, do_store_boxagg rfl rfl rfl (Nat.le_of_ble_eq_true rfl) rfl (allPlain rfl) ?_⟩
              refine rx_step [8] rfl (by kernel_rfl) rfl ?_
              refine rx_cons ?_ ?_
              · refine ⟨_, rfl, rfl, rfl, do_store_boxagg rfl rfl rfl (Nat.le_of_ble_eq_true rfl) rfl (allPlain rfl) ?_⟩
                refine rx_done (by kernel_rfl) ?_
                exact ⟨(), [0, 1, 2, 3, 4, 5, 6, 7, 8, 9, 10, 11, 12, 13, 14, 15, 16, 17, 18], trivial, ⟨.inr ⟨_, rfl, .inl rfl⟩, .inr ⟨_, rfl, .inl rfl⟩, .inr ⟨_, rfl, .inl rfl⟩, .inr ⟨_, rfl, .inl rfl⟩, .inr ⟨_, rfl, .inl rfl⟩, .inr ⟨_, rfl, .inl rfl⟩, .inr ⟨_, rfl, .inl rfl⟩, .inr ⟨_, rfl, .inl rfl⟩, .inr ⟨_, rfl, .inl rfl⟩, .inr ⟨_, rfl, .inl rfl⟩, .inr ⟨_, rfl, .inl rfl⟩, .inr ⟨_, rfl, .inl rfl⟩, .inr ⟨_, rfl, .inl rfl⟩, .inr ⟨_, rfl, .inl rfl⟩, .inr ⟨_, rfl, .inl rfl⟩, .inr ⟨_, rfl, .inl rfl⟩, .inr ⟨_, rfl, .inl rfl⟩, .inr ⟨_, rfl, .inl rfl⟩, .inr ⟨_, rfl, .inl rfl⟩, trivial⟩, rfl, pre_ok rfl, ⟨⟨_, rfl, rfl⟩, ⟨_, rfl, rfl⟩, ⟨_, rfl, rfl⟩, ⟨_, rfl, rfl⟩, ⟨_, rfl, rfl⟩, ⟨_, rfl, rfl⟩, ⟨_, rfl, rfl⟩, ⟨_, rfl, rfl⟩, ⟨_, rfl, rfl⟩, ⟨_, rfl, rfl⟩, trivial⟩⟩
              exact rx_nil
            exact rx_nil
          refine rx_cons ?_ ?_
          · refine ⟨_, rfl, rfl, rfl, do_store_boxagg rfl rfl rfl (Nat.le_of_ble_eq_true rfl) rfl (allPlain rfl) ?_⟩
            refine rx_step [2] rfl (by kernel_rfl) rfl ?_
            refine rx_cons ?_ ?_
            · refine ⟨_, rfl, rfl, rfl, n_load_boxagg [_, _, _, _, _, _, _] rfl rfl (Nat.le_of_ble_eq_true rfl) rfl ?_⟩
              refine rx_step [8] rfl (by kernel_rfl) rfl ?_
              refine rx_cons ?_ ?_
              · refine ⟨_, rfl, rfl, rfl, do_store_boxagg rfl rfl rfl (Nat.le_of_ble_eq_true rfl) rfl (allPlain rfl) ?_⟩
                refine rx_done (by kernel_rfl) ?_
                exact ⟨(), [0, 1, 2, 3, 4, 5, 6, 7, 8, 9, 10, 11, 12, 13, 14, 15, 16, 17, 18], trivial, ⟨.inr ⟨_, rfl, .inl rfl⟩, .inr ⟨_, rfl, .inl rfl⟩, .inr ⟨_, rfl, .inl rfl⟩, .inr ⟨_, rfl, .inl rfl⟩, .inr ⟨_, rfl, .inl rfl⟩, .inr ⟨_, rfl, .inl rfl⟩, .inr ⟨_, rfl, .inl rfl⟩, .inr ⟨_, rfl, .inl rfl⟩, .inr ⟨_, rfl, .inl rfl⟩, .inr ⟨_, rfl, .inl rfl⟩, .inr ⟨_, rfl, .inl rfl⟩, .inr ⟨_, rfl, .inl rfl⟩, .inr ⟨_, rfl, .inl rfl⟩, .inr ⟨_, rfl, .inl rfl⟩, .inr ⟨_, rfl, .inl rfl⟩, .inr ⟨_, rfl, .inl rfl⟩, .inr ⟨_, rfl, .inl rfl⟩, .inr ⟨_, rfl, .inl rfl⟩, .inr ⟨_, rfl, .inl rfl⟩, trivial⟩, rfl, pre_ok rfl, ⟨⟨_, rfl, rfl⟩, ⟨_, rfl, rfl⟩, ⟨_, rfl, rfl⟩, ⟨_, rfl, rfl⟩, ⟨_, rfl, rfl⟩, ⟨_, rfl, rfl⟩, ⟨_, rfl, rfl⟩, ⟨_, rfl, rfl⟩, ⟨_, rfl, rfl⟩, ⟨_, rfl, rfl⟩, trivial⟩⟩
              exact rx_nil
            exact rx_nil
          exact rx_nil
        exact rx_nil
      refine rx_cons ?_ ?_
      · refine ⟨_, rfl, rfl, rfl, n_load_boxagg [_, _, _, _, _, _, _] rfl rfl (Nat.le_of_ble_eq_true rfl) rfl ?_⟩
        refine rx_step [1, 6] rfl (by kernel_rfl) rfl ?_
        refine rx_cons ?_ ?_
        · refine ⟨_, rfl, rfl, rfl, n_load_boxagg [_, _, _, _, _, _, _] rfl rfl (Nat.le_of_ble_eq_true rfl) rfl ?_⟩
          refine rx_step [6] rfl (by kernel_rfl) rfl ?_
          refine rx_cons ?_ ?_
          · refine ⟨_, rfl, rfl, rfl, do_store_boxagg rfl rfl rfl (Nat.le_of_ble_eq_true rfl) rfl (allPlain rfl) ?_⟩
            refine rx_step [7] rfl (by kernel_rfl) rfl ?_
            refine rx_cons ?_ ?_
            · refine ⟨_, rfl, rfl, rfl, do_store_boxagg rfl rfl rfl (Nat.le_of_ble_eq_true rfl) rfl (allPlain rfl) ?_⟩
              refine rx_step [8] rfl (by kernel_rfl) rfl ?_
              refine rx_cons ?_ ?_
              · refine ⟨_, rfl, rfl, rfl, do_store_boxagg rfl rfl rfl (Nat.le_of_ble_eq_true rfl) rfl (allPlain rfl) ?_⟩
                refine rx_done (by kernel_rfl) ?_
                exact ⟨(), [0, 1, 2, 3, 4, 5, 6, 7, 8, 9, 10, 11, 12, 13, 14, 15, 16, 17, 18], trivial, ⟨.inr ⟨_, rfl, .inl rfl⟩, .inr ⟨_, rfl, .inl rfl⟩, .inr ⟨_, rfl, .inl rfl⟩, .inr ⟨_, rfl, .inl rfl⟩, .inr ⟨_, rfl, .inl rfl⟩, .inr ⟨_, rfl, .inl rfl⟩, .inr ⟨_, rfl, .inl rfl⟩, .inr ⟨_, rfl, .inl rfl⟩, .inr ⟨_, rfl, .inl rfl⟩, .inr ⟨_, rfl, .inl rfl⟩, .inr ⟨_, rfl, .inl rfl⟩, .inr ⟨_, rfl, .inl rfl⟩, .inr ⟨_, rfl, .inl rfl⟩, .inr ⟨_, rfl, .inl rfl⟩, .inr ⟨_, rfl, .inl rfl⟩, .inr ⟨_, rfl, .inl rfl⟩, .inr ⟨_, rfl, .inl rfl⟩, .inr ⟨_, rfl, .inl rfl⟩, .inr ⟨_, rfl, .inl rfl⟩, trivial⟩, rfl, pre_ok rfl, ⟨⟨_, rfl, rfl⟩, ⟨_, rfl, rfl⟩, ⟨_, rfl, rfl⟩, ⟨_, rfl, rfl⟩, ⟨_, rfl, rfl⟩, ⟨_, rfl, rfl⟩, ⟨_, rfl, rfl⟩, ⟨_, rfl, rfl⟩, ⟨_, rfl, rfl⟩, ⟨_, rfl, rfl⟩, trivial⟩⟩
              exact rx_nil
            exact rx_nil
          exact rx_nil
        refine rx_cons ?_ ?_
        · refine ⟨_, rfl, rfl, rfl, do_store_boxagg rfl rfl rfl (Nat.le_of_ble_eq_true rfl) rfl (allPlain rfl) ?_⟩
          refine rx_step [1] rfl (by kernel_rfl) rfl ?_
          refine rx_cons ?_ ?_
          · refine ⟨_, rfl, rfl, rfl, n_load_boxagg [_, _, _, _, _, _, _] rfl rfl (Nat.le_of_ble_eq_true rfl) rfl ?_⟩
            refine rx_step [7] rfl (by kernel_rfl) rfl ?_
            refine rx_cons ?_ ?_
            · refine ⟨_, rfl, rfl, rfl, do_store_boxagg rfl rfl rfl (Nat.le_of_ble_eq_true rfl) rfl (allPlain rfl) ?_⟩
              refine rx_step [8] rfl (by kernel_rfl) rfl ?_
              refine rx_cons ?_ ?_
              · refine ⟨_, rfl, rfl, rfl, do_store_boxagg rfl rfl rfl (Nat.le_of_ble_eq_true rfl) rfl (allPlain rfl) ?_⟩
                refine rx_done (by kernel_rfl) ?_
                exact ⟨(), [0, 1, 2, 3, 4, 5, 6, 7, 8, 9, 10, 11, 12, 13, 14, 15, 16, 17, 18], trivial, ⟨.inr ⟨_, rfl, .inl rfl⟩, .inr ⟨_, rfl, .inl rfl⟩, .inr ⟨_, rfl, .inl rfl⟩, .inr ⟨_, rfl, .inl rfl⟩, .inr ⟨_, rfl, .inl rfl⟩, .inr ⟨_, rfl, .inl rfl⟩, .inr ⟨_, rfl, .inl rfl⟩, .inr ⟨_, rfl, .inl rfl⟩, .inr ⟨_, rfl, .inl rfl⟩, .inr ⟨_, rfl, .inl rfl⟩, .inr ⟨_, rfl, .inl rfl⟩, .inr ⟨_, rfl, .inl rfl⟩, .inr ⟨_, rfl, .inl rfl⟩, .inr ⟨_, rfl, .inl rfl⟩, .inr ⟨_, rfl, .inl rfl⟩, .inr ⟨_, rfl, .inl rfl⟩, .inr ⟨_, rfl, .inl rfl⟩, .inr ⟨_, rfl, .inl rfl⟩, .inr ⟨_, rfl, .inl rfl⟩, trivial⟩, rfl, pre_ok rfl, ⟨⟨_, rfl, rfl⟩, ⟨_, rfl, rfl⟩, ⟨_, rfl, rfl⟩, ⟨_, rfl, rfl⟩, ⟨_, rfl, rfl⟩, ⟨_, rfl, rfl⟩, ⟨_, rfl, rfl⟩, ⟨_, rfl, rfl⟩, ⟨_, rfl, rfl⟩, ⟨_, rfl, rfl⟩, trivial⟩⟩
              exact rx_nil
            exact rx_nil
          exact rx_nil
        exact rx_nil
      refine rx_cons ?_ ?_
      · refine ⟨_, rfl, rfl, rfl, do_store_boxagg rfl rfl rfl (Nat.le_of_ble_eq_true rfl) rfl (allPlain rfl) ?_⟩
        refine rx_step [1, 2] rfl (by kernel_rfl) rfl ?_
        refine rx_cons ?_ ?_
        · refine ⟨_, rfl, rfl, rfl, n_load_boxagg [_, _, _, _, _, _, _] rfl rfl (Nat.le_of_ble_eq_true rfl) rfl ?_⟩
          refine rx_step [2, 7] rfl (by kernel_rfl) rfl ?_
          refine rx_cons ?_ ?_
          · refine ⟨_, rfl, rfl, rfl, n_load_boxagg [_, _, _, _, _, _, _] rfl rfl (Nat.le_of_ble_eq_true rfl) rfl ?_⟩
            refine rx_step [7] rfl (by kernel_rfl) rfl ?_
            refine rx_cons ?_ ?_
            · refine ⟨_, rfl, rfl, rfl, do_store_boxagg rfl rfl rfl (Nat.le_of_ble_eq_true rfl) rfl (allPlain rfl) ?_⟩
              refine rx_step [8] rfl (by kernel_rfl) rfl ?_
              refine rx_cons ?_ ?_
              · refine ⟨_, rfl, rfl, rfl, do_store_boxagg rfl rfl rfl (Nat.le_of_ble_eq_true rfl) rfl (allPlain rfl) ?_⟩
                refine rx_done (by kernel_rfl) ?_
                exact ⟨(), [0, 1, 2, 3, 4, 5, 6, 7, 8, 9, 10, 11, 12, 13, 14, 15, 16, 17, 18], trivial, ⟨.inr ⟨_, rfl, .inl rfl⟩, .inr ⟨_, rfl, .inl rfl⟩, .inr ⟨_, rfl, .inl rfl⟩, .inr ⟨_, rfl, .inl rfl⟩, .inr ⟨_, rfl, .inl rfl⟩, .inr ⟨_, rfl, .inl rfl⟩, .inr ⟨_, rfl, .inl rfl⟩, .inr ⟨_, rfl, .inl rfl⟩, .inr ⟨_, rfl, .inl rfl⟩, .inr ⟨_, rfl, .inl rfl⟩, .inr ⟨_, rfl, .inl rfl⟩, .inr ⟨_, rfl, .inl rfl⟩, .inr ⟨_, rfl, .inl rfl⟩, .inr ⟨_, rfl, .inl rfl⟩, .inr ⟨_, rfl, .inl rfl⟩, .inr ⟨_, rfl, .inl rfl⟩, .inr ⟨_, rfl, .inl rfl⟩, .inr ⟨_, rfl, .inl rfl⟩, .inr ⟨_, rfl, .inl rfl⟩, trivial⟩, rfl, pre_ok rfl, ⟨⟨_, rfl, rfl⟩, ⟨_, rfl, rfl⟩, ⟨_, rfl, rfl⟩, ⟨_, rfl, rfl⟩, ⟨_, rfl, rfl⟩, ⟨_, rfl, rfl⟩, ⟨_, rfl, rfl⟩, ⟨_, rfl, rfl⟩, ⟨_, rfl, rfl⟩, ⟨_, rfl, rfl⟩, trivial⟩⟩
              exact rx_nil
            exact rx_nil
          refine rx_cons ?_ ?_
          · refine ⟨_, rfl, rfl, rfl, do_store_boxagg rfl rfl rfl (Nat.le_of_ble_eq_true rfl) rfl (allPlain rfl) ?_⟩
            refine rx_step [2] rfl (by kernel_rfl) rfl ?_
            refine rx_cons ?_ ?_
            · refine ⟨_, rfl, rfl, rfl, n_load_boxagg [_, _, _, _, _, _, _] rfl rfl (Nat.le_of_ble_eq_true rfl) rfl ?_⟩
              refine rx_step [8] rfl (by kernel_rfl) rfl ?_
              refine rx_cons ?_ ?_
              · refine ⟨_, rfl, rfl, rfl, do_store_boxagg rfl rfl rfl (Nat.le_of_ble_eq_true rfl) rfl (allPlain rfl) ?_⟩
                refine rx_done (by kernel_rfl) ?_
                exact ⟨(), [0, 1, 2, 3, 4, 5, 6, 7, 8, 9, 10, 11, 12, 13, 14, 15, 16, 17, 18], trivial, ⟨.inr ⟨_, rfl, .inl rfl⟩, .inr ⟨_, rfl, .inl rfl⟩, .inr ⟨_, rfl, .inl rfl⟩, .inr ⟨_, rfl, .inl rfl⟩, .inr ⟨_, rfl, .inl rfl⟩, .inr ⟨_, rfl, .inl rfl⟩, .inr ⟨_, rfl, .inl rfl⟩, .inr ⟨_, rfl, .inl rfl⟩, .inr ⟨_, rfl, .inl rfl⟩, .inr ⟨_, rfl, .inl rfl⟩, .inr ⟨_, rfl, .inl rfl⟩, .inr ⟨_, rfl, .inl rfl⟩, .inr ⟨_, rfl, .inl rfl⟩, .inr ⟨_, rfl, .inl rfl⟩, .inr ⟨_, rfl, .inl rfl⟩, .inr ⟨_, rfl, .inl rfl⟩, .inr ⟨_, rfl, .inl rfl⟩, .inr ⟨_, rfl, .inl rfl⟩, .inr ⟨_, rfl, .inl rfl⟩, trivial⟩, rfl, pre_ok rfl, ⟨⟨_, rfl, rfl⟩, ⟨_, rfl, rfl⟩, ⟨_, rfl, rfl⟩, ⟨_, rfl, rfl⟩, ⟨_, rfl, rfl⟩, ⟨_, rfl, rfl⟩, ⟨_, rfl, rfl⟩, ⟨_, rfl, rfl⟩, ⟨_, rfl, rfl⟩, ⟨_, rfl, rfl⟩, trivial⟩⟩
              exact rx_nil
            exact rx_nil
          exact rx_nil
        refine rx_cons ?_ ?_
        · refine ⟨_, rfl, rfl, rfl, n_load_boxagg [_, _, _, _, _, _, _] rfl rfl (Nat.le_of_ble_eq_true rfl) rfl ?_⟩
          refine rx_step [1] rfl (by kernel_rfl) rfl ?_
          refine rx_cons ?_ ?_
          · refine ⟨_, rfl, rfl, rfl, n_load_boxagg [_, _, _, _, _, _, _] rfl rfl (Nat.le_of_ble_eq_true rfl) rfl ?_⟩
            refine rx_step [7] rfl (by kernel_rfl) rfl ?_
            refine rx_cons ?_ ?_
            · refine ⟨_, rfl, rfl, rfl, do_store_boxagg rfl rfl rfl (Nat.le_of_ble_eq_true rfl) rfl (allPlain rfl) ?_⟩
              refine rx_step [8] rfl (by kernel_rfl) rfl ?_
              refine rx_cons ?_ ?_
              · refine ⟨_, rfl, rfl, rfl, do_store_boxagg rfl rfl rfl (Nat.le_of_ble_eq_true rfl) rfl (allPlain rfl) ?_⟩
                refine rx_done (by kernel_rfl) ?_
                exact ⟨(), [0, 1, 2, 3, 4, 5, 6, 7, 8, 9, 10, 11, 12, 13, 14, 15, 16, 17, 18], trivial, ⟨.inr ⟨_, rfl, .inl rfl⟩, .inr ⟨_, rfl, .inl rfl⟩, .inr ⟨_, rfl, .inl rfl⟩, .inr ⟨_, rfl, .inl rfl⟩, .inr ⟨_, rfl, .inl rfl⟩, .inr ⟨_, rfl, .inl rfl⟩, .inr ⟨_, rfl, .inl rfl⟩, .inr ⟨_, rfl, .inl rfl⟩, .inr ⟨_, rfl, .inl rfl⟩, .inr ⟨_, rfl, .inl rfl⟩, .inr ⟨_, rfl, .inl rfl⟩, .inr ⟨_, rfl, .inl rfl⟩, .inr ⟨_, rfl, .inl rfl⟩, .inr ⟨_, rfl, .inl rfl⟩, .inr ⟨_, rfl, .inl rfl⟩, .inr ⟨_, rfl, .inl rfl⟩, .inr ⟨_, rfl, .inl rfl⟩, .inr ⟨_, rfl, .inl rfl⟩, .inr ⟨_, rfl, .inl rfl⟩, trivial⟩, rfl, pre_ok rfl, ⟨⟨_, rfl, rfl⟩, ⟨_, rfl, rfl⟩, ⟨_, rfl, rfl⟩, ⟨_, rfl, rfl⟩, ⟨_, rfl, rfl⟩, ⟨_, rfl, rfl⟩, ⟨_, rfl, rfl⟩, ⟨_, rfl, rfl⟩, ⟨_, rfl, rfl⟩, ⟨_, rfl, rfl⟩, trivial⟩⟩
              exact rx_nil
            exact rx_nil
          exact rx_nil
        exact rx_nil
      exact rx_nil
    refine all_cons ?_ ?_
    · refine rx_step [2, 6] rfl (by kernel_rfl) rfl ?_
      refine rx_cons ?_ ?_
      · refine ⟨_, rfl, rfl, rfl, n_load_boxagg [_, _, _, _, _, _, _] rfl rfl (Nat.le_of_ble_eq_true rfl) rfl ?_⟩
        refine rx_step [6] rfl (by kernel_rfl) rfl ?_
        refine rx_cons ?_ ?_
        · refine ⟨_, rfl, rfl, rfl, do_store_boxagg rfl rfl rfl (Nat.le_of_ble_eq_true rfl) rfl (allPlain rfl) ?_⟩
          refine rx_step [7] rfl (by kernel_rfl) rfl ?_
          refine rx_cons ?_ ?_
          · refine ⟨_, rfl, rfl, rfl, do_store_boxagg rfl rfl rfl (Nat.le_of_ble_eq_true rfl) rfl (allPlain rfl) ?_⟩
            refine rx_step [8] rfl (by kernel_rfl) rfl ?_
            refine rx_cons ?_ ?_
            · refine ⟨_, rfl, rfl, rfl, do_store_boxagg rfl rfl rfl (Nat.le_of_ble_eq_true rfl) rfl (allPlain rfl) ?_⟩
              refine rx_done (by kernel_rfl) ?_
              exact ⟨(), [0, 1, 2, 3, 4, 5, 6, 7, 8, 9, 10, 11, 12, 13, 14, 15, 16, 17, 18], trivial, ⟨.inr ⟨_, rfl, .inl rfl⟩, .inr ⟨_, rfl, .inl rfl⟩, .inr ⟨_, rfl, .inl rfl⟩, .inr ⟨_, rfl, .inl rfl⟩, .inr ⟨_, rfl, .inl rfl⟩, .inr ⟨_, rfl, .inl rfl⟩, .inr ⟨_, rfl, .inl rfl⟩, .inr ⟨_, rfl, .inl rfl⟩, .inr ⟨_, rfl, .inl rfl⟩, .inr ⟨_, rfl, .inl rfl⟩, .inr ⟨_, rfl, .inl rfl⟩, .inr ⟨_, rfl, .inl rfl⟩, .inr ⟨_, rfl, .inl rfl⟩, .inr ⟨_, rfl, .inl rfl⟩, .inr ⟨_, rfl, .inl rfl⟩, .inr ⟨_, rfl, .inl rfl⟩, .inr ⟨_, rfl, .inl rfl⟩, .inr ⟨_, rfl, .inl rfl⟩, .inr ⟨_, rfl, .inl rfl⟩, trivial⟩, rfl, pre_ok rfl, ⟨⟨_, rfl, rfl⟩, ⟨_, rfl, rfl⟩, ⟨_, rfl, rfl⟩, ⟨_, rfl, rfl⟩, ⟨_, rfl, rfl⟩, ⟨_, rfl, rfl⟩, ⟨_, rfl, rfl⟩, ⟨_, rfl, rfl⟩, ⟨_, rfl, rfl⟩, ⟨_, rfl, rfl⟩, trivial⟩⟩
            exact rx_nil
          exact rx_nil
        exact rx_nil
      refine rx_cons ?_ ?_
      · refine ⟨_, rfl, rfl, rfl, do_store_boxagg rfl rfl rfl (Nat.le_of_ble_eq_true rfl) rfl (allPlain rfl) ?_⟩
        refine rx_step [2, 7] rfl (by kernel_rfl) rfl ?_
        refine rx_cons ?_ ?_
        · refine ⟨_, rfl, rfl, rfl, n_load_boxagg [_, _, _, _, _, _, _] rfl rfl (Nat.le_of_ble_eq_true rfl) rfl ?_⟩
          refine rx_step [7] rfl (by kernel_rfl) rfl ?_
          refine rx_cons ?_ ?_
          · refine ⟨_, rfl, rfl, rfl, do_store_boxagg rfl rfl rfl (Nat.le_of_ble_eq_true rfl) rfl (allPlain rfl) ?_⟩
            refine rx_step [8] rfl (by kernel_rfl) rfl ?_
            refine rx_cons ?_ ?_
            · refine ⟨_, rfl, rfl, rfl, do_store_boxagg rfl rfl rfl (Nat.le_of_ble_eq_true rfl) rfl (allPlain rfl) ?_⟩
              refine rx_done (by kernel_rfl) ?_
              exact ⟨(), [0, 1, 2, 3, 4, 5, 6, 7, 8, 9, 10, 11, 12, 13, 14, 15, 16, 17, 18], trivial, ⟨.inr ⟨_, rfl, .inl rfl⟩, .inr ⟨_, rfl, .inl rfl⟩, .inr ⟨_, rfl, .inl rfl⟩, .inr ⟨_, rfl, .inl rfl⟩, .inr ⟨_, rfl, .inl rfl⟩, .inr ⟨_, rfl, .inl rfl⟩, .inr ⟨_, rfl, .inl rfl⟩, .inr ⟨_, rfl, .inl rfl⟩, .inr ⟨_, rfl, .inl rfl⟩, .inr ⟨_, rfl, .inl rfl⟩, .inr ⟨_, rfl, .inl rfl⟩, .inr ⟨_, rfl, .inl rfl⟩, .inr ⟨_, rfl, .inl rfl⟩, .inr ⟨_, rfl, .inl rfl⟩, .inr ⟨_, rfl, .inl rfl⟩, .inr ⟨_, rfl, .inl rfl⟩, .inr ⟨_, rfl, .inl rfl⟩, .inr ⟨_, rfl, .inl rfl⟩, .inr ⟨_, rfl, .inl rfl⟩, trivial⟩, rfl, pre_ok rfl, ⟨⟨_, rfl, rfl⟩, ⟨_, rfl, rfl⟩, ⟨_, rfl, rfl⟩, ⟨_, rfl, rfl⟩, ⟨_, rfl, rfl⟩, ⟨_, rfl, rfl⟩, ⟨_, rfl, rfl⟩, ⟨_, rfl, rfl⟩, ⟨_, rfl, rfl⟩, ⟨_, rfl, rfl⟩, trivial⟩⟩
            exact rx_nil
          exact rx_nil
        refine rx_cons ?_ ?_
        · refine ⟨_, rfl, rfl, rfl, do_store_boxagg rfl rfl rfl (Nat.le_of_ble_eq_true rfl) rfl (allPlain rfl) ?_⟩
          refine rx_step [2] rfl (by kernel_rfl) rfl ?_
          refine rx_cons ?_ ?_
          · refine ⟨_, rfl, rfl, rfl, n_load_boxagg [_, _, _, _, _, _, _] rfl rfl (Nat.le_of_ble_eq_true rfl) rfl ?_⟩
            refine rx_step [8] rfl (by kernel_rfl) rfl ?_
            refine rx_cons ?_ ?_
            · refine ⟨_, rfl, rfl, rfl, do_store_boxagg rfl rfl rfl (Nat.le_of_ble_eq_true rfl) rfl (allPlain rfl) ?_⟩
              refine rx_done (by kernel_rfl) ?_
              exact ⟨(), [0, 1, 2, 3, 4, 5, 6, 7, 8, 9, 10, 11, 12, 13, 14, 15, 16, 17, 18], trivial, ⟨.inr ⟨_, rfl, .inl rfl⟩, .inr ⟨_, rfl, .inl rfl⟩, .inr ⟨_, rfl, .inl rfl⟩, .inr ⟨_, rfl, .inl rfl⟩, .inr ⟨_, rfl, .inl rfl⟩, .inr ⟨_, rfl, .inl rfl⟩, .inr ⟨_, rfl, .inl rfl⟩, .inr ⟨_, rfl, .inl rfl⟩, .inr ⟨_, rfl, .inl rfl⟩, .inr ⟨_, rfl, .inl rfl⟩, .inr ⟨_, rfl, .inl rfl⟩, .inr ⟨_, rfl, .inl rfl⟩, .inr ⟨_, rfl, .inl rfl⟩, .inr ⟨_, rfl, .inl rfl⟩, .inr ⟨_, rfl, .inl rfl⟩, .inr ⟨_, rfl, .inl rfl⟩, .inr ⟨_, rfl, .inl rfl⟩, .inr ⟨_, rfl, .inl rfl⟩, .inr ⟨_, rfl, .inl rfl⟩, trivial⟩, rfl, pre_ok rfl, ⟨⟨_, rfl, rfl⟩, ⟨_, rfl, rfl⟩, ⟨_, rfl, rfl⟩, ⟨_, rfl, rfl⟩, ⟨_, rfl, rfl⟩, ⟨_, rfl, rfl⟩, ⟨_, rfl, rfl⟩, ⟨_, rfl, rfl⟩, ⟨_, rfl, rfl⟩, ⟨_, rfl, rfl⟩, trivial⟩⟩
            exact rx_nil
          exact rx_nil
        exact rx_nil
      exact rx_nil
    exact all_nil
  rintro ⟨⟩ -
  refine w_seq ?_
  -- region 10
  refine w_region ?_
  refine rw_t 34 rfl rfl rfl (do_fieldaddr rfl ?_)
  refine rw_u rfl rfl (n_store_box rfl rfl rfl (Nat.le_of_ble_eq_true rfl) rfl ?_)
  refine rw_t 35 rfl rfl rfl (do_fieldaddr rfl ?_)
  refine rw_u rfl rfl (n_store_box rfl rfl rfl (Nat.le_of_ble_eq_true rfl) rfl ?_)
  refine rw_t 36 rfl rfl rfl (do_fieldaddr rfl ?_)
  refine rw_u rfl rfl (n_store_box rfl rfl rfl (Nat.le_of_ble_eq_true rfl) rfl ?_)
  refine rw_nil ?_
  refine w_env [(1, .ptr 10 0 0), (2, .ptr 11 0 0), (3, .ptr 12 0 0), (4, .ptr 13 0 0), (5, .ptr 14 0 0), (6, .ptr 15 0 0), (7, .ptr 16 0 0), (8, .ptr 17 0 0), (9, .ptr 18 0 0)] ⟨⟨_, rfl, rfl⟩, ⟨_, rfl, rfl⟩, ⟨_, rfl, rfl⟩, ⟨_, rfl, rfl⟩, ⟨_, rfl, rfl⟩, ⟨_, rfl, rfl⟩, ⟨_, rfl, rfl⟩, ⟨_, rfl, rfl⟩, ⟨_, rfl, rfl⟩, trivial⟩ ?_
  refine w_seqB 0 (((((((((rightP (makeC aw0) awP ∧ legalE (makeC aw0) awP (awE 3 1 0) = 0) ∧ ¬ (strictP (makeC aw0) awP (awE 3 1 0))) ∧ strictP (makeC aw0) awP (awE 5 1 0)) ∧ legalE (makeC aw0) awP (awE 3 1 1) = 30) ∧ legalE (makeC aw0) awP (awL 1 6) = 0) ∧ legalE (makeC aw0) awP (awL 1 1) = 30) ∧ legalE (makeC aw0) awP (awL 1 7) = 30) ∧ legalE (makeC aw0) awP (awL 2 6) = 2)) ?_ ?_
  · -- region 11
    refine w_region ?_
    refine rw_t 37 rfl rfl rfl (n_load_boxagg [_, _, _, _, _, _, _, _, _] rfl rfl (Nat.le_of_ble_eq_true rfl) rfl ?_)
    refine rw_t 38 rfl rfl rfl (n_load_boxagg [_, _, _] rfl rfl (Nat.le_of_ble_eq_true rfl) rfl ?_)
    refine rw_t 39 rfl rfl rfl (do_callR (X' := .val (.bool (decide (rightP (makeC aw0) awP)))) rfl rfl (t_Right (c := (makeC aw0)) (p := awP) ((make_t aw0_small)) (aw_ex)) [1, 2, 3, 4, 5, 6, 7, 8, 9] ⟨.inr ⟨_, rfl, srv⟩, .inr ⟨_, rfl, srv⟩, .inr ⟨_, rfl, srv⟩, .inr ⟨_, rfl, srv⟩, .inr ⟨_, rfl, srv⟩, .inr ⟨_, rfl, srv⟩, .inr ⟨_, rfl, srv⟩, .inr ⟨_, rfl, srv⟩, .inr ⟨_, rfl, srv⟩, trivial⟩ rfl rfl rfl ?_)
    refine rw_t 40 rfl rfl rfl (do_move rfl ?_)
    refine rw_case 40 rfl (fun g1 => ?_) (fun g1 => ?_)
    · have kg1 := g1
      try simp only [bs] at kg1
      refine rw_gt 41 3 40 true rfl rfl rfl rfl rfl rfl g1 (n_load_boxagg [_, _, _, _, _, _, _, _, _] rfl rfl (Nat.le_of_ble_eq_true rfl) rfl ?_)
      refine rw_gt 42 3 40 true rfl rfl rfl rfl rfl rfl g1 (n_load_boxagg [_, _, _] rfl rfl (Nat.le_of_ble_eq_true rfl) rfl ?_)
      refine rw_gt 43 3 40 true rfl rfl rfl rfl rfl rfl g1 (n_load_boxagg [_, _, _, _, _, _, _] rfl rfl (Nat.le_of_ble_eq_true rfl) rfl ?_)
      refine rw_gt 44 3 40 true rfl rfl rfl rfl rfl rfl g1 (do_callR (X' := .val (.int .i64 (legalE (makeC aw0) awP (awE 3 1 0)))) rfl rfl (t_Legal (c := (makeC aw0)) (p := awP) (e := (awE 3 1 0)) ((make_ok aw0_small)) ((right_len aw_right)) ((awE_in 3 1 0 (by decide) (by decide) (by decide)))) [1, 2, 3, 4, 5, 6, 7, 8, 9] ⟨.inr ⟨_, rfl, srv⟩, .inr ⟨_, rfl, srv⟩, .inr ⟨_, rfl, srv⟩, .inr ⟨_, rfl, srv⟩, .inr ⟨_, rfl, srv⟩, .inr ⟨_, rfl, srv⟩, .inr ⟨_, rfl, srv⟩, .inr ⟨_, rfl, srv⟩, .inr ⟨_, rfl, srv⟩, trivial⟩ rfl rfl rfl ?_)
      refine rw_gt 45 3 40 true rfl rfl rfl rfl rfl rfl g1 (do_bin rfl rfl rfl ?_)
      refine rw_t 46 rfl rfl rfl (do_pick_t rfl g1 rfl ?_)
      refine rw_t 47 rfl rfl rfl (do_move rfl ?_)
      refine rw_case 47 rfl (fun g2 => ?_) (fun g2 => ?_)
      · have kg2 := g2
        try simp only [bs] at kg2
        refine rw_gt 48 10 47 true rfl rfl rfl rfl rfl rfl g2 (n_load_boxagg [_, _, _, _, _, _, _, _, _] rfl rfl (Nat.le_of_ble_eq_true rfl) rfl ?_)
        refine rw_gt 49 10 47 true rfl rfl rfl rfl rfl rfl g2 (n_load_boxagg [_, _, _] rfl rfl (Nat.le_of_ble_eq_true rfl) rfl ?_)
        refine rw_gt 50 10 47 true rfl rfl rfl rfl rfl rfl g2 (n_load_boxagg [_, _, _, _, _, _, _] rfl rfl (Nat.le_of_ble_eq_true rfl) rfl ?_)
        refine rw_gt 51 10 47 true rfl rfl rfl rfl rfl rfl g2 (do_callR (X' := .val (.bool (decide (strictP (makeC aw0) awP (awE 3 1 0))))) rfl rfl (t_Strict (c := (makeC aw0)) (p := awP) (e := (awE 3 1 0)) ((make_g aw0_small)) (aw_right) ((awE_in 3 1 0 (by decide) (by decide) (by decide)))) [1, 2, 3, 4, 5, 6, 7, 8, 9] ⟨.inr ⟨_, rfl, srv⟩, .inr ⟨_, rfl, srv⟩, .inr ⟨_, rfl, srv⟩, .inr ⟨_, rfl, srv⟩, .inr ⟨_, rfl, srv⟩, .inr ⟨_, rfl, srv⟩, .inr ⟨_, rfl, srv⟩, .inr ⟨_, rfl, srv⟩, .inr ⟨_, rfl, srv⟩, trivial⟩ rfl rfl rfl ?_)
        refine rw_gt 52 10 47 true rfl rfl rfl rfl rfl rfl g2 (do_not rfl ?_)
        refine rw_t 53 rfl rfl rfl (do_pick_t rfl g2 rfl ?_)
        refine rw_t 54 rfl rfl rfl (do_move rfl ?_)
        refine rw_case 54 rfl (fun g3 => ?_) (fun g3 => ?_)
        · have kg3 := g3
          try simp only [bs] at kg3
          refine rw_gt 55 17 54 true rfl rfl rfl rfl rfl rfl g3 (n_load_boxagg [_, _, _, _, _, _, _, _, _] rfl rfl (Nat.le_of_ble_eq_true rfl) rfl ?_)
          refine rw_gt 56 17 54 true rfl rfl rfl rfl rfl rfl g3 (n_load_boxagg [_, _, _] rfl rfl (Nat.le_of_ble_eq_true rfl) rfl ?_)
          refine rw_gt 57 17 54 true rfl rfl rfl rfl rfl rfl g3 (n_load_boxagg [_, _, _, _, _, _, _] rfl rfl (Nat.le_of_ble_eq_true rfl) rfl ?_)
          refine rw_gt 58 17 54 true rfl rfl rfl rfl rfl rfl g3 (do_callR (X' := .val (.bool (decide (strictP (makeC aw0) awP (awE 5 1 0))))) rfl rfl (t_Strict (c := (makeC aw0)) (p := awP) (e := (awE 5 1 0)) ((make_g aw0_small)) (aw_right) ((awE_in 5 1 0 (by decide) (by decide) (by decide)))) [1, 2, 3, 4, 5, 6, 7, 8, 9] ⟨.inr ⟨_, rfl, srv⟩, .inr ⟨_, rfl, srv⟩, .inr ⟨_, rfl, srv⟩, .inr ⟨_, rfl, srv⟩, .inr ⟨_, rfl, srv⟩, .inr ⟨_, rfl, srv⟩, .inr ⟨_, rfl, srv⟩, .inr ⟨_, rfl, srv⟩, .inr ⟨_, rfl, srv⟩, trivial⟩ rfl rfl rfl ?_)
          refine rw_t 59 rfl rfl rfl (do_pick_t rfl g3 rfl ?_)
          refine rw_t 60 rfl rfl rfl (do_move rfl ?_)
          refine rw_case 60 rfl (fun g4 => ?_) (fun g4 => ?_)
          · have kg4 := g4
            try simp only [bs] at kg4
            refine rw_gt 61 23 60 true rfl rfl rfl rfl rfl rfl g4 (n_load_boxagg [_, _, _, _, _, _, _, _, _] rfl rfl (Nat.le_of_ble_eq_true rfl) rfl ?_)
            refine rw_gt 62 23 60 true rfl rfl rfl rfl rfl rfl g4 (n_load_boxagg [_, _, _] rfl rfl (Nat.le_of_ble_eq_true rfl) rfl ?_)
            refine rw_gt 63 23 60 true rfl rfl rfl rfl rfl rfl g4 (n_load_boxagg [_, _, _, _, _, _, _] rfl rfl (Nat.le_of_ble_eq_true rfl) rfl ?_)
            refine rw_gt 64 23 60 true rfl rfl rfl rfl rfl rfl g4 (do_callR (X' := .val (.int .i64 (legalE (makeC aw0) awP (awE 3 1 1)))) rfl rfl (t_Legal (c := (makeC aw0)) (p := awP) (e := (awE 3 1 1)) ((make_ok aw0_small)) ((right_len aw_right)) ((awE_in 3 1 1 (by decide) (by decide) (by decide)))) [1, 2, 3, 4, 5, 6, 7, 8, 9] ⟨.inr ⟨_, rfl, srv⟩, .inr ⟨_, rfl, srv⟩, .inr ⟨_, rfl, srv⟩, .inr ⟨_, rfl, srv⟩, .inr ⟨_, rfl, srv⟩, .inr ⟨_, rfl, srv⟩, .inr ⟨_, rfl, srv⟩, .inr ⟨_, rfl, srv⟩, .inr ⟨_, rfl, srv⟩, trivial⟩ rfl rfl rfl ?_)
            refine rw_gt 65 23 60 true rfl rfl rfl rfl rfl rfl g4 (do_bin rfl rfl rfl ?_)
            refine rw_t 66 rfl rfl rfl (do_pick_t rfl g4 rfl ?_)
            refine rw_t 67 rfl rfl rfl (do_move rfl ?_)
            refine rw_case 67 rfl (fun g5 => ?_) (fun g5 => ?_)
            · have kg5 := g5
              try simp only [bs] at kg5
              refine rw_gt 68 30 67 true rfl rfl rfl rfl rfl rfl g5 (n_load_boxagg [_, _, _, _, _, _, _, _, _] rfl rfl (Nat.le_of_ble_eq_true rfl) rfl ?_)
              refine rw_gt 69 30 67 true rfl rfl rfl rfl rfl rfl g5 (n_load_boxagg [_, _, _] rfl rfl (Nat.le_of_ble_eq_true rfl) rfl ?_)
              refine rw_gt 70 30 67 true rfl rfl rfl rfl rfl rfl g5 (n_load_boxagg [_, _, _, _, _, _, _] rfl rfl (Nat.le_of_ble_eq_true rfl) rfl ?_)
              refine rw_gt 71 30 67 true rfl rfl rfl rfl rfl rfl g5 (do_callR (X' := .val (.int .i64 (legalE (makeC aw0) awP (awL 1 6)))) rfl rfl (t_Legal (c := (makeC aw0)) (p := awP) (e := (awL 1 6)) ((make_ok aw0_small)) ((right_len aw_right)) ((awL_in 1 6 (by decide) (by decide)))) [1, 2, 3, 4, 5, 6, 7, 8, 9] ⟨.inr ⟨_, rfl, srv⟩, .inr ⟨_, rfl, srv⟩, .inr ⟨_, rfl, srv⟩, .inr ⟨_, rfl, srv⟩, .inr ⟨_, rfl, srv⟩, .inr ⟨_, rfl, srv⟩, .inr ⟨_, rfl, srv⟩, .inr ⟨_, rfl, srv⟩, .inr ⟨_, rfl, srv⟩, trivial⟩ rfl rfl rfl ?_)
              refine rw_gt 72 30 67 true rfl rfl rfl rfl rfl rfl g5 (do_bin rfl rfl rfl ?_)
              refine rw_t 73 rfl rfl rfl (do_pick_t rfl g5 rfl ?_)
              refine rw_t 74 rfl rfl rfl (do_move rfl ?_)
              refine rw_case 74 rfl (fun g6 => ?_) (fun g6 => ?_)
              · have kg6 := g6
                try simp only [bs] at kg6
                refine rw_gt 75 37 74 true rfl rfl rfl rfl rfl rfl g6 (n_load_boxagg [_, _, _, _, _, _, _, _, _] rfl rfl (Nat.le_of_ble_eq_true rfl) rfl ?_)
                refine rw_gt 76 37 74 true rfl rfl rfl rfl rfl rfl g6 (n_load_boxagg [_, _, _] rfl rfl (Nat.le_of_ble_eq_true rfl) rfl ?_)
                refine rw_gt 77 37 74 true rfl rfl rfl rfl rfl rfl g6 (n_load_boxagg [_, _, _, _, _, _, _] rfl rfl (Nat.le_of_ble_eq_true rfl) rfl ?_)
                refine rw_gt 78 37 74 true rfl rfl rfl rfl rfl rfl g6 (do_callR (X' := .val (.int .i64 (legalE (makeC aw0) awP (awL 1 1)))) rfl rfl (t_Legal (c := (makeC aw0)) (p := awP) (e := (awL 1 1)) ((make_ok aw0_small)) ((right_len aw_right)) ((awL_in 1 1 (by decide) (by decide)))) [1, 2, 3, 4, 5, 6, 7, 8, 9] ⟨.inr ⟨_, rfl, srv⟩, .inr ⟨_, rfl, srv⟩, .inr ⟨_, rfl, srv⟩, .inr ⟨_, rfl, srv⟩, .inr ⟨_, rfl, srv⟩, .inr ⟨_, rfl, srv⟩, .inr ⟨_, rfl, srv⟩, .inr ⟨_, rfl, srv⟩, .inr ⟨_, rfl, srv⟩, trivial⟩ rfl rfl rfl ?_)
                refine rw_gt 79 37 74 true rfl rfl rfl rfl rfl rfl g6 (do_bin rfl rfl rfl ?_)
                refine rw_t 80 rfl rfl rfl (do_pick_t rfl g6 rfl ?_)
                refine rw_t 81 rfl rfl rfl (do_move rfl ?_)
                refine rw_case 81 rfl (fun g7 => ?_) (fun g7 => ?_)
                · have kg7 := g7
                  try simp only [bs] at kg7
                  refine rw_gt 82 44 81 true rfl rfl rfl rfl rfl rfl g7 (n_load_boxagg [_, _, _, _, _, _, _, _, _] rfl rfl (Nat.le_of_ble_eq_true rfl) rfl ?_)
                  refine rw_gt 83 44 81 true rfl rfl rfl rfl rfl rfl g7 (n_load_boxagg [_, _, _] rfl rfl (Nat.le_of_ble_eq_true rfl) rfl ?_)
                  refine rw_gt 84 44 81 true rfl rfl rfl rfl rfl rfl g7 (n_load_boxagg [_, _, _, _, _, _, _] rfl rfl (Nat.le_of_ble_eq_true rfl) rfl ?_)
                  refine rw_gt 85 44 81 true rfl rfl rfl rfl rfl rfl g7 (do_callR (X' := .val (.int .i64 (legalE (makeC aw0) awP (awL 1 7)))) rfl rfl (t_Legal (c := (makeC aw0)) (p := awP) (e := (awL 1 7)) ((make_ok aw0_small)) ((right_len aw_right)) ((awL_in 1 7 (by decide) (by decide)))) [1, 2, 3, 4, 5, 6, 7, 8, 9] ⟨.inr ⟨_, rfl, srv⟩, .inr ⟨_, rfl, srv⟩, .inr ⟨_, rfl, srv⟩, .inr ⟨_, rfl, srv⟩, .inr ⟨_, rfl, srv⟩, .inr ⟨_, rfl, srv⟩, .inr ⟨_, rfl, srv⟩, .inr ⟨_, rfl, srv⟩, .inr ⟨_, rfl, srv⟩, trivial⟩ rfl rfl rfl ?_)
                  refine rw_gt 86 44 81 true rfl rfl rfl rfl rfl rfl g7 (do_bin rfl rfl rfl ?_)
                  refine rw_t 87 rfl rfl rfl (do_pick_t rfl g7 rfl ?_)
                  refine rw_t 88 rfl rfl rfl (do_move rfl ?_)
                  refine rw_case 88 rfl (fun g8 => ?_) (fun g8 => ?_)
                  · have kg8 := g8
                    try simp only [bs] at kg8
                    refine rw_gt 89 51 88 true rfl rfl rfl rfl rfl rfl g8 (n_load_boxagg [_, _, _, _, _, _, _, _, _] rfl rfl (Nat.le_of_ble_eq_true rfl) rfl ?_)
                    refine rw_gt 90 51 88 true rfl rfl rfl rfl rfl rfl g8 (n_load_boxagg [_, _, _] rfl rfl (Nat.le_of_ble_eq_true rfl) rfl ?_)
                    refine rw_gt 91 51 88 true rfl rfl rfl rfl rfl rfl g8 (n_load_boxagg [_, _, _, _, _, _, _] rfl rfl (Nat.le_of_ble_eq_true rfl) rfl ?_)
                    refine rw_gt 92 51 88 true rfl rfl rfl rfl rfl rfl g8 (do_callR (X' := .val (.int .i64 (legalE (makeC aw0) awP (awL 2 6)))) rfl rfl (t_Legal (c := (makeC aw0)) (p := awP) (e := (awL 2 6)) ((make_ok aw0_small)) ((right_len aw_right)) ((awL_in 2 6 (by decide) (by decide)))) [1, 2, 3, 4, 5, 6, 7, 8, 9] ⟨.inr ⟨_, rfl, srv⟩, .inr ⟨_, rfl, srv⟩, .inr ⟨_, rfl, srv⟩, .inr ⟨_, rfl, srv⟩, .inr ⟨_, rfl, srv⟩, .inr ⟨_, rfl, srv⟩, .inr ⟨_, rfl, srv⟩, .inr ⟨_, rfl, srv⟩, .inr ⟨_, rfl, srv⟩, trivial⟩ rfl rfl rfl ?_)
                    refine rw_gt 93 51 88 true rfl rfl rfl rfl rfl rfl g8 (do_bin rfl rfl rfl ?_)
                    refine rw_t 94 rfl rfl rfl (do_pick_t rfl g8 rfl ?_)
                    refine rw_t 0 rfl rfl rfl (do_assign rfl ?_)
                    refine rw_nil ?_
                    refine ⟨rfl, ⟨_, rfl, by first | (simp; done) | (simp only [bs]; omega) | (simp [*]; done) | (simp; omega) | (constructor <;> intro h <;> simp_all <;> omega)⟩, ?_⟩
                    repeat (refine ⟨⟨_, rfl, rfl⟩, ?_⟩)
                    exact trivial
                  · have kg8 := g8
                    try simp only [bs] at kg8
                    refine rw_gf 89 51 88 true rfl rfl rfl rfl rfl rfl (by rw [g8]; decide) ?_
                    refine rw_gf 90 51 88 true rfl rfl rfl rfl rfl rfl (by rw [g8]; decide) ?_
                    refine rw_gf 91 51 88 true rfl rfl rfl rfl rfl rfl (by rw [g8]; decide) ?_
                    refine rw_gf 92 51 88 true rfl rfl rfl rfl rfl rfl (by rw [g8]; decide) ?_
                    refine rw_gf 93 51 88 true rfl rfl rfl rfl rfl rfl (by rw [g8]; decide) ?_
                    refine rw_t 94 rfl rfl rfl (do_pick_f rfl g8 rfl ?_)
                    refine rw_t 0 rfl rfl rfl (do_assign rfl ?_)
                    refine rw_nil ?_
                    refine ⟨rfl, ⟨_, rfl, by first | (simp; done) | (simp only [bs]; omega) | (simp [*]; done) | (simp; omega) | (constructor <;> intro h <;> simp_all <;> omega)⟩, ?_⟩
                    repeat (refine ⟨⟨_, rfl, rfl⟩, ?_⟩)
                    exact trivial
                · have kg7 := g7
                  try simp only [bs] at kg7
                  refine rw_gf 82 44 81 true rfl rfl rfl rfl rfl rfl (by rw [g7]; decide) ?_
                  refine rw_gf 83 44 81 true rfl rfl rfl rfl rfl rfl (by rw [g7]; decide) ?_
                  refine rw_gf 84 44 81 true rfl rfl rfl rfl rfl rfl (by rw [g7]; decide) ?_
                  refine rw_gf 85 44 81 true rfl rfl rfl rfl rfl rfl (by rw [g7]; decide) ?_
                  refine rw_gf 86 44 81 true rfl rfl rfl rfl rfl rfl (by rw [g7]; decide) ?_
                  refine rw_t 87 rfl rfl rfl (do_pick_f rfl g7 rfl ?_)
                  refine rw_t 88 rfl rfl rfl (do_move rfl ?_)
                  refine rw_gf 89 51 88 true rfl rfl rfl rfl rfl rfl (by decide) ?_
                  refine rw_gf 90 51 88 true rfl rfl rfl rfl rfl rfl (by decide) ?_
                  refine rw_gf 91 51 88 true rfl rfl rfl rfl rfl rfl (by decide) ?_
                  refine rw_gf 92 51 88 true rfl rfl rfl rfl rfl rfl (by decide) ?_
                  refine rw_gf 93 51 88 true rfl rfl rfl rfl rfl rfl (by decide) ?_
                  refine rw_t 94 rfl rfl rfl (do_pick_f rfl rfl rfl ?_)
                  refine rw_t 0 rfl rfl rfl (do_assign rfl ?_)
                  refine rw_nil ?_
                  refine ⟨rfl, ⟨_, rfl, by first | (simp; done) | (simp only [bs]; omega) | (simp [*]; done) | (simp; omega) | (constructor <;> intro h <;> simp_all <;> omega)⟩, ?_⟩
                  repeat (refine ⟨⟨_, rfl, rfl⟩, ?_⟩)
                  exact trivial
              · have kg6 := g6
                try simp only [bs] at kg6
                refine rw_gf 75 37 74 true rfl rfl rfl rfl rfl rfl (by rw [g6]; decide) ?_
                refine rw_gf 76 37 74 true rfl rfl rfl rfl rfl rfl (by rw [g6]; decide) ?_
                refine rw_gf 77 37 74 true rfl rfl rfl rfl rfl rfl (by rw [g6]; decide) ?_
                refine rw_gf 78 37 74 true rfl rfl rfl rfl rfl rfl (by rw [g6]; decide) ?_
                refine rw_gf 79 37 74 true rfl rfl rfl rfl rfl rfl (by rw [g6]; decide) ?_
                refine rw_t 80 rfl rfl rfl (do_pick_f rfl g6 rfl ?_)
                refine rw_t 81 rfl rfl rfl (do_move rfl ?_)
                refine rw_gf 82 44 81 true rfl rfl rfl rfl rfl rfl (by decide) ?_
                refine rw_gf 83 44 81 true rfl rfl rfl rfl rfl rfl (by decide) ?_
                refine rw_gf 84 44 81 true rfl rfl rfl rfl rfl rfl (by decide) ?_
                refine rw_gf 85 44 81 true rfl rfl rfl rfl rfl rfl (by decide) ?_
                refine rw_gf 86 44 81 true rfl rfl rfl rfl rfl rfl (by decide) ?_
                refine rw_t 87 rfl rfl rfl (do_pick_f rfl rfl rfl ?_)
                refine rw_t 88 rfl rfl rfl (do_move rfl ?_)
                refine rw_gf 89 51 88 true rfl rfl rfl rfl rfl rfl (by decide) ?_
                refine rw_gf 90 51 88 true rfl rfl rfl rfl rfl rfl (by decide) ?_
                refine rw_gf 91 51 88 true rfl rfl rfl rfl rfl rfl (by decide) ?_
                refine rw_gf 92 51 88 true rfl rfl rfl rfl rfl rfl (by decide) ?_
                refine rw_gf 93 51 88 true rfl rfl rfl rfl rfl rfl (by decide) ?_
                refine rw_t 94 rfl rfl rfl (do_pick_f rfl rfl rfl ?_)
                refine rw_t 0 rfl rfl rfl (do_assign rfl ?_)
                refine rw_nil ?_
                refine ⟨rfl, ⟨_, rfl, by first | (simp; done) | (simp only [bs]; omega) | (simp [*]; done) | (simp; omega) | (constructor <;> intro h <;> simp_all <;> omega)⟩, ?_⟩
                repeat (refine ⟨⟨_, rfl, rfl⟩, ?_⟩)
                exact trivial
            · have kg5 := g5
              try simp only [bs] at kg5
              refine rw_gf 68 30 67 true rfl rfl rfl rfl rfl rfl (by rw [g5]; decide) ?_
              refine rw_gf 69 30 67 true rfl rfl rfl rfl rfl rfl (by rw [g5]; decide) ?_
              refine rw_gf 70 30 67 true rfl rfl rfl rfl rfl rfl (by rw [g5]; decide) ?_
              refine rw_gf 71 30 67 true rfl rfl rfl rfl rfl rfl (by rw [g5]; decide) ?_
              refine rw_gf 72 30 67 true rfl rfl rfl rfl rfl rfl (by rw [g5]; decide) ?_
              refine rw_t 73 rfl rfl rfl (do_pick_f rfl g5 rfl ?_)
              refine rw_t 74 rfl rfl rfl (do_move rfl ?_)
              refine rw_gf 75 37 74 true rfl rfl rfl rfl rfl rfl (by decide) ?_
              refine rw_gf 76 37 74 true rfl rfl rfl rfl rfl rfl (by decide) ?_
              refine rw_gf 77 37 74 true rfl rfl rfl rfl rfl rfl (by decide) ?_
              refine rw_gf 78 37 74 true rfl rfl rfl rfl rfl rfl (by decide) ?_
              refine rw_gf 79 37 74 true rfl rfl rfl rfl rfl rfl (by decide) ?_
              refine rw_t 80 rfl rfl rfl (do_pick_f rfl rfl rfl ?_)
              refine rw_t 81 rfl rfl rfl (do_move rfl ?_)
              refine rw_gf 82 44 81 true rfl rfl rfl rfl rfl rfl (by decide) ?_
              refine rw_gf 83 44 81 true rfl rfl rfl rfl rfl rfl (by decide) ?_
              refine rw_gf 84 44 81 true rfl rfl rfl rfl rfl rfl (by decide) ?_
              refine rw_gf 85 44 81 true rfl rfl rfl rfl rfl rfl (by decide) ?_
              refine rw_gf 86 44 81 true rfl rfl rfl rfl rfl rfl (by decide) ?_
              refine rw_t 87 rfl rfl rfl (do_pick_f rfl rfl rfl ?_)
              refine rw_t 88 rfl rfl rfl (do_move rfl ?_)
              refine rw_gf 89 51 88 true rfl rfl rfl rfl rfl rfl (by decide) ?_
              refine rw_gf 90 51 88 true rfl rfl rfl rfl rfl rfl (by decide) ?_
              refine rw_gf 91 51 88 true rfl rfl rfl rfl rfl rfl (by decide) ?_
              refine rw_gf 92 51 88 true rfl rfl rfl rfl rfl rfl (by decide) ?_
              refine rw_gf 93 51 88 true rfl rfl rfl rfl rfl rfl (by decide) ?_
              refine rw_t 94 rfl rfl rfl (do_pick_f rfl rfl rfl ?_)
              refine rw_t 0 rfl rfl rfl (do_assign rfl ?_)
              refine rw_nil ?_
              refine ⟨rfl, ⟨_, rfl, by first | (simp; done) | (simp only [bs]; omega) | (simp [*]; done) | (simp; omega) | (constructor <;> intro h <;> simp_all <;> omega)⟩, ?_⟩
              repeat (refine ⟨⟨_, rfl, rfl⟩, ?_⟩)
              exact trivial
          · have kg4 := g4
            try simp only [bs] at kg4
            refine rw_gf 61 23 60 true rfl rfl rfl rfl rfl rfl (by rw [g4]; decide) ?_
            refine rw_gf 62 23 60 true rfl rfl rfl rfl rfl rfl (by rw [g4]; decide) ?_
            refine rw_gf 63 23 60 true rfl rfl rfl rfl rfl rfl (by rw [g4]; decide) ?_
            refine rw_gf 64 23 60 true rfl rfl rfl rfl rfl rfl (by rw [g4]; decide) ?_
            refine rw_gf 65 23 60 true rfl rfl rfl rfl rfl rfl (by rw [g4]; decide) ?_
            refine rw_t 66 rfl rfl rfl (do_pick_f rfl g4 rfl ?_)
            refine rw_t 67 rfl rfl rfl (do_move rfl ?_)
            refine rw_gf 68 30 67 true rfl rfl rfl rfl rfl rfl (by decide) ?_
            refine rw_gf 69 30 67 true rfl rfl rfl rfl rfl rfl (by decide) ?_
            refine rw_gf 70 30 67 true rfl rfl rfl rfl rfl rfl (by decide) ?_
            refine rw_gf 71 30 67 true rfl rfl rfl rfl rfl rfl (by decide) ?_
            refine rw_gf 72 30 67 true rfl rfl rfl rfl rfl rfl (by decide) ?_
            refine rw_t 73 rfl rfl rfl (do_pick_f rfl rfl rfl ?_)
            refine rw_t 74 rfl rfl rfl (do_move rfl ?_)
            refine rw_gf 75 37 74 true rfl rfl rfl rfl rfl rfl (by decide) ?_
            refine rw_gf 76 37 74 true rfl rfl rfl rfl rfl rfl (by decide) ?_
            refine rw_gf 77 37 74 true rfl rfl rfl rfl rfl rfl (by decide) ?_
            refine rw_gf 78 37 74 true rfl rfl rfl rfl rfl rfl (by decide) ?_
            refine rw_gf 79 37 74 true rfl rfl rfl rfl rfl rfl (by decide) ?_
            refine rw_t 80 rfl rfl rfl (do_pick_f rfl rfl rfl ?_)
            refine rw_t 81 rfl rfl rfl (do_move rfl ?_)
            refine rw_gf 82 44 81 true rfl rfl rfl rfl rfl rfl (by decide) ?_
            refine rw_gf 83 44 81 true rfl rfl rfl rfl rfl rfl (by decide) ?_
            refine rw_gf 84 44 81 true rfl rfl rfl rfl rfl rfl (by decide) ?_
            refine rw_gf 85 44 81 true rfl rfl rfl rfl rfl rfl (by decide) ?_
            refine rw_gf 86 44 81 true rfl rfl rfl rfl rfl rfl (by decide) ?_
            refine rw_t 87 rfl rfl rfl (do_pick_f rfl rfl rfl ?_)
            refine rw_t 88 rfl rfl rfl (do_move rfl ?_)
            refine rw_gf 89 51 88 true rfl rfl rfl rfl rfl rfl (by decide) ?_
            refine rw_gf 90 51 88 true rfl rfl rfl rfl rfl rfl (by decide) ?_
            refine rw_gf 91 51 88 true rfl rfl rfl rfl rfl rfl (by decide) ?_
            refine rw_gf 92 51 88 true rfl rfl rfl rfl rfl rfl (by decide) ?_
            refine rw_gf 93 51 88 true rfl rfl rfl rfl rfl rfl (by decide) ?_
            refine rw_t 94 rfl rfl rfl (do_pick_f rfl rfl rfl ?_)
            refine rw_t 0 rfl rfl rfl (do_assign rfl ?_)
            refine rw_nil ?_
            refine ⟨rfl, ⟨_, rfl, by first | (simp; done) | (simp only [bs]; omega) | (simp [*]; done) | (simp; omega) | (constructor <;> intro h <;> simp_all <;> omega)⟩, ?_⟩
            repeat (refine ⟨⟨_, rfl, rfl⟩, ?_⟩)
            exact trivial
        · have kg3 := g3
          try simp only [bs] at kg3
          refine rw_gf 55 17 54 true rfl rfl rfl rfl rfl rfl (by rw [g3]; decide) ?_
          refine rw_gf 56 17 54 true rfl rfl rfl rfl rfl rfl (by rw [g3]; decide) ?_
          refine rw_gf 57 17 54 true rfl rfl rfl rfl rfl rfl (by rw [g3]; decide) ?_
          refine rw_gf 58 17 54 true rfl rfl rfl rfl rfl rfl (by rw [g3]; decide) ?_
          refine rw_t 59 rfl rfl rfl (do_pick_f rfl g3 rfl ?_)
          refine rw_t 60 rfl rfl rfl (do_move rfl ?_)
          refine rw_gf 61 23 60 true rfl rfl rfl rfl rfl rfl (by decide) ?_
          refine rw_gf 62 23 60 true rfl rfl rfl rfl rfl rfl (by decide) ?_
          refine rw_gf 63 23 60 true rfl rfl rfl rfl rfl rfl (by decide) ?_
          refine rw_gf 64 23 60 true rfl rfl rfl rfl rfl rfl (by decide) ?_
          refine rw_gf 65 23 60 true rfl rfl rfl rfl rfl rfl (by decide) ?_
          refine rw_t 66 rfl rfl rfl (do_pick_f rfl rfl rfl ?_)
          refine rw_t 67 rfl rfl rfl (do_move rfl ?_)
          refine rw_gf 68 30 67 true rfl rfl rfl rfl rfl rfl (by decide) ?_
          refine rw_gf 69 30 67 true rfl rfl rfl rfl rfl rfl (by decide) ?_
          refine rw_gf 70 30 67 true rfl rfl rfl rfl rfl rfl (by decide) ?_
          refine rw_gf 71 30 67 true rfl rfl rfl rfl rfl rfl (by decide) ?_
          refine rw_gf 72 30 67 true rfl rfl rfl rfl rfl rfl (by decide) ?_
          refine rw_t 73 rfl rfl rfl (do_pick_f rfl rfl rfl ?_)
          refine rw_t 74 rfl rfl rfl (do_move rfl ?_)
          refine rw_gf 75 37 74 true rfl rfl rfl rfl rfl rfl (by decide) ?_
          refine rw_gf 76 37 74 true rfl rfl rfl rfl rfl rfl (by decide) ?_
          refine rw_gf 77 37 74 true rfl rfl rfl rfl rfl rfl (by decide) ?_
          refine rw_gf 78 37 74 true rfl rfl rfl rfl rfl rfl (by decide) ?_
          refine rw_gf 79 37 74 true rfl rfl rfl rfl rfl rfl (by decide) ?_
          refine rw_t 80 rfl rfl rfl (do_pick_f rfl rfl rfl ?_)
          refine rw_t 81 rfl rfl rfl (do_move rfl ?_)
          refine rw_gf 82 44 81 true rfl rfl rfl rfl rfl rfl (by decide) ?_
          refine rw_gf 83 44 81 true rfl rfl rfl rfl rfl rfl (by decide) ?_
          refine rw_gf 84 44 81 true rfl rfl rfl rfl rfl rfl (by decide) ?_
          refine rw_gf 85 44 81 true rfl rfl rfl rfl rfl rfl (by decide) ?_
          refine rw_gf 86 44 81 true rfl rfl rfl rfl rfl rfl (by decide) ?_
          refine rw_t 87 rfl rfl rfl (do_pick_f rfl rfl rfl ?_)
          refine rw_t 88 rfl rfl rfl (do_move rfl ?_)
          refine rw_gf 89 51 88 true rfl rfl rfl rfl rfl rfl (by decide) ?_
          refine rw_gf 90 51 88 true rfl rfl rfl rfl rfl rfl (by decide) ?_
          refine rw_gf 91 51 88 true rfl rfl rfl rfl rfl rfl (by decide) ?_
          refine rw_gf 92 51 88 true rfl rfl rfl rfl rfl rfl (by decide) ?_
          refine rw_gf 93 51 88 true rfl rfl rfl rfl rfl rfl (by decide) ?_
          refine rw_t 94 rfl rfl rfl (do_pick_f rfl rfl rfl ?_)
          refine rw_t 0 rfl rfl rfl (do_assign rfl ?_)
          refine rw_nil ?_
          refine ⟨rfl, ⟨_, rfl, by first | (simp; done) | (simp only [bs]; omega) | (simp [*]; done) | (simp; omega) | (constructor <;> intro h <;> simp_all <;> omega)⟩, ?_⟩
          repeat (refine ⟨⟨_, rfl, rfl⟩, ?_⟩)
          exact trivial
      · have kg2 := g2
        try simp only [bs] at kg2
        refine rw_gf 48 10 47 true rfl rfl rfl rfl rfl rfl (by rw [g2]; decide) ?_
        refine rw_gf 49 10 47 true rfl rfl rfl rfl rfl rfl (by rw [g2]; decide) ?_
        refine rw_gf 50 10 47 true rfl rfl rfl rfl rfl rfl (by rw [g2]; decide) ?_
        refine rw_gf 51 10 47 true rfl rfl rfl rfl rfl rfl (by rw [g2]; decide) ?_
        refine rw_gf 52 10 47 true rfl rfl rfl rfl rfl rfl (by rw [g2]; decide) ?_
        refine rw_t 53 rfl rfl rfl (do_pick_f rfl g2 rfl ?_)
        refine rw_t 54 rfl rfl rfl (do_move rfl ?_)
        refine rw_gf 55 17 54 true rfl rfl rfl rfl rfl rfl (by decide) ?_
        refine rw_gf 56 17 54 true rfl rfl rfl rfl rfl rfl (by decide) ?_
        refine rw_gf 57 17 54 true rfl rfl rfl rfl rfl rfl (by decide) ?_
        refine rw_gf 58 17 54 true rfl rfl rfl rfl rfl rfl (by decide) ?_
        refine rw_t 59 rfl rfl rfl (do_pick_f rfl rfl rfl ?_)
        refine rw_t 60 rfl rfl rfl (do_move rfl ?_)
        refine rw_gf 61 23 60 true rfl rfl rfl rfl rfl rfl (by decide) ?_
        refine rw_gf 62 23 60 true rfl rfl rfl rfl rfl rfl (by decide) ?_
        refine rw_gf 63 23 60 true rfl rfl rfl rfl rfl rfl (by decide) ?_
        refine rw_gf 64 23 60 true rfl rfl rfl rfl rfl rfl (by decide) ?_
        refine rw_gf 65 23 60 true rfl rfl rfl rfl rfl rfl (by decide) ?_
        refine rw_t 66 rfl rfl rfl (do_pick_f rfl rfl rfl ?_)
        refine rw_t 67 rfl rfl rfl (do_move rfl ?_)
        refine rw_gf 68 30 67 true rfl rfl rfl rfl rfl rfl (by decide) ?_
        refine rw_gf 69 30 67 true rfl rfl rfl rfl rfl rfl (by decide) ?_
        refine rw_gf 70 30 67 true rfl rfl rfl rfl rfl rfl (by decide) ?_
        refine rw_gf 71 30 67 true rfl rfl rfl rfl rfl rfl (by decide) ?_
        refine rw_gf 72 30 67 true rfl rfl rfl rfl rfl rfl (by decide) ?_
        refine rw_t 73 rfl rfl rfl (do_pick_f rfl rfl rfl ?_)
        refine rw_t 74 rfl rfl rfl (do_move rfl ?_)
        refine rw_gf 75 37 74 true rfl rfl rfl rfl rfl rfl (by decide) ?_
        refine rw_gf 76 37 74 true rfl rfl rfl rfl rfl rfl (by decide) ?_
        refine rw_gf 77 37 74 true rfl rfl rfl rfl rfl rfl (by decide) ?_
        refine rw_gf 78 37 74 true rfl rfl rfl rfl rfl rfl (by decide) ?_
        refine rw_gf 79 37 74 true rfl rfl rfl rfl rfl rfl (by decide) ?_
        refine rw_t 80 rfl rfl rfl (do_pick_f rfl rfl rfl ?_)
        refine rw_t 81 rfl rfl rfl (do_move rfl ?_)
        refine rw_gf 82 44 81 true rfl rfl rfl rfl rfl rfl (by decide) ?_
        refine rw_gf 83 44 81 true rfl rfl rfl rfl rfl rfl (by decide) ?_
        refine rw_gf 84 44 81 true rfl rfl rfl rfl rfl rfl (by decide) ?_
        refine rw_gf 85 44 81 true rfl rfl rfl rfl rfl rfl (by decide) ?_
        refine rw_gf 86 44 81 true rfl rfl rfl rfl rfl rfl (by decide) ?_
        refine rw_t 87 rfl rfl rfl (do_pick_f rfl rfl rfl ?_)
        refine rw_t 88 rfl rfl rfl (do_move rfl ?_)
        refine rw_gf 89 51 88 true rfl rfl rfl rfl rfl rfl (by decide) ?_
        refine rw_gf 90 51 88 true rfl rfl rfl rfl rfl rfl (by decide) ?_
        refine rw_gf 91 51 88 true rfl rfl rfl rfl rfl rfl (by decide) ?_
        refine rw_gf 92 51 88 true rfl rfl rfl rfl rfl rfl (by decide) ?_
        refine rw_gf 93 51 88 true rfl rfl rfl rfl rfl rfl (by decide) ?_
        refine rw_t 94 rfl rfl rfl (do_pick_f rfl rfl rfl ?_)
        refine rw_t 0 rfl rfl rfl (do_assign rfl ?_)
        refine rw_nil ?_
        refine ⟨rfl, ⟨_, rfl, by first | (simp; done) | (simp only [bs]; omega) | (simp [*]; done) | (simp; omega) | (constructor <;> intro h <;> simp_all <;> omega)⟩, ?_⟩
        repeat (refine ⟨⟨_, rfl, rfl⟩, ?_⟩)
        exact trivial
    · have kg1 := g1
      try simp only [bs] at kg1
      refine rw_gf 41 3 40 true rfl rfl rfl rfl rfl rfl (by rw [g1]; decide) ?_
      refine rw_gf 42 3 40 true rfl rfl rfl rfl rfl rfl (by rw [g1]; decide) ?_
      refine rw_gf 43 3 40 true rfl rfl rfl rfl rfl rfl (by rw [g1]; decide) ?_
      refine rw_gf 44 3 40 true rfl rfl rfl rfl rfl rfl (by rw [g1]; decide) ?_
      refine rw_gf 45 3 40 true rfl rfl rfl rfl rfl rfl (by rw [g1]; decide) ?_
      refine rw_t 46 rfl rfl rfl (do_pick_f rfl g1 rfl ?_)
      refine rw_t 47 rfl rfl rfl (do_move rfl ?_)
      refine rw_gf 48 10 47 true rfl rfl rfl rfl rfl rfl (by decide) ?_
      refine rw_gf 49 10 47 true rfl rfl rfl rfl rfl rfl (by decide) ?_
      refine rw_gf 50 10 47 true rfl rfl rfl rfl rfl rfl (by decide) ?_
      refine rw_gf 51 10 47 true rfl rfl rfl rfl rfl rfl (by decide) ?_
      refine rw_gf 52 10 47 true rfl rfl rfl rfl rfl rfl (by decide) ?_
      refine rw_t 53 rfl rfl rfl (do_pick_f rfl rfl rfl ?_)
      refine rw_t 54 rfl rfl rfl (do_move rfl ?_)
      refine rw_gf 55 17 54 true rfl rfl rfl rfl rfl rfl (by decide) ?_
      refine rw_gf 56 17 54 true rfl rfl rfl rfl rfl rfl (by decide) ?_
      refine rw_gf 57 17 54 true rfl rfl rfl rfl rfl rfl (by decide) ?_
      refine rw_gf 58 17 54 true rfl rfl rfl rfl rfl rfl (by decide) ?_
      refine rw_t 59 rfl rfl rfl (do_pick_f rfl rfl rfl ?_)
      refine rw_t 60 rfl rfl rfl (do_move rfl ?_)
      refine rw_gf 61 23 60 true rfl rfl rfl rfl rfl rfl (by decide) ?_
      refine rw_gf 62 23 60 true rfl rfl rfl rfl rfl rfl (by decide) ?_
      refine rw_gf 63 23 60 true rfl rfl rfl rfl rfl rfl (by decide) ?_
      refine rw_gf 64 23 60 true rfl rfl rfl rfl rfl rfl (by decide) ?_
      refine rw_gf 65 23 60 true rfl rfl rfl rfl rfl rfl (by decide) ?_
      refine rw_t 66 rfl rfl rfl (do_pick_f rfl rfl rfl ?_)
      refine rw_t 67 rfl rfl rfl (do_move rfl ?_)
      refine rw_gf 68 30 67 true rfl rfl rfl rfl rfl rfl (by decide) ?_
      refine rw_gf 69 30 67 true rfl rfl rfl rfl rfl rfl (by decide) ?_
      refine rw_gf 70 30 67 true rfl rfl rfl rfl rfl rfl (by decide) ?_
      refine rw_gf 71 30 67 true rfl rfl rfl rfl rfl rfl (by decide) ?_
      refine rw_gf 72 30 67 true rfl rfl rfl rfl rfl rfl (by decide) ?_
      refine rw_t 73 rfl rfl rfl (do_pick_f rfl rfl rfl ?_)
      refine rw_t 74 rfl rfl rfl (do_move rfl ?_)
      refine rw_gf 75 37 74 true rfl rfl rfl rfl rfl rfl (by decide) ?_
      refine rw_gf 76 37 74 true rfl rfl rfl rfl rfl rfl (by decide) ?_
      refine rw_gf 77 37 74 true rfl rfl rfl rfl rfl rfl (by decide) ?_
      refine rw_gf 78 37 74 true rfl rfl rfl rfl rfl rfl (by decide) ?_
      refine rw_gf 79 37 74 true rfl rfl rfl rfl rfl rfl (by decide) ?_
      refine rw_t 80 rfl rfl rfl (do_pick_f rfl rfl rfl ?_)
      refine rw_t 81 rfl rfl rfl (do_move rfl ?_)
      refine rw_gf 82 44 81 true rfl rfl rfl rfl rfl rfl (by decide) ?_
      refine rw_gf 83 44 81 true rfl rfl rfl rfl rfl rfl (by decide) ?_
      refine rw_gf 84 44 81 true rfl rfl rfl rfl rfl rfl (by decide) ?_
      refine rw_gf 85 44 81 true rfl rfl rfl rfl rfl rfl (by decide) ?_
      refine rw_gf 86 44 81 true rfl rfl rfl rfl rfl rfl (by decide) ?_
      refine rw_t 87 rfl rfl rfl (do_pick_f rfl rfl rfl ?_)
      refine rw_t 88 rfl rfl rfl (do_move rfl ?_)
      refine rw_gf 89 51 88 true rfl rfl rfl rfl rfl rfl (by decide) ?_
      refine rw_gf 90 51 88 true rfl rfl rfl rfl rfl rfl (by decide) ?_
      refine rw_gf 91 51 88 true rfl rfl rfl rfl rfl rfl (by decide) ?_
      refine rw_gf 92 51 88 true rfl rfl rfl rfl rfl rfl (by decide) ?_
      refine rw_gf 93 51 88 true rfl rfl rfl rfl rfl rfl (by decide) ?_
      refine rw_t 94 rfl rfl rfl (do_pick_f rfl rfl rfl ?_)
      refine rw_t 0 rfl rfl rfl (do_assign rfl ?_)
      refine rw_nil ?_
      refine ⟨rfl, ⟨_, rfl, by first | (simp; done) | (simp only [bs]; omega) | (simp [*]; done) | (simp; omega) | (constructor <;> intro h <;> simp_all <;> omega)⟩, ?_⟩
      repeat (refine ⟨⟨_, rfl, rfl⟩, ?_⟩)
      exact trivial
  intro b1 hb1
  refine w_ret ?_
  exact ret_eq (.inl rfl) (.cons (res_tmp rfl) .nil) [] (Eq.symm (bool_congr ((hb1.2 aw_all).symm))) trivial rfl (pre_ok rfl)
end Go.Proofs

set_option linter.unusedVariables false
namespace Go.Proofs
open Go Go.Sx Go.RowKit
abbrev encAct (x : Act) : List Value := [.int .i64 x.e.who, .int .u8 x.e.what, .int .i64 x.e.u, .int .i64 x.e.arc, .int .i64 x.e.d, .int .i64 x.e.h, .int .i64 x.e.low, .bool x.raw, .int .u8 x.fit]
abbrev Act.none : Act := ⟨Event.none, false, 0⟩
abbrev SO.acts (own : Bool) (xs : List Act) : SO := .arr Act own 9 encAct Act.none xs
theorem slc_eq {o off off' len len' : Nat} {cap : Option Nat} (h : off = off') (k : len = len') : SV.slc o off len cap = SV.slc o off' len' cap := by rw [h, k]
theorem move_right {c : Csr} (h : CsrG c) {p : Pre} (hp : rightP c p) (e : Event) : rightP c (moveE c p e).1 := by
  unfold moveE
  split
  · rename_i hl; exact right_does h hp hl
  · exact hp
theorem move_why (c : Csr) (p : Pre) (e : Event) : (moveE c p e).2 = legalE c p e := by
  unfold moveE; split
  · rename_i h; exact h.symm
  · rfl
theorem move_not {c : Csr} {p : Pre} {e : Event} (h : (moveE c p e).2 ≠ 0) : (moveE c p e).1 = p := by
  unfold moveE at *
  split
  · rename_i hl; rw [if_pos hl] at h; exact (h rfl).elim
  · rfl
theorem move_H {c : Csr} (h : CsrG c) {p : Pre} (hp : rightP c p) (e : Event) (v : Nat) : p.H.getD v 0 ≤ (moveE c p e).1.H.getD v 0 := by
  unfold moveE
  split
  · rename_i hl
    have hu := legal_u hl
    have hn := h.n
    unfold doesP
    split
    · rename_i hw
      have hq := legal_lift hl hw
      show _ ≤ (p.H.set e.u.toNat e.h).getD v 0
      rw [getD_set _ _ _ _ (by have := hp.1.2.2; omega)]
      split
      · rename_i hv; subst hv; omega
      · omega
    · exact Int.le_refl _
  · exact Int.le_refl _
theorem move_Ex {c : Csr} (h : CsrG c) {p : Pre} (hp : rightP c p) (e : Event) {v : Int} (hv0 : 0 ≤ v ∧ v < c.N) (hv : v = c.S ∨ v = c.T) : p.Ex.getD v.toNat 0 ≤ (moveE c p e).1.Ex.getD v.toNat 0 := by
  unfold moveE
  split
  · rename_i hl
    have hu := legal_u hl
    have hn := h.n
    unfold doesP
    split
    · exact Int.le_refl _
    · rename_i hw
      obtain ⟨a1, a2, a3, a4, a5, a6, a7⟩ := legal_push hl hw
      obtain ⟨t1, t2, t3⟩ := tail_of_arc h.toCsrT ⟨hu.2.1, hu.2.2.1⟩ a1 a2
      have hhd := h.hd e.arc.toNat (by omega)
      have hl2 := hp.1.2.1
      show _ ≤ (addAt (subAt p.Ex e.u e.d) (c.Head.getD e.arc.toNat 0) e.d).getD v.toNat 0
      unfold addAt subAt
      rw [getD_set _ _ _ _ (by rw [List.length_set]; omega), getD_set _ _ _ _ (by omega), getD_set _ _ _ _ (by omega)]
      split
      · rename_i h1
        rw [h1]
        split <;> omega
      · rw [if_neg (by omega)]; exact Int.le_refl _
  · exact Int.le_refl _
theorem right_in64 {c : Csr} (h : CsrT c) {p : Pre} (hp : rightP c p) : ∀ x ∈ p.Ex, In64 x := by
  intro x hx
  obtain ⟨i, hi, rfl⟩ := List.mem_iff_getElem.1 hx
  have h1 := (right_ok h hp).exv i (by have := hp.1.2.1; omega)
  simp only [List.getD, List.getElem?_eq_getElem hi, Option.getD_some] at h1
  unfold In64; omega
/-- The excesses of the first vertices, together. -/
theorem exS_bound {c : Csr} (h : CsrG c) {res : List Int} (hr : ∀ a, a < c.Head.length → 0 ≤ res.getD a 0 ∧ res.getD a 0 ≤ mostOf c a) (j : Nat) (hj : j ≤ c.N.toNat) : ∀ k, k ≤ c.Head.length → -(k * 1125899906842624 : Int) ≤ sumN (fun v => exK c res k v) j ∧ sumN (fun v => exK c res k v) j ≤ (k * 1125899906842624 : Int) ∧ (j = c.N.toNat → sumN (fun v => exK c res k v) j = 0)
  | 0, _ => by
    have e0 : sumN (fun v => exK c res 0 v) j = 0 := sumN_zero (fun i _ => rfl)
    rw [e0]; simp
  | k + 1, hk => by
    obtain ⟨i1, i2, i3⟩ := exS_bound h hr j hj k (by omega)
    have hres := hr k (by omega)
    have hcap := h.capv k (by omega)
    have hhd := h.hd k (by omega)
    obtain ⟨v, v1, _, v3, _⟩ := h.tail_at (a := (k : Int)) (by omega) (by omega)
    have e1 : sumN (fun v => exK c res (k + 1) v) j = sumN (fun v => exK c res k v) j + sumN (fun v => if c.Back.getD k false = true then (if tailOf c k = (v : Int) then res.getD k 0 else 0) - (if c.Head.getD k 0 = (v : Int) then res.getD k 0 else 0) else 0) j := by
      rw [← sumN_add]; rfl
    have one : ∀ (t : Nat) (x : Int), sumN (fun v => if (t : Int) = (v : Int) then x else 0) j = if t < j then x else 0 := by
      intro t x
      split
      · rename_i ht
        rw [sumN_one ht (fun i _ hne => by rw [if_neg (by omega)]), if_pos rfl]
      · rename_i ht
        exact sumN_zero (fun i hi => by rw [if_neg (by omega)])
    have e2 : ((k + 1 : Nat) : Int) * 1125899906842624 = (k : Int) * 1125899906842624 + 1125899906842624 := by rw [Int.natCast_add, Int.add_mul]; rfl
    rw [e1, e2]
    cases hb : c.Back.getD k false with
    | false =>
      have e3 : sumN (fun v => if false = true then (if tailOf c k = (v : Int) then res.getD k 0 else 0) - (if c.Head.getD k 0 = (v : Int) then res.getD k 0 else 0) else 0) j = 0 := sumN_zero (fun i _ => rfl)
      rw [e3]
      refine ⟨by omega, by omega, fun hj' => by rw [i3 hj']; rfl⟩
    | true =>
      have e3 : sumN (fun v => if true = true then (if tailOf c k = (v : Int) then res.getD k 0 else 0) - (if c.Head.getD k 0 = (v : Int) then res.getD k 0 else 0) else 0) j = (if v < j then res.getD k 0 else 0) - (if (c.Head.getD k 0).toNat < j then res.getD k 0 else 0) := by
        have g1 := one v (res.getD k 0)
        have g2 := one (c.Head.getD k 0).toNat (-(res.getD k 0))
        rw [Int.toNat_of_nonneg hhd.1] at g2
        have g3 : sumN (fun u => if true = true then (if tailOf c k = (u : Int) then res.getD k 0 else 0) - (if c.Head.getD k 0 = (u : Int) then res.getD k 0 else 0) else 0) j = sumN (fun u => (if (v : Int) = (u : Int) then res.getD k 0 else 0) + (if c.Head.getD k 0 = (u : Int) then -(res.getD k 0) else 0)) j := by
          refine sumN_congr (fun i _ => ?_)
          rw [if_pos rfl, v3]
          split <;> split <;> omega
        rw [g3, sumN_add, g1, g2]
        split <;> split <;> omega
      rw [e3]
      refine ⟨by split <;> split <;> omega, by split <;> split <;> omega, fun hj' => ?_⟩
      rw [i3 hj', if_pos (by omega), if_pos (by omega)]; omega
theorem exSum {c : Csr} (h : CsrG c) {p : Pre} (hp : rightP c p) {j : Nat} (hj : j ≤ c.N.toNat) : (-2305843009213693952 ≤ sumN (fun v => p.Ex.getD v 0) j ∧ sumN (fun v => p.Ex.getD v 0) j ≤ 2305843009213693952) ∧ (j = c.N.toNat → sumN (fun v => p.Ex.getD v 0) j = 0) := by
  have e : sumN (fun v => p.Ex.getD v 0) j = sumN (fun v => exK c p.Res c.Head.length v) j := sumN_congr (fun i hi => (hp.2.2.2 i (by omega)).1)
  obtain ⟨h1, h2, h3⟩ := exS_bound h (fun a ha => ⟨(hp.2.2.1 a ha).1, (hp.2.2.1 a ha).2.1⟩) j hj c.Head.length (Nat.le_refl _)
  have h4 := h.small
  have h5 : (c.Head.length : Int) * 1125899906842624 ≤ 2048 * 1125899906842624 := Int.mul_le_mul_of_nonneg_right (by omega) (by omega)
  rw [e]
  exact ⟨by omega, h3⟩
theorem fit_in {c : Csr} (h : CsrOK c) {p : Pre} (hp : PreOK c p) {x : Act} (hx : EvIn x.e) : EvIn (fitE c p x) := by
  unfold fitE
  split
  · exact hx
  · have hn := h.n
    have hu0 := among_lo x.e.u c.N
    have hu1 := among_hi x.e.u (n := c.N) (by omega)
    have hm := h.mono (Among x.e.u c.N).toNat (by omega)
    have hhv := hp.hv (Among x.e.u c.N).toNat (by omega)
    have hhd := h.head
    have hmt : (Among x.e.u c.N + 1).toNat = (Among x.e.u c.N).toNat + 1 := by omega
    have h30 := among_lo x.e.h 3
    have h31 := among_hi x.e.h (n := 3) (by omega)
    have h20 := among_lo x.e.low 2
    have h21 := among_hi x.e.low (n := 2) (by omega)
    dsimp only
    split
    · exact ⟨by unfold In64; dsimp only; omega, hx.arc, hx.d, by unfold In64; dsimp only; omega, hx.low⟩
    · split
      · rename_i hmany
        rw [hmt] at hmany
        have ha0 := among_lo x.e.arc (c.First.getD (Among x.e.u c.N + 1).toNat 0 - c.First.getD (Among x.e.u c.N).toNat 0)
        have ha1 := among_hi x.e.arc (n := c.First.getD (Among x.e.u c.N + 1).toNat 0 - c.First.getD (Among x.e.u c.N).toNat 0) (by rw [hmt]; omega)
        have hrv : 0 ≤ p.Res.getD (c.First.getD (Among x.e.u c.N).toNat 0 + Among x.e.arc (c.First.getD (Among x.e.u c.N + 1).toNat 0 - c.First.getD (Among x.e.u c.N).toNat 0)).toNat 0 ∧ p.Res.getD (c.First.getD (Among x.e.u c.N).toNat 0 + Among x.e.arc (c.First.getD (Among x.e.u c.N + 1).toNat 0 - c.First.getD (Among x.e.u c.N).toNat 0)).toNat 0 ≤ 4611686018427387904 := by
          have q1 := hp.resv (c.First.getD (Among x.e.u c.N).toNat 0 + Among x.e.arc (c.First.getD (Among x.e.u c.N + 1).toNat 0 - c.First.getD (Among x.e.u c.N).toNat 0)).toNat (by rw [hmt] at *; omega)
          have q2 := h.cp (c.First.getD (Among x.e.u c.N).toNat 0 + Among x.e.arc (c.First.getD (Among x.e.u c.N + 1).toNat 0 - c.First.getD (Among x.e.u c.N).toNat 0)).toNat (by rw [hmt] at *; omega)
          omega
        have hmd : 0 ≤ mostD p (Among x.e.u c.N) (c.First.getD (Among x.e.u c.N).toNat 0 + Among x.e.arc (c.First.getD (Among x.e.u c.N + 1).toNat 0 - c.First.getD (Among x.e.u c.N).toNat 0)) ∧ mostD p (Among x.e.u c.N) (c.First.getD (Among x.e.u c.N).toNat 0 + Among x.e.arc (c.First.getD (Among x.e.u c.N + 1).toNat 0 - c.First.getD (Among x.e.u c.N).toNat 0)) ≤ 4611686018427387904 := by
          unfold mostD
          split <;> split <;> omega
        refine ⟨by unfold In64; dsimp only; omega, ?_, ?_, by unfold In64; dsimp only; omega, by unfold In64; dsimp only; omega⟩
        · unfold In64; dsimp only; rw [hmt] at *; omega
        · unfold In64; dsimp only
          unfold halfD
          split
          · have := Int.tdiv_eq_ediv_of_nonneg (b := 2) hmd.1
            rw [this]; omega
          · omega
      · exact ⟨by unfold In64; dsimp only; omega, hx.arc, hx.d, by unfold In64; dsimp only; omega, by unfold In64; dsimp only; omega⟩
end Go.Proofs

set_option linter.unusedVariables false
namespace Go.Proofs
open Go Go.Sx Go.RowKit
/-- What a push leaves of each residual arc, and of each excess. -/
theorem push_res {c : Csr} {p : Pre} {e : Event} (h : CsrG c) (hp : rightP c p) (ha : 0 ≤ e.arc ∧ e.arc < c.Head.length) (hw : e.what ≠ 2) (j : Nat) :
    (doesP c p e).Res.getD j 0 = p.Res.getD j 0 + (if (c.Rev.getD e.arc.toNat 0).toNat = j then e.d else 0) - (if e.arc.toNat = j then e.d else 0) := by
  have hl := hp.1.1
  have hv := h.rv e.arc.toNat (by omega)
  have hne := h.rne e.arc.toNat (by omega)
  unfold doesP
  rw [if_neg hw]
  show (addAt (subAt p.Res e.arc e.d) (c.Rev.getD e.arc.toNat 0) e.d).getD j 0 = _
  unfold addAt subAt
  rw [getD_set _ _ _ _ (by rw [List.length_set]; omega), getD_set _ _ _ _ (by omega), getD_set _ _ _ _ (by omega), if_neg (Ne.symm hne)]
  by_cases h1 : (c.Rev.getD e.arc.toNat 0).toNat = j
  · rw [if_pos h1, if_pos h1, if_neg (by omega), h1]; omega
  · rw [if_neg h1, if_neg h1]
    by_cases h2 : e.arc.toNat = j
    · rw [if_pos h2, if_pos h2, h2]; omega
    · rw [if_neg h2, if_neg h2]; omega
theorem push_ex {c : Csr} {p : Pre} {e : Event} (h : CsrG c) (hp : rightP c p) (ha : 0 ≤ e.arc ∧ e.arc < c.Head.length) (hu : 0 ≤ e.u ∧ e.u < c.N) (hw : e.what ≠ 2) (v : Nat) :
    (doesP c p e).Ex.getD v 0 = p.Ex.getD v 0 - (if e.u = (v : Int) then e.d else 0) + (if c.Head.getD e.arc.toNat 0 = (v : Int) then e.d else 0) := by
  have hl := hp.1.2.1
  have hhd := h.hd e.arc.toNat (by omega)
  unfold doesP
  rw [if_neg hw]
  show (addAt (subAt p.Ex e.u e.d) (c.Head.getD e.arc.toNat 0) e.d).getD v 0 = _
  unfold addAt subAt
  rw [getD_set _ _ _ _ (by rw [List.length_set]; omega), getD_set _ _ _ _ (by omega), getD_set _ _ _ _ (by omega)]
  by_cases h1 : (c.Head.getD e.arc.toNat 0).toNat = v
  · rw [if_pos h1, if_pos (show c.Head.getD e.arc.toNat 0 = (v : Int) by omega)]
    by_cases h2 : e.u = (v : Int)
    · rw [if_pos h2, if_pos (by omega), h2, Int.toNat_natCast]
    · rw [if_neg h2, if_neg (by omega), h1]; omega
  · rw [if_neg h1, if_neg (show ¬ c.Head.getD e.arc.toNat 0 = (v : Int) by omega)]
    by_cases h2 : e.u = (v : Int)
    · rw [if_pos h2, if_pos (by omega), h2, Int.toNat_natCast]; omega
    · rw [if_neg h2, if_neg (by omega)]; omega
theorem push_H {c : Csr} {p : Pre} {e : Event} (hw : e.what ≠ 2) : (doesP c p e).H = p.H := by
  unfold doesP; rw [if_neg hw]
theorem lift_same {c : Csr} {p : Pre} {e : Event} (hw : e.what = 2) : (doesP c p e).Res = p.Res ∧ (doesP c p e).Ex = p.Ex ∧ (doesP c p e).H = p.H.set e.u.toNat e.h := by
  unfold doesP; rw [if_pos hw]; exact ⟨rfl, rfl, rfl⟩
theorem legal_in {c : Csr} (h : CsrG c) {p : Pre} {e : Event} (hl : legalE c p e = 0) (hw : e.what ≠ 2) : 0 ≤ e.arc ∧ e.arc < c.Head.length ∧ tailOf c e.arc = e.u := by
  have hu := legal_u hl
  obtain ⟨a1, a2, _⟩ := legal_push hl hw
  exact tail_of_arc h.toCsrT ⟨hu.2.1, hu.2.2.1⟩ a1 a2
/-- Whether a move may be done hangs on few numbers. -/
theorem legal_congr {c : Csr} {p q : Pre} {e : Event} (hh : q.H.getD e.u.toNat 0 = p.H.getD e.u.toNat 0) (hx : e.what ≠ 2 → q.Ex.getD e.u.toNat 0 = p.Ex.getD e.u.toNat 0) (hr : e.what ≠ 2 → q.Res.getD e.arc.toNat 0 = p.Res.getD e.arc.toNat 0) : legalE c q e = legalE c p e := by
  unfold legalE liftE pushE
  by_cases hw : e.what = 2
  · simp only [if_pos hw, hh]
  · simp only [if_neg hw, hh, hx hw, hr hw]
/-- Two moves of unlike vertices come to the same in either order. -/
theorem does_comm {c : Csr} (h : CsrG c) {p : Pre} (hp : rightP c p) {d e : Event} (hne : d.u ≠ e.u) (hd : legalE c p d = 0) (he : legalE c p e = 0) (hde : legalE c (doesP c p d) e = 0) (hed : legalE c (doesP c p e) d = 0) : sameP (doesP c (doesP c p d) e) (doesP c (doesP c p e) d) := by
  have hrd := right_does h hp hd
  have hre := right_does h hp he
  have h1 := right_does h hrd hde
  have h2 := right_does h hre hed
  have hud := legal_u hd
  have hue := legal_u he
  have hn := h.n
  refine ⟨?_, ?_, ?_⟩
  · refine list_ext0 h1.1.1 h2.1.1 fun j hj => ?_
    by_cases w1 : d.what = 2
    · by_cases w2 : e.what = 2
      · rw [(lift_same w2).1, (lift_same w1).1, (lift_same w1).1, (lift_same w2).1]
      · have a2 := legal_in h he w2
        rw [push_res h hrd ⟨a2.1, a2.2.1⟩ w2, (lift_same w1).1, (lift_same w1).1, push_res h hp ⟨a2.1, a2.2.1⟩ w2]
    · have a1 := legal_in h hd w1
      by_cases w2 : e.what = 2
      · rw [(lift_same w2).1, push_res h hp ⟨a1.1, a1.2.1⟩ w1, push_res h hre ⟨a1.1, a1.2.1⟩ w1, (lift_same w2).1]
      · have a2 := legal_in h he w2
        rw [push_res h hrd ⟨a2.1, a2.2.1⟩ w2, push_res h hp ⟨a1.1, a1.2.1⟩ w1, push_res h hre ⟨a1.1, a1.2.1⟩ w1, push_res h hp ⟨a2.1, a2.2.1⟩ w2]
        omega
  · refine list_ext0 h1.1.2.1 h2.1.2.1 fun j hj => ?_
    by_cases w1 : d.what = 2
    · by_cases w2 : e.what = 2
      · rw [(lift_same w2).2.1, (lift_same w1).2.1, (lift_same w1).2.1, (lift_same w2).2.1]
      · have a2 := legal_in h he w2
        rw [push_ex h hrd ⟨a2.1, a2.2.1⟩ ⟨hue.2.1, hue.2.2.1⟩ w2, (lift_same w1).2.1, (lift_same w1).2.1, push_ex h hp ⟨a2.1, a2.2.1⟩ ⟨hue.2.1, hue.2.2.1⟩ w2]
    · have a1 := legal_in h hd w1
      by_cases w2 : e.what = 2
      · rw [(lift_same w2).2.1, push_ex h hp ⟨a1.1, a1.2.1⟩ ⟨hud.2.1, hud.2.2.1⟩ w1, push_ex h hre ⟨a1.1, a1.2.1⟩ ⟨hud.2.1, hud.2.2.1⟩ w1, (lift_same w2).2.1]
      · have a2 := legal_in h he w2
        rw [push_ex h hrd ⟨a2.1, a2.2.1⟩ ⟨hue.2.1, hue.2.2.1⟩ w2, push_ex h hp ⟨a1.1, a1.2.1⟩ ⟨hud.2.1, hud.2.2.1⟩ w1, push_ex h hre ⟨a1.1, a1.2.1⟩ ⟨hud.2.1, hud.2.2.1⟩ w1, push_ex h hp ⟨a2.1, a2.2.1⟩ ⟨hue.2.1, hue.2.2.1⟩ w2]
        omega
  · refine list_ext0 h1.1.2.2 h2.1.2.2 fun j hj => ?_
    have hl := hp.1.2.2
    by_cases w1 : d.what = 2
    · by_cases w2 : e.what = 2
      · rw [(lift_same w2).2.2, (lift_same w1).2.2, (lift_same w1).2.2, (lift_same w2).2.2]
        rw [getD_set _ _ _ _ (by rw [List.length_set]; omega), getD_set _ _ _ _ (by omega), getD_set _ _ _ _ (by rw [List.length_set]; omega), getD_set _ _ _ _ (by omega)]
        split <;> split <;> first | rfl | omega
      · rw [push_H w2, (lift_same w1).2.2, (lift_same w1).2.2, push_H w2]
    · by_cases w2 : e.what = 2
      · rw [(lift_same w2).2.2, push_H w1, push_H w1, (lift_same w2).2.2]
      · rw [push_H w2, push_H w1, push_H w1, push_H w2]
/-- The second may be done behind the first. -/
theorem legal_behind {c : Csr} (h : CsrG c) {p : Pre} (hp : rightP c p) {d e : Event} (hne : d.u ≠ e.u) (hd : legalE c p d = 0) (he : legalE c p e = 0) (hfar : d.what = 2 ∨ e.what = 2 ∨ c.Head.getD d.arc.toNat 0 ≠ e.u) : legalE c (doesP c p d) e = 0 := by
  have hud := legal_u hd
  have hue := legal_u he
  have hl := hp.1.2.2
  have hn := h.n
  rw [← he]
  by_cases w1 : d.what = 2
  · obtain ⟨s1, s2, s3⟩ := lift_same (c := c) (p := p) w1
    refine legal_congr ?_ (fun _ => by rw [s2]) (fun _ => by rw [s1])
    rw [s3, getD_set _ _ _ _ (by omega), if_neg (by omega)]
  · have a1 := legal_in h hd w1
    refine legal_congr (by rw [push_H w1]) (fun w2 => ?_) (fun w2 => ?_)
    · rw [push_ex h hp ⟨a1.1, a1.2.1⟩ ⟨hud.2.1, hud.2.2.1⟩ w1, if_neg (by omega), if_neg (by omega)]; omega
    · have a2 := legal_in h he w2
      have hf : c.Head.getD d.arc.toNat 0 ≠ e.u := by rcases hfar with q | q | q; exact (w1 q).elim; exact (w2 q).elim; exact q
      have ht := h.rtl d.arc.toNat (by omega)
      have hrr := h.rrv d.arc.toNat (by omega)
      have hrv := h.rv d.arc.toNat (by omega)
      have ht2 := h.rtl (c.Rev.getD d.arc.toNat 0).toNat (by omega)
      rw [hrr, Int.toNat_natCast] at ht2
      rw [push_res h hp ⟨a1.1, a1.2.1⟩ w1, if_neg (fun q => ?_), if_neg (fun q => ?_)]
      · omega
      · have : d.arc = e.arc := by omega
        rw [this, a2.2.2] at a1
        exact hne a1.2.2.symm
      · have : ((c.Rev.getD d.arc.toNat 0).toNat : Int) = e.arc := by omega
        rw [this, a2.2.2] at ht2
        exact hf ht2.symm
theorem run_two {c : Csr} {p : Pre} {d e : Event} : ((runE c p [d, e] 0).2.1 = 2 ↔ legalE c p d = 0 ∧ legalE c (doesP c p d) e = 0) ∧ (legalE c p d = 0 → legalE c (doesP c p d) e = 0 → (runE c p [d, e] 0).1 = doesP c (doesP c p d) e) := by
  simp only [runE]
  by_cases h1 : legalE c p d = 0
  · rw [if_pos h1]
    by_cases h2 : legalE c (doesP c p d) e = 0
    · rw [if_pos h2]; exact ⟨⟨fun _ => ⟨h1, h2⟩, fun _ => rfl⟩, fun _ _ => rfl⟩
    · rw [if_neg h2]; exact ⟨⟨fun q => by simp at q, fun q => (h2 q.2).elim⟩, fun _ q => (h2 q).elim⟩
  · rw [if_neg h1]; exact ⟨⟨fun q => by simp at q, fun q => (h1 q.1).elim⟩, fun q => (h1 q).elim⟩
theorem run_right {c : Csr} (h : CsrG c) : ∀ {l : List Event} {p : Pre} {i : Nat}, rightP c p → rightP c (runE c p l i).1
  | [], _, _, hp => hp
  | e :: l, p, i, hp => by
    unfold runE
    split
    · rename_i hl
      exact run_right h (right_does h hp hl)
    · exact hp
theorem apart_same {c : Csr} (h : CsrG c) {p : Pre} (hp : rightP c p) {d e : Event} (hne : d.u ≠ e.u) (h1 : (runE c p [d, e] 0).2.1 = 2) (h2 : (runE c p [e, d] 0).2.1 = 2) : sameP (runE c p [d, e] 0).1 (runE c p [e, d] 0).1 := by
  obtain ⟨q1, q2⟩ := run_two.1.1 h1
  obtain ⟨q3, q4⟩ := run_two.1.1 h2
  rw [run_two.2 q1 q2, run_two.2 q3 q4]
  exact does_comm h hp hne q1 q3 q2 q4
theorem apart_far {c : Csr} (h : CsrG c) {p : Pre} (hp : rightP c p) {d e : Event} (hne : d.u ≠ e.u) (hd : legalE c p d = 0) (he : legalE c p e = 0) (hfar : (d.what = 2 ∨ e.what = 2) ∨ (c.Head.getD d.arc.toNat 0 ≠ e.u ∧ c.Head.getD e.arc.toNat 0 ≠ d.u)) : (runE c p [d, e] 0).2.1 = 2 ∧ (runE c p [e, d] 0).2.1 = 2 := by
  refine ⟨run_two.1.2 ⟨hd, legal_behind h hp hne hd he ?_⟩, run_two.1.2 ⟨he, legal_behind h hp (Ne.symm hne) he hd ?_⟩⟩
  · rcases hfar with (q | q) | q
    · exact .inl q
    · exact .inr (.inl q)
    · exact .inr (.inr q.1)
  · rcases hfar with (q | q) | q
    · exact .inr (.inl q)
    · exact .inl q
    · exact .inr (.inr q.2)
end Go.Proofs

set_option linter.unusedVariables false
set_option linter.unusedSimpArgs false
namespace Go.Proofs
open Go Go.Sx Go.RowKit
/-- P8: labels with sound ends. -/
def labP (c : Csr) (hh : List Int) : Prop := (∀ v : Nat, v < c.N.toNat → 0 ≤ hh.getD v 0 ∧ hh.getD v 0 ≤ c.N) ∧ hh.getD c.T.toNat 0 = 0 ∧ hh.getD c.S.toNat 0 = c.N
instance (c : Csr) (hh : List Int) : Decidable (labP c hh) := by unfold labP; infer_instance
def labQ (N x : Int) : Bool := decide (x < 0 ∨ x > N)
def steepQ (c : Csr) (f hh : List Int) (a : Int) : Prop := (tailOf c a ≠ c.S ∧ f.getD a.toNat 0 > 0) ∧ hh.getD (tailOf c a).toNat 0 - hh.getD (c.Head.getD a.toNat 0).toNat 0 > 1
instance (c : Csr) (f hh : List Int) (a : Int) : Decidable (steepQ c f hh a) := by unfold steepQ; infer_instance
def steepK (c : Csr) (f hh : List Int) : Nat → List Int
  | 0 => []
  | k + 1 => if steepQ c f hh k then steepK c f hh k ++ [(k : Int)] else steepK c f hh k
def validP (c : Csr) (f hh : List Int) : Prop := labP c hh ∧ (((steepK c f hh f.length).length : Nat) : Int) = 0
instance (c : Csr) (f hh : List Int) : Decidable (validP c f hh) := by unfold validP; infer_instance
theorem steepK_len (c : Csr) (f hh : List Int) : ∀ k, (steepK c f hh k).length ≤ k
  | 0 => by simp [steepK]
  | k + 1 => by
    have := steepK_len c f hh k
    unfold steepK
    split
    · simp only [List.length_append, List.length_singleton]; omega
    · omega
theorem idx_lab {c : Csr} {hh : List Int} (hl : (hh.length : Int) = c.N) : ¬ (idxI (labQ c.N) hh ≥ 0) ↔ ∀ v : Nat, v < c.N.toNat → 0 ≤ hh.getD v 0 ∧ hh.getD v 0 ≤ c.N := by
  rw [idx_neg]
  constructor
  · intro h v hv
    have := h v (by omega)
    rw [labQ, decide_eq_false_iff_not] at this
    omega
  · intro h v hv
    have := h v (by omega)
    rw [labQ, decide_eq_false_iff_not]
    omega
-- f74 "acequia/label.Right$1"
set_option maxHeartbeats 8000000 in
set_option synthInstance.maxHeartbeats 400000 in
set_option synthInstance.maxSize 2000 in
theorem t_lwrong (c : Csr) (x : Int) : Tri Try.prog 74 [.val (.int .i64 x), .ptr 6 0 0] [SO.ints false .i64 c.First, SO.ints false .i64 c.Head, SO.ints false .i64 c.Rev, SO.ints false .i64 c.Cap, SO.ints false .i64 c.Arc, SO.bools false c.Back, .box [.val (.int .i64 c.N), .val (.int .i64 c.S), .val (.int .i64 c.T), .slc 0 0 c.First.length none, .slc 1 0 c.Head.length none, .slc 2 0 c.Rev.length none, .slc 3 0 c.Cap.length none, .slc 4 0 c.Arc.length none, .slc 5 0 c.Back.length none]] (fun s H => s = .val (.bool (decide (x < 0 ∨ x > c.N))) ∧ H = [SO.ints false .i64 c.First, SO.ints false .i64 c.Head, SO.ints false .i64 c.Rev, SO.ints false .i64 c.Cap, SO.ints false .i64 c.Arc, SO.bools false c.Back, .box [.val (.int .i64 c.N), .val (.int .i64 c.S), .val (.int .i64 c.T), .slc 0 0 c.First.length none, .slc 1 0 c.Head.length none, .slc 2 0 c.Rev.length none, .slc 3 0 c.Cap.length none, .slc 4 0 c.Arc.length none, .slc 5 0 c.Back.length none]]) := by
  refine tri_of_w (fn := Try.f74) Try.func74 rfl (by simp [Try.f74]) ?_
  intro ρ w hρ
  refine w_seq ?_
  -- region 0
  refine w_region ?_
  refine rw_t 3 rfl rfl rfl (do_assign rfl ?_)
  refine rw_nil ?_
  refine w_env [(0, .val (.int .i64 x)), (1, .ptr 6 0 0)] ⟨⟨_, rfl, rfl⟩, ⟨_, rfl, rfl⟩, trivial⟩ ?_
  refine w_seqB 3 ((x < 0 ∨ x > c.N)) ?_ ?_
  · -- region 1
    refine w_region ?_
    refine rw_t 4 rfl rfl rfl (do_move rfl ?_)
    refine rw_t 5 rfl rfl rfl (do_bin rfl rfl rfl ?_)
    refine rw_t 6 rfl rfl rfl (do_move rfl ?_)
    refine rw_case 6 rfl (fun g1 => ?_) (fun g1 => ?_)
    · have kg1 := g1
      try simp only [bs] at kg1
      refine rw_gf 7 2 6 false rfl rfl rfl rfl rfl rfl (by rw [g1]; decide) ?_
      refine rw_gf 8 2 6 false rfl rfl rfl rfl rfl rfl (by rw [g1]; decide) ?_
      refine rw_gf 9 2 6 false rfl rfl rfl rfl rfl rfl (by rw [g1]; decide) ?_
      refine rw_gf 10 2 6 false rfl rfl rfl rfl rfl rfl (by rw [g1]; decide) ?_
      refine rw_t 11 rfl rfl rfl (do_pick_t rfl g1 rfl ?_)
      refine rw_t 3 rfl rfl rfl (do_assign rfl ?_)
      refine rw_nil ?_
      refine ⟨rfl, ⟨_, rfl, by first | (simp; done) | (simp only [bs]; omega) | (simp [*]; done) | (simp; omega) | (constructor <;> intro h <;> simp_all <;> omega)⟩, ?_⟩
      repeat (refine ⟨⟨_, rfl, rfl⟩, ?_⟩)
      exact trivial
    · have kg1 := g1
      try simp only [bs] at kg1
      refine rw_gt 7 2 6 false rfl rfl rfl rfl rfl rfl g1 (do_move rfl ?_)
      refine rw_gt 8 2 6 false rfl rfl rfl rfl rfl rfl g1 (do_fieldaddr rfl ?_)
      refine rw_gt 9 2 6 false rfl rfl rfl rfl rfl rfl g1 (do_load_box rfl rfl rfl ?_)
      refine rw_gt 10 2 6 false rfl rfl rfl rfl rfl rfl g1 (do_bin rfl rfl rfl ?_)
      refine rw_t 11 rfl rfl rfl (do_pick_f rfl g1 rfl ?_)
      refine rw_t 3 rfl rfl rfl (do_assign rfl ?_)
      refine rw_nil ?_
      refine ⟨rfl, ⟨_, rfl, by first | (simp; done) | (simp only [bs]; omega) | (simp [*]; done) | (simp; omega) | (constructor <;> intro h <;> simp_all <;> omega)⟩, ?_⟩
      repeat (refine ⟨⟨_, rfl, rfl⟩, ?_⟩)
      exact trivial
  intro b1 hb1
  refine w_ret ?_
  exact ret_eq (.inl rfl) (.cons (res_tmp rfl) .nil) [0, 1, 2, 3, 4, 5, 6] (Eq.symm (bool_congr (dec_of hb1 Iff.rfl))) ⟨.inr ⟨_, rfl, .inl rfl⟩, .inr ⟨_, rfl, .inl rfl⟩, .inr ⟨_, rfl, .inl rfl⟩, .inr ⟨_, rfl, .inl rfl⟩, .inr ⟨_, rfl, .inl rfl⟩, .inr ⟨_, rfl, .inl rfl⟩, .inr ⟨_, rfl, .inl rfl⟩, trivial⟩ rfl (pre_ok rfl)
-- f73 "slices.IndexFunc[[]int,int]"
set_option maxHeartbeats 8000000 in
set_option synthInstance.maxHeartbeats 400000 in
set_option synthInstance.maxSize 2000 in
theorem t_lIndex (c : Csr) (hh : List Int) (h : CsrT c) (hl : (hh.length : Int) = c.N) : Tri Try.prog 73 [.slc 6 0 hh.length none, .func 74 [] [.ptr 7 0 0]] [SO.ints false .i64 c.First, SO.ints false .i64 c.Head, SO.ints false .i64 c.Rev, SO.ints false .i64 c.Cap, SO.ints false .i64 c.Arc, SO.bools false c.Back, SO.ints false .i64 hh, .box [.val (.int .i64 c.N), .val (.int .i64 c.S), .val (.int .i64 c.T), .slc 0 0 c.First.length none, .slc 1 0 c.Head.length none, .slc 2 0 c.Rev.length none, .slc 3 0 c.Cap.length none, .slc 4 0 c.Arc.length none, .slc 5 0 c.Back.length none]] (fun s H => s = .val (.int .i64 (idxI (labQ c.N) hh)) ∧ H = [SO.ints false .i64 c.First, SO.ints false .i64 c.Head, SO.ints false .i64 c.Rev, SO.ints false .i64 c.Cap, SO.ints false .i64 c.Arc, SO.bools false c.Back, SO.ints false .i64 hh, .box [.val (.int .i64 c.N), .val (.int .i64 c.S), .val (.int .i64 c.T), .slc 0 0 c.First.length none, .slc 1 0 c.Head.length none, .slc 2 0 c.Rev.length none, .slc 3 0 c.Cap.length none, .slc 4 0 c.Arc.length none, .slc 5 0 c.Back.length none]]) := by
  refine tri_of_w (fn := Try.f73) Try.func73 rfl (by simp [Try.f73]) ?_
  intro ρ w hρ
  refine w_seq ?_
  have hn := h.n
  have hS := h.s
  have hT := h.t
  have hsm := h.small
  -- region 0
  refine w_region ?_
  refine rw_t 4 rfl rfl rfl (do_assign rfl ?_)
  refine rw_nil ?_
  refine w_seq ?_
  refine w_seq ?_
  -- region 1
  refine w_region ?_
  refine rw_t 6 rfl rfl rfl (do_move rfl ?_)
  refine rw_t 7 rfl rfl rfl (do_len rfl ?_)
  refine rw_t 8 rfl rfl rfl (do_move rfl ?_)
  refine rw_nil ?_
  refine w_block ?_
  refine w_loopS (ι := Nat) (fun i => [(0, .slc 6 0 hh.length none), (1, .func 74 [] [.ptr 7 0 0]), (7, .val (.int .i64 ((hh.length : Nat) : Int))), (8, .val (.int .i64 ((i : Nat) : Int)))]) (fun i => [SO.ints false .i64 c.First, SO.ints false .i64 c.Head, SO.ints false .i64 c.Rev, SO.ints false .i64 c.Cap, SO.ints false .i64 c.Arc, SO.bools false c.Back, SO.ints false .i64 hh, .box [.val (.int .i64 c.N), .val (.int .i64 c.S), .val (.int .i64 c.T), .slc 0 0 c.First.length none, .slc 1 0 c.Head.length none, .slc 2 0 c.Rev.length none, .slc 3 0 c.Cap.length none, .slc 4 0 c.Arc.length none, .slc 5 0 c.Back.length none]]) (fun i => hh.length - i) (fun i => i ≤ hh.length ∧ ∀ k, k < i → ¬ (hh.getD k 0 < 0 ∨ hh.getD k 0 > c.N)) (0) [0, 1, 2, 3, 4, 5, 6, 7] (⟨by simp, fun k hk => by omega⟩) ⟨.inr ⟨_, rfl, .inl rfl⟩, .inr ⟨_, rfl, .inl rfl⟩, .inr ⟨_, rfl, .inl rfl⟩, .inr ⟨_, rfl, .inl rfl⟩, .inr ⟨_, rfl, .inl rfl⟩, .inr ⟨_, rfl, .inl rfl⟩, .inr ⟨_, rfl, .inl rfl⟩, .inr ⟨_, rfl, .inl rfl⟩, trivial⟩ rfl (pre_ok rfl) hρ ⟨⟨_, rfl, rfl⟩, ⟨_, rfl, rfl⟩, ⟨_, rfl, rfl⟩, ⟨_, rfl, rfl⟩, trivial⟩ ?_
  rintro i ⟨g1, g2⟩
  refine w_seq ?_
  -- region 2
  refine w_region ?_
  refine rw_t 9 rfl rfl rfl (do_bin rfl rfl rfl ?_)
  refine rw_nil ?_
  refine w_seq ?_
  refine w_cond rfl (fun hc1 => ?_) (fun hc1 => ?_)
  all_goals try simp only [bs] at hc1
  rotate_left
  · refine w_exit ?_ -- exit 0
    refine w_seq ?_
    -- region 7
    refine w_region ?_
    refine rw_t 4 rfl rfl rfl (do_assign rfl ?_)
    refine rw_nil ?_
    refine w_ret ?_
    exact ret_eq (.inl rfl) (.cons (res_tmp rfl) .nil) [0, 1, 2, 3, 4, 5, 6, 7] (Eq.symm (val_congr (by rw [idx_none (fun k hk => decide_eq_false (g2 k (by omega)))]))) ⟨.inr ⟨_, rfl, .inl rfl⟩, .inr ⟨_, rfl, .inl rfl⟩, .inr ⟨_, rfl, .inl rfl⟩, .inr ⟨_, rfl, .inl rfl⟩, .inr ⟨_, rfl, .inl rfl⟩, .inr ⟨_, rfl, .inl rfl⟩, .inr ⟨_, rfl, .inl rfl⟩, .inr ⟨_, rfl, .inl rfl⟩, trivial⟩ rfl (pre_ok rfl)
  refine w_skip ?_
  refine w_seq ?_
  refine w_block ?_
  refine w_seq ?_
  -- region 3
  refine w_region ?_
  refine rw_t 10 rfl rfl rfl (do_move rfl ?_)
  refine rw_t 5 rfl rfl rfl (do_assign rfl ?_)
  refine rw_nil ?_
  refine w_seq ?_
  -- region 4
  refine w_region ?_
  refine rw_t 11 rfl rfl rfl (do_move rfl ?_)
  refine rw_t 12 rfl rfl rfl (do_move rfl ?_)
  refine rw_t 13 rfl rfl rfl (do_move rfl ?_)
  refine rw_t 14 rfl rfl rfl (do_ixn rfl rfl rfl (by first | omega | (simp only [ls] <;> omega)) ?_)
  refine rw_t 15 rfl rfl rfl (do_load_arr rfl rfl (by first | omega | (simp only [ls] <;> omega)) rfl ?_)
  refine rw_t 16 rfl rfl rfl (n_callW (X' := .val (.bool (decide ((hh.getD i 0) < 0 ∨ (hh.getD i 0) > c.N)))) (H' := [SO.ints false .i64 c.First, SO.ints false .i64 c.Head, SO.ints false .i64 c.Rev, SO.ints false .i64 c.Cap, SO.ints false .i64 c.Arc, SO.bools false c.Back, SO.ints false .i64 hh, .box [.val (.int .i64 c.N), .val (.int .i64 c.S), .val (.int .i64 c.T), .slc 0 0 c.First.length none, .slc 1 0 c.Head.length none, .slc 2 0 c.Rev.length none, .slc 3 0 c.Cap.length none, .slc 4 0 c.Arc.length none, .slc 5 0 c.Back.length none]]) rfl rfl (t_lwrong (c := c) (x := (hh.getD i 0))) [0, 1, 2, 3, 4, 5, 7] ⟨.inr ⟨_, rfl, srv⟩, .inr ⟨_, rfl, srv⟩, .inr ⟨_, rfl, srv⟩, .inr ⟨_, rfl, srv⟩, .inr ⟨_, rfl, srv⟩, .inr ⟨_, rfl, srv⟩, .inr ⟨_, rfl, .inl rfl⟩, trivial⟩ rfl rfl ⟨fun h => (by cases h), ⟨fun h => (by cases h), ⟨fun h => (by cases h), ⟨fun h => (by cases h), ⟨fun h => (by cases h), ⟨fun h => (by cases h), ⟨fun h => .inl rfl, (fun y hy => by simp at hy)⟩⟩⟩⟩⟩⟩⟩ rfl rfl ?_)
  refine rw_nil ?_
  refine w_cond rfl (fun hc2 => ?_) (fun hc2 => ?_)
  all_goals try simp only [bs] at hc2
  · refine w_seq ?_
    -- region 5
    refine w_region ?_
    refine rw_t 17 rfl rfl rfl (do_move rfl ?_)
    refine rw_t 4 rfl rfl rfl (do_assign rfl ?_)
    refine rw_nil ?_
    refine w_ret ?_
    exact ret_eq (.inl rfl) (.cons (res_tmp rfl) .nil) [0, 1, 2, 3, 4, 5, 6, 7] (Eq.symm (val_congr (by rw [idx_at (by omega) (decide_eq_true hc2) (fun k hk => decide_eq_false (g2 k hk))]))) ⟨.inr ⟨_, rfl, .inl rfl⟩, .inr ⟨_, rfl, .inl rfl⟩, .inr ⟨_, rfl, .inl rfl⟩, .inr ⟨_, rfl, .inl rfl⟩, .inr ⟨_, rfl, .inl rfl⟩, .inr ⟨_, rfl, .inl rfl⟩, .inr ⟨_, rfl, .inl rfl⟩, .inr ⟨_, rfl, .inl rfl⟩, trivial⟩ rfl (pre_ok rfl)
  refine w_skip ?_
  -- region 6
  refine w_region ?_
  refine rw_t 18 rfl rfl rfl (do_add rfl rfl (by omega) ?_)
  refine rw_t 8 rfl rfl rfl (do_move rfl ?_)
  refine rw_nil ?_
  refine ⟨i + 1, [0, 1, 2, 3, 4, 5, 6, 7], by dsimp only; omega, ⟨by omega, fun k hk => by rcases Nat.lt_or_ge k i with hki | hki; exact g2 k hki; have : k = i := (by omega); subst this; exact hc2⟩, ⟨.inr ⟨_, rfl, .inl rfl⟩, .inr ⟨_, rfl, .inl rfl⟩, .inr ⟨_, rfl, .inl rfl⟩, .inr ⟨_, rfl, .inl rfl⟩, .inr ⟨_, rfl, .inl rfl⟩, .inr ⟨_, rfl, .inl rfl⟩, .inr ⟨_, rfl, .inl rfl⟩, .inr ⟨_, rfl, .inl rfl⟩, trivial⟩, rfl, pre_ok rfl, ⟨⟨_, rfl, rfl⟩, ⟨_, rfl, rfl⟩, ⟨_, rfl, rfl⟩, ⟨_, rfl, rfl⟩, trivial⟩⟩
-- f61 "slices.ContainsFunc[[]int,int]"
set_option maxHeartbeats 8000000 in
set_option synthInstance.maxHeartbeats 400000 in
set_option synthInstance.maxSize 2000 in
theorem t_lContains (c : Csr) (hh : List Int) (h : CsrT c) (hl : (hh.length : Int) = c.N) : Tri Try.prog 61 [.slc 6 0 hh.length none, .func 74 [] [.ptr 7 0 0]] [SO.ints false .i64 c.First, SO.ints false .i64 c.Head, SO.ints false .i64 c.Rev, SO.ints false .i64 c.Cap, SO.ints false .i64 c.Arc, SO.bools false c.Back, SO.ints false .i64 hh, .box [.val (.int .i64 c.N), .val (.int .i64 c.S), .val (.int .i64 c.T), .slc 0 0 c.First.length none, .slc 1 0 c.Head.length none, .slc 2 0 c.Rev.length none, .slc 3 0 c.Cap.length none, .slc 4 0 c.Arc.length none, .slc 5 0 c.Back.length none]] (fun s H => s = .val (.bool (decide (idxI (labQ c.N) hh ≥ 0))) ∧ H = [SO.ints false .i64 c.First, SO.ints false .i64 c.Head, SO.ints false .i64 c.Rev, SO.ints false .i64 c.Cap, SO.ints false .i64 c.Arc, SO.bools false c.Back, SO.ints false .i64 hh, .box [.val (.int .i64 c.N), .val (.int .i64 c.S), .val (.int .i64 c.T), .slc 0 0 c.First.length none, .slc 1 0 c.Head.length none, .slc 2 0 c.Rev.length none, .slc 3 0 c.Cap.length none, .slc 4 0 c.Arc.length none, .slc 5 0 c.Back.length none]]) := by
  refine tri_of_w (fn := Try.f61) Try.func61 rfl (by simp [Try.f61]) ?_
  intro ρ w hρ
  refine w_seq ?_
  -- region 0
  refine w_region ?_
  refine rw_t 4 rfl rfl rfl (do_assign rfl ?_)
  refine rw_nil ?_
  refine w_seq ?_
  -- region 1
  refine w_region ?_
  refine rw_t 5 rfl rfl rfl (do_move rfl ?_)
  refine rw_t 6 rfl rfl rfl (do_move rfl ?_)
  refine rw_t 7 rfl rfl rfl (n_callW (X' := .val (.int .i64 (idxI (labQ c.N) hh))) (H' := [SO.ints false .i64 c.First, SO.ints false .i64 c.Head, SO.ints false .i64 c.Rev, SO.ints false .i64 c.Cap, SO.ints false .i64 c.Arc, SO.bools false c.Back, SO.ints false .i64 hh, .box [.val (.int .i64 c.N), .val (.int .i64 c.S), .val (.int .i64 c.T), .slc 0 0 c.First.length none, .slc 1 0 c.Head.length none, .slc 2 0 c.Rev.length none, .slc 3 0 c.Cap.length none, .slc 4 0 c.Arc.length none, .slc 5 0 c.Back.length none]]) rfl rfl (t_lIndex (c := c) (hh := hh) (h) (hl)) [0, 1, 2, 3, 4, 5, 6, 7] ⟨.inr ⟨_, rfl, srv⟩, .inr ⟨_, rfl, srv⟩, .inr ⟨_, rfl, srv⟩, .inr ⟨_, rfl, srv⟩, .inr ⟨_, rfl, srv⟩, .inr ⟨_, rfl, srv⟩, .inr ⟨_, rfl, srv⟩, .inr ⟨_, rfl, .inl rfl⟩, trivial⟩ rfl rfl ⟨fun h => (by cases h), ⟨fun h => (by cases h), ⟨fun h => (by cases h), ⟨fun h => (by cases h), ⟨fun h => (by cases h), ⟨fun h => (by cases h), ⟨fun h => (by cases h), ⟨fun h => .inl rfl, (fun y hy => by simp at hy)⟩⟩⟩⟩⟩⟩⟩⟩ rfl rfl ?_)
  refine rw_t 8 rfl rfl rfl (do_bin rfl rfl rfl ?_)
  refine rw_t 4 rfl rfl rfl (do_assign rfl ?_)
  refine rw_nil ?_
  refine w_ret ?_
  exact ret_eq (.inl rfl) (.cons (res_tmp rfl) .nil) [0, 1, 2, 3, 4, 5, 6, 7] (rfl) ⟨.inr ⟨_, rfl, .inl rfl⟩, .inr ⟨_, rfl, .inl rfl⟩, .inr ⟨_, rfl, .inl rfl⟩, .inr ⟨_, rfl, .inl rfl⟩, .inr ⟨_, rfl, .inl rfl⟩, .inr ⟨_, rfl, .inl rfl⟩, .inr ⟨_, rfl, .inl rfl⟩, .inr ⟨_, rfl, .inl rfl⟩, trivial⟩ rfl (pre_ok rfl)
-- f64 "acequia/label.Right"
set_option maxHeartbeats 8000000 in
set_option synthInstance.maxHeartbeats 400000 in
set_option synthInstance.maxSize 2000 in
theorem t_lRight (c : Csr) (hh : List Int) (h : CsrT c) (hl : (hh.length : Int) = c.N) : Tri Try.prog 64 [.agg [.val (.int .i64 c.N), .val (.int .i64 c.S), .val (.int .i64 c.T), .slc 0 0 c.First.length none, .slc 1 0 c.Head.length none, .slc 2 0 c.Rev.length none, .slc 3 0 c.Cap.length none, .slc 4 0 c.Arc.length none, .slc 5 0 c.Back.length none], .slc 6 0 hh.length none] [SO.ints false .i64 c.First, SO.ints false .i64 c.Head, SO.ints false .i64 c.Rev, SO.ints false .i64 c.Cap, SO.ints false .i64 c.Arc, SO.bools false c.Back, SO.ints false .i64 hh] (fun s H => s = .val (.bool (decide (labP c hh))) ∧ H = [SO.ints false .i64 c.First, SO.ints false .i64 c.Head, SO.ints false .i64 c.Rev, SO.ints false .i64 c.Cap, SO.ints false .i64 c.Arc, SO.bools false c.Back, SO.ints false .i64 hh]) := by
  refine tri_of_w (fn := Try.f64) Try.func64 rfl (by simp [Try.f64]) ?_
  intro ρ w hρ
  refine w_seq ?_
  have hn := h.n
  have hS := h.s
  have hT := h.t
  have hsm := h.small
  -- region 0
  refine w_region ?_
  refine rw_t 2 rfl rfl rfl (n_box_agg (n := 7) rfl rfl ?_)
  refine rw_t 4 rfl rfl rfl (do_assign rfl ?_)
  refine rw_nil ?_
  refine w_seq ?_
  -- region 1
  refine w_region ?_
  refine rw_t 6 rfl rfl rfl (do_makefunc rfl rfl ?_)
  refine rw_t 5 rfl rfl rfl (do_assign rfl ?_)
  refine rw_nil ?_
  refine w_env [(1, .slc 6 0 hh.length none), (2, .ptr 7 0 0), (5, .func 74 [] [.ptr 7 0 0])] ⟨⟨_, rfl, rfl⟩, ⟨_, rfl, rfl⟩, ⟨_, rfl, rfl⟩, trivial⟩ ?_
  refine w_seqB 4 (((((hh.length : Int) = c.N ∧ c.N > 0) ∧ ¬ (idxI (labQ c.N) hh ≥ 0)) ∧ hh.getD c.T.toNat 0 = 0) ∧ hh.getD c.S.toNat 0 = c.N) ?_ ?_
  · -- region 2
    refine w_draw mixed [0, 1, 0, 4, 15, 31, 63, 127, 255, 511, 1023, 2047, 2047, 8191, 16383, 32767, 65535, 131071, 131071, 393215, 1048575, 2097151, 4194303, 8388607, 16777215, 33554431, 33554431, 100663295, 268435455, 536870911, 33554431, 1107296255] [4294967295, 8589934591, 17179869183] (by kernel_rfl) (by kernel_rfl) rfl rfl rfl (hle hρ rfl) ?_
    refine ra_q (j := 0) rfl rfl rfl rfl (do_move rfl ⟨rfl, rfl⟩) (by rfl) ?_
    refine ra_q (j := 1) rfl rfl rfl rfl (do_len rfl ⟨rfl, rfl⟩) (by rfl) ?_
    refine ra_q (j := 2) rfl rfl rfl rfl (do_fieldaddr rfl ⟨rfl, rfl⟩) (by rfl) ?_
    refine ra_q (j := 3) rfl rfl rfl rfl (do_load_box rfl rfl rfl ⟨rfl, rfl⟩) (by rfl) ?_
    refine ra_q (j := 4) rfl rfl rfl rfl (do_bin rfl rfl rfl ⟨rfl, rfl⟩) (by rfl) ?_
    refine ra_q (j := 5) rfl rfl rfl rfl (do_move rfl ⟨rfl, rfl⟩) (by rfl) ?_
    refine ra_case 12 rfl (fun g1 => ?_) (fun g1 => ?_)
    · have kg1 := g1
      try simp only [bs] at kg1
      refine ra_gt (j := 6) rfl rfl rfl rfl g1 rfl rfl rfl (do_fieldaddr rfl ⟨rfl, rfl⟩) (by rfl) ?_
      refine ra_gt (j := 7) rfl rfl rfl rfl g1 rfl rfl rfl (do_load_box rfl rfl rfl ⟨rfl, rfl⟩) (by rfl) ?_
      refine ra_gt (j := 8) rfl rfl rfl rfl g1 rfl rfl rfl (do_bin rfl rfl rfl ⟨rfl, rfl⟩) (by rfl) ?_
      refine ra_q (j := 9) rfl rfl rfl rfl (do_pick_t rfl g1 rfl ⟨rfl, rfl⟩) (by rfl) ?_
      refine ra_q (j := 10) rfl rfl rfl rfl (do_move rfl ⟨rfl, rfl⟩) (by rfl) ?_
      refine ra_case 17 rfl (fun g2 => ?_) (fun g2 => ?_)
      · have kg2 := g2
        try simp only [bs] at kg2
        refine ra_gt (j := 11) rfl rfl rfl rfl g2 rfl rfl rfl (do_move rfl ⟨rfl, rfl⟩) (by rfl) ?_
        refine ra_gt (j := 12) rfl rfl rfl rfl g2 rfl rfl rfl (do_move rfl ⟨rfl, rfl⟩) (by rfl) ?_
        refine ra_gt (j := 13) rfl rfl rfl rfl g2 rfl rfl rfl (n_callW (X' := .val (.bool (decide (idxI (labQ c.N) hh ≥ 0)))) (H' := [SO.ints false .i64 c.First, SO.ints false .i64 c.Head, SO.ints false .i64 c.Rev, SO.ints false .i64 c.Cap, SO.ints false .i64 c.Arc, SO.bools false c.Back, SO.ints false .i64 hh, .box [.val (.int .i64 c.N), .val (.int .i64 c.S), .val (.int .i64 c.T), .slc 0 0 c.First.length none, .slc 1 0 c.Head.length none, .slc 2 0 c.Rev.length none, .slc 3 0 c.Cap.length none, .slc 4 0 c.Arc.length none, .slc 5 0 c.Back.length none]]) rfl rfl (t_lContains (c := c) (hh := hh) (h) (hl)) [0, 1, 2, 3, 4, 5, 6, 7] ⟨.inr ⟨_, rfl, srv⟩, .inr ⟨_, rfl, srv⟩, .inr ⟨_, rfl, srv⟩, .inr ⟨_, rfl, srv⟩, .inr ⟨_, rfl, srv⟩, .inr ⟨_, rfl, srv⟩, .inr ⟨_, rfl, srv⟩, .inr ⟨_, rfl, .inl rfl⟩, trivial⟩ rfl rfl ⟨fun h => (by cases h), ⟨fun h => (by cases h), ⟨fun h => (by cases h), ⟨fun h => (by cases h), ⟨fun h => (by cases h), ⟨fun h => (by cases h), ⟨fun h => (by cases h), ⟨fun h => .inl rfl, (fun y hy => by simp at hy)⟩⟩⟩⟩⟩⟩⟩⟩ rfl rfl ⟨rfl, rfl⟩) (by rfl) ?_
        refine ra_gt (j := 14) rfl rfl rfl rfl g2 rfl rfl rfl (do_not rfl ⟨rfl, rfl⟩) (by rfl) ?_
        refine ra_q (j := 15) rfl rfl rfl rfl (do_pick_t rfl g2 rfl ⟨rfl, rfl⟩) (by rfl) ?_
        refine ra_q (j := 16) rfl rfl rfl rfl (do_move rfl ⟨rfl, rfl⟩) (by rfl) ?_
        refine ra_case 23 rfl (fun g3 => ?_) (fun g3 => ?_)
        · have kg3 := g3
          try simp only [bs] at kg3
          refine ra_gt (j := 17) rfl rfl rfl rfl g3 rfl rfl rfl (do_move rfl ⟨rfl, rfl⟩) (by rfl) ?_
          refine ra_gt (j := 18) rfl rfl rfl rfl g3 rfl rfl rfl (do_fieldaddr rfl ⟨rfl, rfl⟩) (by rfl) ?_
          refine ra_gt (j := 19) rfl rfl rfl rfl g3 rfl rfl rfl (do_load_box rfl rfl rfl ⟨rfl, rfl⟩) (by rfl) ?_
          refine ra_gt (j := 20) rfl rfl rfl rfl g3 rfl rfl rfl (do_ix0 rfl rfl rfl (by first | omega | (simp only [ls] <;> omega)) ⟨rfl, rfl⟩) (by rfl) ?_
          refine ra_gt (j := 21) rfl rfl rfl rfl g3 rfl rfl rfl (do_load_arr rfl rfl (by first | omega | (simp only [ls] <;> omega)) rfl ⟨rfl, rfl⟩) (by rfl) ?_
          refine ra_gt (j := 22) rfl rfl rfl rfl g3 rfl rfl rfl (do_bin rfl rfl rfl ⟨rfl, rfl⟩) (by rfl) ?_
          refine ra_q (j := 23) rfl rfl rfl rfl (do_pick_t rfl g3 rfl ⟨rfl, rfl⟩) (by rfl) ?_
          refine ra_q (j := 24) rfl rfl rfl rfl (do_move rfl ⟨rfl, rfl⟩) (by rfl) ?_
          refine ra_case 31 rfl (fun g4 => ?_) (fun g4 => ?_)
          · have kg4 := g4
            try simp only [bs] at kg4
            refine ra_gt (j := 25) rfl rfl rfl rfl g4 rfl rfl rfl (do_move rfl ⟨rfl, rfl⟩) (by rfl) ?_
            refine ra_gt (j := 26) rfl rfl rfl rfl g4 rfl rfl rfl (do_fieldaddr rfl ⟨rfl, rfl⟩) (by rfl) ?_
            refine ra_gt (j := 27) rfl rfl rfl rfl g4 rfl rfl rfl (do_load_box rfl rfl rfl ⟨rfl, rfl⟩) (by rfl) ?_
            refine ra_gt (j := 28) rfl rfl rfl rfl g4 rfl rfl rfl (do_ix0 rfl rfl rfl (by first | omega | (simp only [ls] <;> omega)) ⟨rfl, rfl⟩) (by rfl) ?_
            refine ra_gt (j := 29) rfl rfl rfl rfl g4 rfl rfl rfl (do_load_arr rfl rfl (by first | omega | (simp only [ls] <;> omega)) rfl ⟨rfl, rfl⟩) (by rfl) ?_
            refine ra_gt (j := 30) rfl rfl rfl rfl g4 rfl rfl rfl (do_fieldaddr rfl ⟨rfl, rfl⟩) (by rfl) ?_
            refine ra_gt (j := 31) rfl rfl rfl rfl g4 rfl rfl rfl (do_load_box rfl rfl rfl ⟨rfl, rfl⟩) (by rfl) ?_
            refine n_done ?_
            refine rw_gt 39 24 31 true rfl rfl rfl rfl rfl rfl g4 (do_bin rfl rfl rfl ?_)
            refine rw_t 40 rfl rfl rfl (do_pick_t rfl g4 rfl ?_)
            refine rw_t 4 rfl rfl rfl (do_assign rfl ?_)
            refine rw_nil ?_
            refine ⟨rfl, ⟨_, rfl, by first | (simp; done) | (refine ⟨fun h => (by cases h), fun h => ?_⟩; exfalso; obtain ⟨⟨⟨⟨h1, h2⟩, h3⟩, h4⟩, h5⟩ := h; first | omega | contradiction) | (simp only [bs]; omega) | (simp [*]; done) | (simp; omega) | (constructor <;> intro h <;> simp_all <;> omega)⟩, ?_⟩
            repeat (refine ⟨⟨_, rfl, rfl⟩, ?_⟩)
            exact trivial
          · have kg4 := g4
            try simp only [bs] at kg4
            refine ra_gf (j := 25) rfl rfl rfl rfl (by rw [g4]; decide) rfl rfl rfl ?_
            refine ra_gf (j := 26) rfl rfl rfl rfl (by rw [g4]; decide) rfl rfl rfl ?_
            refine ra_gf (j := 27) rfl rfl rfl rfl (by rw [g4]; decide) rfl rfl rfl ?_
            refine ra_gf (j := 28) rfl rfl rfl rfl (by rw [g4]; decide) rfl rfl rfl ?_
            refine ra_gf (j := 29) rfl rfl rfl rfl (by rw [g4]; decide) rfl rfl rfl ?_
            refine ra_gf (j := 30) rfl rfl rfl rfl (by rw [g4]; decide) rfl rfl rfl ?_
            refine ra_gf (j := 31) rfl rfl rfl rfl (by rw [g4]; decide) rfl rfl rfl ?_
            refine n_done ?_
            refine rw_gf 39 24 31 true rfl rfl rfl rfl rfl rfl (by rw [g4]; decide) ?_
            refine rw_t 40 rfl rfl rfl (do_pick_f rfl g4 rfl ?_)
            refine rw_t 4 rfl rfl rfl (do_assign rfl ?_)
            refine rw_nil ?_
            refine ⟨rfl, ⟨_, rfl, by first | (simp; done) | (refine ⟨fun h => (by cases h), fun h => ?_⟩; exfalso; obtain ⟨⟨⟨⟨h1, h2⟩, h3⟩, h4⟩, h5⟩ := h; first | omega | contradiction) | (simp only [bs]; omega) | (simp [*]; done) | (simp; omega) | (constructor <;> intro h <;> simp_all <;> omega)⟩, ?_⟩
            repeat (refine ⟨⟨_, rfl, rfl⟩, ?_⟩)
            exact trivial
        · have kg3 := g3
          try simp only [bs] at kg3
          refine ra_gf (j := 17) rfl rfl rfl rfl (by rw [g3]; decide) rfl rfl rfl ?_
          refine ra_gf (j := 18) rfl rfl rfl rfl (by rw [g3]; decide) rfl rfl rfl ?_
          refine ra_gf (j := 19) rfl rfl rfl rfl (by rw [g3]; decide) rfl rfl rfl ?_
          refine ra_gf (j := 20) rfl rfl rfl rfl (by rw [g3]; decide) rfl rfl rfl ?_
          refine ra_gf (j := 21) rfl rfl rfl rfl (by rw [g3]; decide) rfl rfl rfl ?_
          refine ra_gf (j := 22) rfl rfl rfl rfl (by rw [g3]; decide) rfl rfl rfl ?_
          refine ra_q (j := 23) rfl rfl rfl rfl (do_pick_f rfl g3 rfl ⟨rfl, rfl⟩) (by rfl) ?_
          refine ra_q (j := 24) rfl rfl rfl rfl (do_move rfl ⟨rfl, rfl⟩) (by rfl) ?_
          refine ra_gf (j := 25) rfl rfl rfl rfl (by decide) rfl rfl rfl ?_
          refine ra_gf (j := 26) rfl rfl rfl rfl (by decide) rfl rfl rfl ?_
          refine ra_gf (j := 27) rfl rfl rfl rfl (by decide) rfl rfl rfl ?_
          refine ra_gf (j := 28) rfl rfl rfl rfl (by decide) rfl rfl rfl ?_
          refine ra_gf (j := 29) rfl rfl rfl rfl (by decide) rfl rfl rfl ?_
          refine ra_gf (j := 30) rfl rfl rfl rfl (by decide) rfl rfl rfl ?_
          refine ra_gf (j := 31) rfl rfl rfl rfl (by decide) rfl rfl rfl ?_
          refine n_done ?_
          refine rw_gf 39 24 31 true rfl rfl rfl rfl rfl rfl (by decide) ?_
          refine rw_t 40 rfl rfl rfl (do_pick_f rfl rfl rfl ?_)
          refine rw_t 4 rfl rfl rfl (do_assign rfl ?_)
          refine rw_nil ?_
          refine ⟨rfl, ⟨_, rfl, by first | (simp; done) | (refine ⟨fun h => (by cases h), fun h => ?_⟩; exfalso; obtain ⟨⟨⟨⟨h1, h2⟩, h3⟩, h4⟩, h5⟩ := h; first | omega | contradiction) | (simp only [bs]; omega) | (simp [*]; done) | (simp; omega) | (constructor <;> intro h <;> simp_all <;> omega)⟩, ?_⟩
          repeat (refine ⟨⟨_, rfl, rfl⟩, ?_⟩)
          exact trivial
      · have kg2 := g2
        try simp only [bs] at kg2
        refine ra_gf (j := 11) rfl rfl rfl rfl (by rw [g2]; decide) rfl rfl rfl ?_
        refine ra_gf (j := 12) rfl rfl rfl rfl (by rw [g2]; decide) rfl rfl rfl ?_
        refine ra_gf (j := 13) rfl rfl rfl rfl (by rw [g2]; decide) rfl rfl rfl ?_
        refine ra_gf (j := 14) rfl rfl rfl rfl (by rw [g2]; decide) rfl rfl rfl ?_
        refine ra_q (j := 15) rfl rfl rfl rfl (do_pick_f rfl g2 rfl ⟨rfl, rfl⟩) (by rfl) ?_
        refine ra_q (j := 16) rfl rfl rfl rfl (do_move rfl ⟨rfl, rfl⟩) (by rfl) ?_
        refine ra_gf (j := 17) rfl rfl rfl rfl (by decide) rfl rfl rfl ?_
        refine ra_gf (j := 18) rfl rfl rfl rfl (by decide) rfl rfl rfl ?_
        refine ra_gf (j := 19) rfl rfl rfl rfl (by decide) rfl rfl rfl ?_
        refine ra_gf (j := 20) rfl rfl rfl rfl (by decide) rfl rfl rfl ?_
        refine ra_gf (j := 21) rfl rfl rfl rfl (by decide) rfl rfl rfl ?_
        refine ra_gf (j := 22) rfl rfl rfl rfl (by decide) rfl rfl rfl ?_
        refine ra_q (j := 23) rfl rfl rfl rfl (do_pick_f rfl rfl rfl ⟨rfl, rfl⟩) (by rfl) ?_
        refine ra_q (j := 24) rfl rfl rfl rfl (do_move rfl ⟨rfl, rfl⟩) (by rfl) ?_
        refine ra_gf (j := 25) rfl rfl rfl rfl (by decide) rfl rfl rfl ?_
        refine ra_gf (j := 26) rfl rfl rfl rfl (by decide) rfl rfl rfl ?_
        refine ra_gf (j := 27) rfl rfl rfl rfl (by decide) rfl rfl rfl ?_
        refine ra_gf (j := 28) rfl rfl rfl rfl (by decide) rfl rfl rfl ?_
        refine ra_gf (j := 29) rfl rfl rfl rfl (by decide) rfl rfl rfl ?_
        refine ra_gf (j := 30) rfl rfl rfl rfl (by decide) rfl rfl rfl ?_
        refine ra_gf (j := 31) rfl rfl rfl rfl (by decide) rfl rfl rfl ?_
        refine n_done ?_
        refine rw_gf 39 24 31 true rfl rfl rfl rfl rfl rfl (by decide) ?_
        refine rw_t 40 rfl rfl rfl (do_pick_f rfl rfl rfl ?_)
        refine rw_t 4 rfl rfl rfl (do_assign rfl ?_)
        refine rw_nil ?_
        refine ⟨rfl, ⟨_, rfl, by first | (simp; done) | (refine ⟨fun h => (by cases h), fun h => ?_⟩; exfalso; obtain ⟨⟨⟨⟨h1, h2⟩, h3⟩, h4⟩, h5⟩ := h; first | omega | contradiction) | (simp only [bs]; omega) | (simp [*]; done) | (simp; omega) | (constructor <;> intro h <;> simp_all <;> omega)⟩, ?_⟩
        repeat (refine ⟨⟨_, rfl, rfl⟩, ?_⟩)
        exact trivial
    · have kg1 := g1
      try simp only [bs] at kg1
      refine ra_gf (j := 6) rfl rfl rfl rfl (by rw [g1]; decide) rfl rfl rfl ?_
      refine ra_gf (j := 7) rfl rfl rfl rfl (by rw [g1]; decide) rfl rfl rfl ?_
      refine ra_gf (j := 8) rfl rfl rfl rfl (by rw [g1]; decide) rfl rfl rfl ?_
      refine ra_q (j := 9) rfl rfl rfl rfl (do_pick_f rfl g1 rfl ⟨rfl, rfl⟩) (by rfl) ?_
      refine ra_q (j := 10) rfl rfl rfl rfl (do_move rfl ⟨rfl, rfl⟩) (by rfl) ?_
      refine ra_gf (j := 11) rfl rfl rfl rfl (by decide) rfl rfl rfl ?_
      refine ra_gf (j := 12) rfl rfl rfl rfl (by decide) rfl rfl rfl ?_
      refine ra_gf (j := 13) rfl rfl rfl rfl (by decide) rfl rfl rfl ?_
      refine ra_gf (j := 14) rfl rfl rfl rfl (by decide) rfl rfl rfl ?_
      refine ra_q (j := 15) rfl rfl rfl rfl (do_pick_f rfl rfl rfl ⟨rfl, rfl⟩) (by rfl) ?_
      refine ra_q (j := 16) rfl rfl rfl rfl (do_move rfl ⟨rfl, rfl⟩) (by rfl) ?_
      refine ra_gf (j := 17) rfl rfl rfl rfl (by decide) rfl rfl rfl ?_
      refine ra_gf (j := 18) rfl rfl rfl rfl (by decide) rfl rfl rfl ?_
      refine ra_gf (j := 19) rfl rfl rfl rfl (by decide) rfl rfl rfl ?_
      refine ra_gf (j := 20) rfl rfl rfl rfl (by decide) rfl rfl rfl ?_
      refine ra_gf (j := 21) rfl rfl rfl rfl (by decide) rfl rfl rfl ?_
      refine ra_gf (j := 22) rfl rfl rfl rfl (by decide) rfl rfl rfl ?_
      refine ra_q (j := 23) rfl rfl rfl rfl (do_pick_f rfl rfl rfl ⟨rfl, rfl⟩) (by rfl) ?_
      refine ra_q (j := 24) rfl rfl rfl rfl (do_move rfl ⟨rfl, rfl⟩) (by rfl) ?_
      refine ra_gf (j := 25) rfl rfl rfl rfl (by decide) rfl rfl rfl ?_
      refine ra_gf (j := 26) rfl rfl rfl rfl (by decide) rfl rfl rfl ?_
      refine ra_gf (j := 27) rfl rfl rfl rfl (by decide) rfl rfl rfl ?_
      refine ra_gf (j := 28) rfl rfl rfl rfl (by decide) rfl rfl rfl ?_
      refine ra_gf (j := 29) rfl rfl rfl rfl (by decide) rfl rfl rfl ?_
      refine ra_gf (j := 30) rfl rfl rfl rfl (by decide) rfl rfl rfl ?_
      refine ra_gf (j := 31) rfl rfl rfl rfl (by decide) rfl rfl rfl ?_
      refine n_done ?_
      refine rw_gf 39 24 31 true rfl rfl rfl rfl rfl rfl (by decide) ?_
      refine rw_t 40 rfl rfl rfl (do_pick_f rfl rfl rfl ?_)
      refine rw_t 4 rfl rfl rfl (do_assign rfl ?_)
      refine rw_nil ?_
      refine ⟨rfl, ⟨_, rfl, by first | (simp; done) | (refine ⟨fun h => (by cases h), fun h => ?_⟩; exfalso; obtain ⟨⟨⟨⟨h1, h2⟩, h3⟩, h4⟩, h5⟩ := h; first | omega | contradiction) | (simp only [bs]; omega) | (simp [*]; done) | (simp; omega) | (constructor <;> intro h <;> simp_all <;> omega)⟩, ?_⟩
      repeat (refine ⟨⟨_, rfl, rfl⟩, ?_⟩)
      exact trivial
  intro b1 hb1
  refine w_ret ?_
  exact ret_eq (.inl rfl) (.cons (res_tmp rfl) .nil) [0, 1, 2, 3, 4, 5, 6] (Eq.symm (bool_congr (dec_of hb1 (by unfold labP; rw [← idx_lab hl]; exact ⟨fun q => ⟨⟨⟨⟨hl, by omega⟩, q.1⟩, q.2.1⟩, q.2.2⟩, fun q => ⟨q.1.1.2, q.1.2, q.2⟩⟩)))) ⟨.inr ⟨_, rfl, .inl rfl⟩, .inr ⟨_, rfl, .inl rfl⟩, .inr ⟨_, rfl, .inl rfl⟩, .inr ⟨_, rfl, .inl rfl⟩, .inr ⟨_, rfl, .inl rfl⟩, .inr ⟨_, rfl, .inl rfl⟩, .inr ⟨_, rfl, .inl rfl⟩, trivial⟩ rfl (pre_ok rfl)
-- f44 "acequia/label.may"
set_option maxHeartbeats 8000000 in
set_option synthInstance.maxHeartbeats 400000 in
set_option synthInstance.maxSize 2000 in
theorem t_may (c : Csr) (f hh : List Int) (h : CsrT c) (hf : f.length = c.Head.length) (hl : (hh.length : Int) = c.N) : Tri Try.prog 44 [.agg [.val (.int .i64 c.N), .val (.int .i64 c.S), .val (.int .i64 c.T), .slc 0 0 c.First.length none, .slc 1 0 c.Head.length none, .slc 2 0 c.Rev.length none, .slc 3 0 c.Cap.length none, .slc 4 0 c.Arc.length none, .slc 5 0 c.Back.length none], .slc 6 0 f.length none, .slc 7 0 hh.length none] [SO.ints false .i64 c.First, SO.ints false .i64 c.Head, SO.ints false .i64 c.Rev, SO.ints false .i64 c.Cap, SO.ints false .i64 c.Arc, SO.bools false c.Back, SO.ints false .i64 f, SO.ints false .i64 hh] (fun s H => s = .val (.bool (decide (labP c hh))) ∧ H = [SO.ints false .i64 c.First, SO.ints false .i64 c.Head, SO.ints false .i64 c.Rev, SO.ints false .i64 c.Cap, SO.ints false .i64 c.Arc, SO.bools false c.Back, SO.ints false .i64 f, SO.ints false .i64 hh]) := by
  refine tri_of_w (fn := Try.f44) Try.func44 rfl (by simp [Try.f44]) ?_
  intro ρ w hρ
  refine w_seq ?_
  have hn := h.n
  have hS := h.s
  have hT := h.t
  have hsm := h.small
  -- region 0
  refine w_region ?_
  refine rw_t 3 rfl rfl rfl (n_box_agg (n := 8) rfl rfl ?_)
  refine rw_t 6 rfl rfl rfl (do_assign rfl ?_)
  refine rw_nil ?_
  refine w_env [(1, .slc 6 0 f.length none), (2, .slc 7 0 hh.length none), (3, .ptr 8 0 0)] ⟨⟨_, rfl, rfl⟩, ⟨_, rfl, rfl⟩, ⟨_, rfl, rfl⟩, trivial⟩ ?_
  refine w_seqB 6 ((((f.length : Nat) : Int) = ((c.Head.length : Nat) : Int) ∧ labP c hh)) ?_ ?_
  · -- region 1
    refine w_region ?_
    refine rw_t 7 rfl rfl rfl (do_move rfl ?_)
    refine rw_t 8 rfl rfl rfl (do_len rfl ?_)
    refine rw_t 9 rfl rfl rfl (n_load_boxagg [_, _, _, _, _, _, _, _, _] rfl rfl (Nat.le_of_ble_eq_true rfl) rfl ?_)
    refine rw_t 10 rfl rfl rfl (do_callR (X' := .val (.int .i64 ((c.Head.length : Nat) : Int))) rfl rfl (t_Len (c := c)) [0, 1, 2, 3, 4, 5] ⟨.inr ⟨_, rfl, srv⟩, .inr ⟨_, rfl, srv⟩, .inr ⟨_, rfl, srv⟩, .inr ⟨_, rfl, srv⟩, .inr ⟨_, rfl, srv⟩, .inr ⟨_, rfl, srv⟩, trivial⟩ rfl rfl rfl ?_)
    refine rw_t 11 rfl rfl rfl (do_bin rfl rfl rfl ?_)
    refine rw_t 12 rfl rfl rfl (do_move rfl ?_)
    refine rw_case 12 rfl (fun g1 => ?_) (fun g1 => ?_)
    · have kg1 := g1
      try simp only [bs] at kg1
      refine rw_gt 13 5 12 true rfl rfl rfl rfl rfl rfl g1 (n_load_boxagg [_, _, _, _, _, _, _, _, _] rfl rfl (Nat.le_of_ble_eq_true rfl) rfl ?_)
      refine rw_gt 14 5 12 true rfl rfl rfl rfl rfl rfl g1 (do_move rfl ?_)
      refine rw_gt 15 5 12 true rfl rfl rfl rfl rfl rfl g1 (do_callR (X' := .val (.bool (decide (labP c hh)))) rfl rfl (t_lRight (c := c) (hh := hh) (h) (hl)) [0, 1, 2, 3, 4, 5, 7] ⟨.inr ⟨_, rfl, srv⟩, .inr ⟨_, rfl, srv⟩, .inr ⟨_, rfl, srv⟩, .inr ⟨_, rfl, srv⟩, .inr ⟨_, rfl, srv⟩, .inr ⟨_, rfl, srv⟩, .inr ⟨_, rfl, srv⟩, trivial⟩ rfl rfl rfl ?_)
      refine rw_t 16 rfl rfl rfl (do_pick_t rfl g1 rfl ?_)
      refine rw_t 6 rfl rfl rfl (do_assign rfl ?_)
      refine rw_nil ?_
      refine ⟨rfl, ⟨_, rfl, by first | (simp; done) | (simp only [bs]; omega) | (simp [*]; done) | (simp; omega) | (constructor <;> intro h <;> simp_all <;> omega)⟩, ?_⟩
      repeat (refine ⟨⟨_, rfl, rfl⟩, ?_⟩)
      exact trivial
    · have kg1 := g1
      try simp only [bs] at kg1
      refine rw_gf 13 5 12 true rfl rfl rfl rfl rfl rfl (by rw [g1]; decide) ?_
      refine rw_gf 14 5 12 true rfl rfl rfl rfl rfl rfl (by rw [g1]; decide) ?_
      refine rw_gf 15 5 12 true rfl rfl rfl rfl rfl rfl (by rw [g1]; decide) ?_
      refine rw_t 16 rfl rfl rfl (do_pick_f rfl g1 rfl ?_)
      refine rw_t 6 rfl rfl rfl (do_assign rfl ?_)
      refine rw_nil ?_
      refine ⟨rfl, ⟨_, rfl, by first | (simp; done) | (simp only [bs]; omega) | (simp [*]; done) | (simp; omega) | (constructor <;> intro h <;> simp_all <;> omega)⟩, ?_⟩
      repeat (refine ⟨⟨_, rfl, rfl⟩, ?_⟩)
      exact trivial
  intro b1 hb1
  refine w_ret ?_
  exact ret_eq (.inl rfl) (.cons (res_tmp rfl) .nil) [0, 1, 2, 3, 4, 5, 6, 7] (Eq.symm (bool_congr (dec_of hb1 (by simp only [hf, true_and])))) ⟨.inr ⟨_, rfl, .inl rfl⟩, .inr ⟨_, rfl, .inl rfl⟩, .inr ⟨_, rfl, .inl rfl⟩, .inr ⟨_, rfl, .inl rfl⟩, .inr ⟨_, rfl, .inl rfl⟩, .inr ⟨_, rfl, .inl rfl⟩, .inr ⟨_, rfl, .inl rfl⟩, .inr ⟨_, rfl, .inl rfl⟩, trivial⟩ rfl (pre_ok rfl)
-- f66 "acequia/label.Steep$1"
set_option maxHeartbeats 8000000 in
set_option synthInstance.maxHeartbeats 400000 in
set_option synthInstance.maxSize 2000 in
theorem t_steep1 (x : Int) : Tri Try.prog 66 [.val (.int .i64 x)] [] (fun s H => s = .val (.bool (decide (x > 1))) ∧ H = []) := by
  refine tri_of_w (fn := Try.f66) Try.func66 rfl (by simp [Try.f66]) ?_
  intro ρ w hρ
  refine w_seq ?_
  -- region 0
  refine w_region ?_
  refine rw_t 2 rfl rfl rfl (do_assign rfl ?_)
  refine rw_nil ?_
  refine w_seq ?_
  -- region 1
  refine w_region ?_
  refine rw_t 3 rfl rfl rfl (do_move rfl ?_)
  refine rw_t 4 rfl rfl rfl (do_bin rfl rfl rfl ?_)
  refine rw_t 2 rfl rfl rfl (do_assign rfl ?_)
  refine rw_nil ?_
  refine w_ret ?_
  exact ret_eq (.inl rfl) (.cons (res_tmp rfl) .nil) [] (rfl) trivial rfl (pre_ok rfl)
-- f76 "acequia/label.down$1"
set_option maxHeartbeats 8000000 in
set_option synthInstance.maxHeartbeats 400000 in
set_option synthInstance.maxSize 2000 in
theorem t_down1 (c : Csr) (f hh : List Int) (h : CsrT c) (hf : f.length = c.Head.length) (hl : (hh.length : Int) = c.N) (hP : labP c hh) (a : Int) (ha : 0 ≤ a ∧ a < c.Head.length) : Tri Try.prog 76 [.val (.int .i64 a), .ptr 8 0 0, .ptr 9 0 0, .ptr 10 0 0, .ptr 11 0 0] [SO.ints false .i64 c.First, SO.ints false .i64 c.Head, SO.ints false .i64 c.Rev, SO.ints false .i64 c.Cap, SO.ints false .i64 c.Arc, SO.bools false c.Back, SO.ints false .i64 f, SO.ints false .i64 hh, .box [.val (.int .i64 c.N), .val (.int .i64 c.S), .val (.int .i64 c.T), .slc 0 0 c.First.length none, .slc 1 0 c.Head.length none, .slc 2 0 c.Rev.length none, .slc 3 0 c.Cap.length none, .slc 4 0 c.Arc.length none, .slc 5 0 c.Back.length none], .box [.slc 6 0 f.length none], .box [.func 66 [] []], .box [.slc 7 0 hh.length none]] (fun s H => s = .tup [.val (.int .i64 a), .val (.bool (decide (steepQ c f hh a)))] ∧ H = [SO.ints false .i64 c.First, SO.ints false .i64 c.Head, SO.ints false .i64 c.Rev, SO.ints false .i64 c.Cap, SO.ints false .i64 c.Arc, SO.bools false c.Back, SO.ints false .i64 f, SO.ints false .i64 hh, .box [.val (.int .i64 c.N), .val (.int .i64 c.S), .val (.int .i64 c.T), .slc 0 0 c.First.length none, .slc 1 0 c.Head.length none, .slc 2 0 c.Rev.length none, .slc 3 0 c.Cap.length none, .slc 4 0 c.Arc.length none, .slc 5 0 c.Back.length none], .box [.slc 6 0 f.length none], .box [.func 66 [] []], .box [.slc 7 0 hh.length none]]) := by
  refine tri_of_w (fn := Try.f76) Try.func76 rfl (by simp [Try.f76]) ?_
  intro ρ w hρ
  refine w_seq ?_
  have hn := h.n
  have hS := h.s
  have hT := h.t
  have hsm := h.small
  have hhd := h.hd a.toNat (by omega)
  obtain ⟨tv, ht1, ht2, ht3, ht4⟩ := h.tail_at (a := a) (by omega) (by omega)
  have hq1 := hP.1 tv (by omega)
  have hq2 := hP.1 (c.Head.getD a.toNat 0).toNat (by omega)
  have hq3 : (tailOf c a).toNat = tv := by omega
  have hq4 := hq3 ▸ hq1
  -- region 0
  refine w_region ?_
  refine rw_t 6 rfl rfl rfl (do_assign rfl ?_)
  refine rw_t 7 rfl rfl rfl (do_assign rfl ?_)
  refine rw_nil ?_
  refine w_seq ?_
  -- region 1
  refine w_region ?_
  refine rw_t 11 rfl rfl rfl (n_load_boxagg [_, _, _, _, _, _, _, _, _] rfl rfl (Nat.le_of_ble_eq_true rfl) rfl ?_)
  refine rw_t 12 rfl rfl rfl (do_move rfl ?_)
  refine rw_t 13 rfl rfl rfl (do_callR (X' := .tup [.val (.int .i64 (tailOf c a)), .val (.bool true)]) rfl rfl (t_Tail (c := c) (a := a) (h) (by omega)) [0, 1, 2, 3, 4, 5] ⟨.inr ⟨_, rfl, srv⟩, .inr ⟨_, rfl, srv⟩, .inr ⟨_, rfl, srv⟩, .inr ⟨_, rfl, srv⟩, .inr ⟨_, rfl, srv⟩, .inr ⟨_, rfl, srv⟩, trivial⟩ rfl rfl rfl ?_)
  refine rw_t 10 rfl rfl rfl (do_move rfl ?_)
  refine rw_t 14 rfl rfl rfl (do_extract rfl rfl ?_)
  refine rw_t 15 rfl rfl rfl (do_extract rfl rfl ?_)
  refine rw_t 8 rfl rfl rfl (do_assign rfl ?_)
  refine rw_t 9 rfl rfl rfl (do_assign rfl ?_)
  refine rw_nil ?_
  refine w_seq ?_
  -- region 2
  refine w_env [(0, .val (.int .i64 a)), (1, .ptr 8 0 0), (2, .ptr 9 0 0), (3, .ptr 10 0 0), (4, .ptr 11 0 0), (8, .val (.int .i64 (tailOf c a)))] ⟨⟨_, rfl, rfl⟩, ⟨_, rfl, rfl⟩, ⟨_, rfl, rfl⟩, ⟨_, rfl, rfl⟩, ⟨_, rfl, rfl⟩, ⟨_, rfl, rfl⟩, trivial⟩ ?_
  refine w_draw mixed [0, 0, 0, 4, 14, 30, 62, 62, 254, 510, 1022, 2046, 4094, 8190, 8190, 8190, 57342, 122878, 8190, 8190, 532478, 8190, 3678206, 7872510, 16523262, 33300478, 67100670, 134217726, 268435454, 268435455] [1073741823] (by kernel_rfl) (by kernel_rfl) rfl rfl rfl (hle hρ rfl) ?_
  refine ra_q (j := 0) rfl rfl rfl rfl (do_move rfl ⟨rfl, rfl⟩) (by rfl) ?_
  refine ra_q (j := 1) rfl rfl rfl rfl (do_move rfl ⟨rfl, rfl⟩) (by rfl) ?_
  refine ra_q (j := 2) rfl rfl rfl rfl (do_fieldaddr rfl ⟨rfl, rfl⟩) (by rfl) ?_
  refine ra_q (j := 3) rfl rfl rfl rfl (do_load_box rfl rfl rfl ⟨rfl, rfl⟩) (by rfl) ?_
  refine ra_q (j := 4) rfl rfl rfl rfl (do_bin rfl rfl rfl ⟨rfl, rfl⟩) (by rfl) ?_
  refine ra_q (j := 5) rfl rfl rfl rfl (do_move rfl ⟨rfl, rfl⟩) (by rfl) ?_
  refine ra_case 21 rfl (fun g1 => ?_) (fun g1 => ?_)
  · have kg1 := g1
    try simp only [bs] at kg1
    refine ra_gt (j := 6) rfl rfl rfl rfl g1 rfl rfl rfl (do_load_box rfl rfl rfl ⟨rfl, rfl⟩) (by rfl) ?_
    refine ra_gt (j := 7) rfl rfl rfl rfl g1 rfl rfl rfl (do_move rfl ⟨rfl, rfl⟩) (by rfl) ?_
    refine ra_gt (j := 8) rfl rfl rfl rfl g1 rfl rfl rfl (do_ix0 rfl rfl rfl (by first | omega | (simp only [ls] <;> omega)) ⟨rfl, rfl⟩) (by rfl) ?_
    refine ra_gt (j := 9) rfl rfl rfl rfl g1 rfl rfl rfl (do_load_arr rfl rfl (by first | omega | (simp only [ls] <;> omega)) rfl ⟨rfl, rfl⟩) (by rfl) ?_
    refine ra_gt (j := 10) rfl rfl rfl rfl g1 rfl rfl rfl (do_bin rfl rfl rfl ⟨rfl, rfl⟩) (by rfl) ?_
    refine ra_q (j := 11) rfl rfl rfl rfl (do_pick_t rfl g1 rfl ⟨rfl, rfl⟩) (by rfl) ?_
    refine ra_q (j := 12) rfl rfl rfl rfl (do_move rfl ⟨rfl, rfl⟩) (by rfl) ?_
    refine ra_case 28 rfl (fun g2 => ?_) (fun g2 => ?_)
    · have kg2 := g2
      try simp only [bs] at kg2
      refine ra_gt (j := 13) rfl rfl rfl rfl g2 rfl rfl rfl (do_load_box rfl rfl rfl ⟨rfl, rfl⟩) (by rfl) ?_
      refine ra_gt (j := 14) rfl rfl rfl rfl g2 rfl rfl rfl (do_load_box rfl rfl rfl ⟨rfl, rfl⟩) (by rfl) ?_
      refine ra_gt (j := 15) rfl rfl rfl rfl g2 rfl rfl rfl (do_move rfl ⟨rfl, rfl⟩) (by rfl) ?_
      refine ra_gt (j := 16) rfl rfl rfl rfl g2 rfl rfl rfl (do_ix0 rfl rfl rfl (by first | omega | (simp only [ls] <;> omega)) ⟨rfl, rfl⟩) (by rfl) ?_
      refine ra_gt (j := 17) rfl rfl rfl rfl g2 rfl rfl rfl (do_load_arr rfl rfl (by first | omega | (simp only [ls] <;> omega)) rfl ⟨rfl, rfl⟩) (by rfl) ?_
      refine ra_gt (j := 18) rfl rfl rfl rfl g2 rfl rfl rfl (do_load_box rfl rfl rfl ⟨rfl, rfl⟩) (by rfl) ?_
      refine ra_gt (j := 19) rfl rfl rfl rfl g2 rfl rfl rfl (do_fieldaddr rfl ⟨rfl, rfl⟩) (by rfl) ?_
      refine ra_gt (j := 20) rfl rfl rfl rfl g2 rfl rfl rfl (do_load_box rfl rfl rfl ⟨rfl, rfl⟩) (by rfl) ?_
      refine ra_gt (j := 21) rfl rfl rfl rfl g2 rfl rfl rfl (do_move rfl ⟨rfl, rfl⟩) (by rfl) ?_
      refine ra_gt (j := 22) rfl rfl rfl rfl g2 rfl rfl rfl (do_ix0 rfl rfl rfl (by first | omega | (simp only [ls] <;> omega)) ⟨rfl, rfl⟩) (by rfl) ?_
      refine ra_gt (j := 23) rfl rfl rfl rfl g2 rfl rfl rfl (do_load_arr rfl rfl (by first | omega | (simp only [ls] <;> omega)) rfl ⟨rfl, rfl⟩) (by rfl) ?_
      refine ra_gt (j := 24) rfl rfl rfl rfl g2 rfl rfl rfl (do_ix0 rfl rfl rfl (by first | omega | (simp only [ls] <;> omega)) ⟨rfl, rfl⟩) (by rfl) ?_
      refine ra_gt (j := 25) rfl rfl rfl rfl g2 rfl rfl rfl (do_load_arr rfl rfl (by first | omega | (simp only [ls] <;> omega)) rfl ⟨rfl, rfl⟩) (by rfl) ?_
      refine ra_gt (j := 26) rfl rfl rfl rfl g2 rfl rfl rfl (do_sub rfl rfl (by omega) ⟨rfl, rfl⟩) (by rfl) ?_
      refine ra_gt (j := 27) rfl rfl rfl rfl g2 rfl rfl rfl (do_callR (X' := .val (.bool (decide (((hh.getD ((tailOf c a).toNat) 0) - (hh.getD ((c.Head.getD a.toNat 0).toNat) 0)) > 1)))) rfl rfl (t_steep1 (x := ((hh.getD ((tailOf c a).toNat) 0) - (hh.getD ((c.Head.getD a.toNat 0).toNat) 0)))) [] trivial rfl rfl rfl ⟨rfl, rfl⟩) (by rfl) ?_
      refine ra_q (j := 28) rfl rfl rfl rfl (do_pick_t rfl g2 rfl ⟨rfl, rfl⟩) (by rfl) ?_
      refine ra_q (j := 29) rfl rfl rfl rfl (do_assign rfl ⟨rfl, rfl⟩) (by rfl) ?_
      refine n_done ?_
      refine rw_t 7 rfl rfl rfl (do_assign rfl ?_)
      refine rw_nil ?_
      refine w_ret ?_
      exact ret_eq (.inl rfl) (.cons (res_tmp rfl) (.cons (res_tmp rfl) .nil)) [0, 1, 2, 3, 4, 5, 6, 7, 8, 9, 10, 11] (by rw [show decide (steepQ c f hh a) = decide (hh.getD (tailOf c a).toNat 0 - hh.getD (c.Head.getD a.toNat 0).toNat 0 > 1) from decide_eq_decide.2 ⟨fun q => q.2, fun q => ⟨⟨kg1, kg2⟩, q⟩⟩]; rfl) ⟨.inr ⟨_, rfl, .inl rfl⟩, .inr ⟨_, rfl, .inl rfl⟩, .inr ⟨_, rfl, .inl rfl⟩, .inr ⟨_, rfl, .inl rfl⟩, .inr ⟨_, rfl, .inl rfl⟩, .inr ⟨_, rfl, .inl rfl⟩, .inr ⟨_, rfl, .inl rfl⟩, .inr ⟨_, rfl, .inl rfl⟩, .inr ⟨_, rfl, .inl rfl⟩, .inr ⟨_, rfl, .inl rfl⟩, .inr ⟨_, rfl, .inl rfl⟩, .inr ⟨_, rfl, .inl rfl⟩, trivial⟩ rfl (pre_ok rfl)
    · have kg2 := g2
      try simp only [bs] at kg2
      refine ra_gf (j := 13) rfl rfl rfl rfl (by rw [g2]; decide) rfl rfl rfl ?_
      refine ra_gf (j := 14) rfl rfl rfl rfl (by rw [g2]; decide) rfl rfl rfl ?_
      refine ra_gf (j := 15) rfl rfl rfl rfl (by rw [g2]; decide) rfl rfl rfl ?_
      refine ra_gf (j := 16) rfl rfl rfl rfl (by rw [g2]; decide) rfl rfl rfl ?_
      refine ra_gf (j := 17) rfl rfl rfl rfl (by rw [g2]; decide) rfl rfl rfl ?_
      refine ra_gf (j := 18) rfl rfl rfl rfl (by rw [g2]; decide) rfl rfl rfl ?_
      refine ra_gf (j := 19) rfl rfl rfl rfl (by rw [g2]; decide) rfl rfl rfl ?_
      refine ra_gf (j := 20) rfl rfl rfl rfl (by rw [g2]; decide) rfl rfl rfl ?_
      refine ra_gf (j := 21) rfl rfl rfl rfl (by rw [g2]; decide) rfl rfl rfl ?_
      refine ra_gf (j := 22) rfl rfl rfl rfl (by rw [g2]; decide) rfl rfl rfl ?_
      refine ra_gf (j := 23) rfl rfl rfl rfl (by rw [g2]; decide) rfl rfl rfl ?_
      refine ra_gf (j := 24) rfl rfl rfl rfl (by rw [g2]; decide) rfl rfl rfl ?_
      refine ra_gf (j := 25) rfl rfl rfl rfl (by rw [g2]; decide) rfl rfl rfl ?_
      refine ra_gf (j := 26) rfl rfl rfl rfl (by rw [g2]; decide) rfl rfl rfl ?_
      refine ra_gf (j := 27) rfl rfl rfl rfl (by rw [g2]; decide) rfl rfl rfl ?_
      refine ra_q (j := 28) rfl rfl rfl rfl (do_pick_f rfl g2 rfl ⟨rfl, rfl⟩) (by rfl) ?_
      refine ra_q (j := 29) rfl rfl rfl rfl (do_assign rfl ⟨rfl, rfl⟩) (by rfl) ?_
      refine n_done ?_
      refine rw_t 7 rfl rfl rfl (do_assign rfl ?_)
      refine rw_nil ?_
      refine w_ret ?_
      exact ret_eq (.inl rfl) (.cons (res_tmp rfl) (.cons (res_tmp rfl) .nil)) [0, 1, 2, 3, 4, 5, 6, 7, 8, 9, 10, 11] (by rw [show decide (steepQ c f hh a) = false from decide_eq_false (fun q => kg2 q.1.2)]; rfl) ⟨.inr ⟨_, rfl, .inl rfl⟩, .inr ⟨_, rfl, .inl rfl⟩, .inr ⟨_, rfl, .inl rfl⟩, .inr ⟨_, rfl, .inl rfl⟩, .inr ⟨_, rfl, .inl rfl⟩, .inr ⟨_, rfl, .inl rfl⟩, .inr ⟨_, rfl, .inl rfl⟩, .inr ⟨_, rfl, .inl rfl⟩, .inr ⟨_, rfl, .inl rfl⟩, .inr ⟨_, rfl, .inl rfl⟩, .inr ⟨_, rfl, .inl rfl⟩, .inr ⟨_, rfl, .inl rfl⟩, trivial⟩ rfl (pre_ok rfl)
  · have kg1 := g1
    try simp only [bs] at kg1
    refine ra_gf (j := 6) rfl rfl rfl rfl (by rw [g1]; decide) rfl rfl rfl ?_
    refine ra_gf (j := 7) rfl rfl rfl rfl (by rw [g1]; decide) rfl rfl rfl ?_
    refine ra_gf (j := 8) rfl rfl rfl rfl (by rw [g1]; decide) rfl rfl rfl ?_
    refine ra_gf (j := 9) rfl rfl rfl rfl (by rw [g1]; decide) rfl rfl rfl ?_
    refine ra_gf (j := 10) rfl rfl rfl rfl (by rw [g1]; decide) rfl rfl rfl ?_
    refine ra_q (j := 11) rfl rfl rfl rfl (do_pick_f rfl g1 rfl ⟨rfl, rfl⟩) (by rfl) ?_
    refine ra_q (j := 12) rfl rfl rfl rfl (do_move rfl ⟨rfl, rfl⟩) (by rfl) ?_
    refine ra_gf (j := 13) rfl rfl rfl rfl (by decide) rfl rfl rfl ?_
    refine ra_gf (j := 14) rfl rfl rfl rfl (by decide) rfl rfl rfl ?_
    refine ra_gf (j := 15) rfl rfl rfl rfl (by decide) rfl rfl rfl ?_
    refine ra_gf (j := 16) rfl rfl rfl rfl (by decide) rfl rfl rfl ?_
    refine ra_gf (j := 17) rfl rfl rfl rfl (by decide) rfl rfl rfl ?_
    refine ra_gf (j := 18) rfl rfl rfl rfl (by decide) rfl rfl rfl ?_
    refine ra_gf (j := 19) rfl rfl rfl rfl (by decide) rfl rfl rfl ?_
    refine ra_gf (j := 20) rfl rfl rfl rfl (by decide) rfl rfl rfl ?_
    refine ra_gf (j := 21) rfl rfl rfl rfl (by decide) rfl rfl rfl ?_
    refine ra_gf (j := 22) rfl rfl rfl rfl (by decide) rfl rfl rfl ?_
    refine ra_gf (j := 23) rfl rfl rfl rfl (by decide) rfl rfl rfl ?_
    refine ra_gf (j := 24) rfl rfl rfl rfl (by decide) rfl rfl rfl ?_
    refine ra_gf (j := 25) rfl rfl rfl rfl (by decide) rfl rfl rfl ?_
    refine ra_gf (j := 26) rfl rfl rfl rfl (by decide) rfl rfl rfl ?_
    refine ra_gf (j := 27) rfl rfl rfl rfl (by decide) rfl rfl rfl ?_
    refine ra_q (j := 28) rfl rfl rfl rfl (do_pick_f rfl rfl rfl ⟨rfl, rfl⟩) (by rfl) ?_
    refine ra_q (j := 29) rfl rfl rfl rfl (do_assign rfl ⟨rfl, rfl⟩) (by rfl) ?_
    refine n_done ?_
    refine rw_t 7 rfl rfl rfl (do_assign rfl ?_)
    refine rw_nil ?_
    refine w_ret ?_
    exact ret_eq (.inl rfl) (.cons (res_tmp rfl) (.cons (res_tmp rfl) .nil)) [0, 1, 2, 3, 4, 5, 6, 7, 8, 9, 10, 11] (by rw [show decide (steepQ c f hh a) = false from decide_eq_false (fun q => q.1.1 kg1)]; rfl) ⟨.inr ⟨_, rfl, .inl rfl⟩, .inr ⟨_, rfl, .inl rfl⟩, .inr ⟨_, rfl, .inl rfl⟩, .inr ⟨_, rfl, .inl rfl⟩, .inr ⟨_, rfl, .inl rfl⟩, .inr ⟨_, rfl, .inl rfl⟩, .inr ⟨_, rfl, .inl rfl⟩, .inr ⟨_, rfl, .inl rfl⟩, .inr ⟨_, rfl, .inl rfl⟩, .inr ⟨_, rfl, .inl rfl⟩, .inr ⟨_, rfl, .inl rfl⟩, .inr ⟨_, rfl, .inl rfl⟩, trivial⟩ rfl (pre_ok rfl)
-- f75 "acequia/label.picked[int]"
set_option maxHeartbeats 8000000 in
set_option synthInstance.maxHeartbeats 400000 in
set_option synthInstance.maxSize 2000 in
theorem t_picked (c : Csr) (f hh : List Int) (h : CsrT c) (hf : f.length = c.Head.length) (hl : (hh.length : Int) = c.N) (hP : labP c hh) : Tri Try.prog 75 [.val (.int .i64 ((f.length : Nat) : Int)), .func 76 [] [.ptr 8 0 0, .ptr 9 0 0, .ptr 10 0 0, .ptr 11 0 0]] [SO.ints false .i64 c.First, SO.ints false .i64 c.Head, SO.ints false .i64 c.Rev, SO.ints false .i64 c.Cap, SO.ints false .i64 c.Arc, SO.bools false c.Back, SO.ints false .i64 f, SO.ints false .i64 hh, .box [.val (.int .i64 c.N), .val (.int .i64 c.S), .val (.int .i64 c.T), .slc 0 0 c.First.length none, .slc 1 0 c.Head.length none, .slc 2 0 c.Rev.length none, .slc 3 0 c.Cap.length none, .slc 4 0 c.Arc.length none, .slc 5 0 c.Back.length none], .box [.slc 6 0 f.length none], .box [.func 66 [] []], .box [.slc 7 0 hh.length none]] (fun s H => s = .slc 12 0 ((steepK c f hh f.length).length) none ∧ H = [SO.ints false .i64 c.First, SO.ints false .i64 c.Head, SO.ints false .i64 c.Rev, SO.ints false .i64 c.Cap, SO.ints false .i64 c.Arc, SO.bools false c.Back, SO.ints false .i64 f, SO.ints false .i64 hh, .box [.val (.int .i64 c.N), .val (.int .i64 c.S), .val (.int .i64 c.T), .slc 0 0 c.First.length none, .slc 1 0 c.Head.length none, .slc 2 0 c.Rev.length none, .slc 3 0 c.Cap.length none, .slc 4 0 c.Arc.length none, .slc 5 0 c.Back.length none], .box [.slc 6 0 f.length none], .box [.func 66 [] []], .box [.slc 7 0 hh.length none], SO.ints true .i64 (steepK c f hh f.length)]) := by
  refine tri_of_w (fn := Try.f75) Try.func75 rfl (by simp [Try.f75]) ?_
  intro ρ w hρ
  refine w_seq ?_
  have hn := h.n
  have hS := h.s
  have hT := h.t
  have hsm := h.small
  -- region 0
  refine w_region ?_
  refine rw_t 4 rfl rfl rfl (do_assign rfl ?_)
  refine rw_nil ?_
  refine w_seq ?_
  -- region 1
  refine w_region ?_
  refine rw_t 5 rfl rfl rfl (do_assign rfl ?_)
  refine rw_nil ?_
  refine w_seq ?_
  refine w_seq ?_
  -- region 2
  refine w_region ?_
  refine rw_t 9 rfl rfl rfl (do_move rfl ?_)
  refine rw_t 10 rfl rfl rfl (do_move rfl ?_)
  refine rw_nil ?_
  refine w_block ?_
  refine n_ghost Int 1 (encI .i64) 0 (fun _ => rfl) (fun _ _ h => by simp [encI] at h; subst h; rfl) ?_
  refine w_nilE 5 12 0 rfl ?_
  refine w_loopS (ι := Nat) (fun i => [(1, .func 76 [] [.ptr 8 0 0, .ptr 9 0 0, .ptr 10 0 0, .ptr 11 0 0]), (4, .val (.slice none 0 0)), (5, .slc 12 0 ((steepK c f hh i).length) none), (9, .val (.int .i64 ((f.length : Nat) : Int))), (10, .val (.int .i64 ((i : Nat) : Int)))]) (fun i => [SO.ints false .i64 c.First, SO.ints false .i64 c.Head, SO.ints false .i64 c.Rev, SO.ints false .i64 c.Cap, SO.ints false .i64 c.Arc, SO.bools false c.Back, SO.ints false .i64 f, SO.ints false .i64 hh, .box [.val (.int .i64 c.N), .val (.int .i64 c.S), .val (.int .i64 c.T), .slc 0 0 c.First.length none, .slc 1 0 c.Head.length none, .slc 2 0 c.Rev.length none, .slc 3 0 c.Cap.length none, .slc 4 0 c.Arc.length none, .slc 5 0 c.Back.length none], .box [.slc 6 0 f.length none], .box [.func 66 [] []], .box [.slc 7 0 hh.length none], SO.ints true .i64 (steepK c f hh i)]) (fun i => f.length - i) (fun i => i ≤ f.length) (0) [0, 1, 2, 3, 4, 5, 6, 7, 8, 9, 10, 11, 12] (by simp) ⟨.inr ⟨_, rfl, .inl rfl⟩, .inr ⟨_, rfl, .inl rfl⟩, .inr ⟨_, rfl, .inl rfl⟩, .inr ⟨_, rfl, .inl rfl⟩, .inr ⟨_, rfl, .inl rfl⟩, .inr ⟨_, rfl, .inl rfl⟩, .inr ⟨_, rfl, .inl rfl⟩, .inr ⟨_, rfl, .inl rfl⟩, .inr ⟨_, rfl, .inl rfl⟩, .inr ⟨_, rfl, .inl rfl⟩, .inr ⟨_, rfl, .inl rfl⟩, .inr ⟨_, rfl, .inl rfl⟩, .inr ⟨_, rfl, .inl rfl⟩, trivial⟩ rfl (pre_ok rfl) hρ ⟨⟨_, rfl, rfl⟩, ⟨_, rfl, rfl⟩, ⟨_, rfl, rfl⟩, ⟨_, rfl, rfl⟩, ⟨_, rfl, rfl⟩, trivial⟩ ?_
  intro i hi
  have hsl := steepK_len c f hh i
  refine w_seq ?_
  -- region 3
  refine w_region ?_
  refine rw_t 11 rfl rfl rfl (do_bin rfl rfl rfl ?_)
  refine rw_nil ?_
  refine w_seq ?_
  refine w_cond rfl (fun hc1 => ?_) (fun hc1 => ?_)
  all_goals try simp only [bs] at hc1
  rotate_left
  · refine w_exit ?_ -- exit 0
    refine w_seq ?_
    -- region 9
    refine w_region ?_
    refine rw_t 25 rfl rfl rfl (do_move rfl ?_)
    refine rw_t 4 rfl rfl rfl (do_assign rfl ?_)
    refine rw_nil ?_
    have hi' : i = f.length := by omega
    subst hi'
    refine w_ret ?_
    -- RESULT .slc 12 0 ((steepK c f hh i).length) none, WANTED .slc 12 0 ((steepK c f hh f.length).length) none
    exact ret_eq (.inl rfl) (.cons (res_tmp rfl) .nil) [0, 1, 2, 3, 4, 5, 6, 7, 8, 9, 10, 11, 12] (rfl) ⟨.inr ⟨_, rfl, .inl rfl⟩, .inr ⟨_, rfl, .inl rfl⟩, .inr ⟨_, rfl, .inl rfl⟩, .inr ⟨_, rfl, .inl rfl⟩, .inr ⟨_, rfl, .inl rfl⟩, .inr ⟨_, rfl, .inl rfl⟩, .inr ⟨_, rfl, .inl rfl⟩, .inr ⟨_, rfl, .inl rfl⟩, .inr ⟨_, rfl, .inl rfl⟩, .inr ⟨_, rfl, .inl rfl⟩, .inr ⟨_, rfl, .inl rfl⟩, .inr ⟨_, rfl, .inl rfl⟩, .inr ⟨_, rfl, .inl rfl⟩, trivial⟩ rfl (pre_ok rfl)
  refine w_skip ?_
  refine w_seq ?_
  refine w_block ?_
  refine w_seq ?_
  -- region 4
  refine w_region ?_
  refine rw_t 12 rfl rfl rfl (do_move rfl ?_)
  refine rw_t 6 rfl rfl rfl (do_assign rfl ?_)
  refine rw_nil ?_
  refine w_seq ?_
  -- region 5
  refine w_region ?_
  refine rw_t 14 rfl rfl rfl (do_move rfl ?_)
  refine rw_t 15 rfl rfl rfl (do_move rfl ?_)
  refine rw_t 16 rfl rfl rfl (n_callW (X' := .tup [.val (.int .i64 ((i : Nat) : Int)), .val (.bool (decide (steepQ c f hh ((i : Nat) : Int))))]) (H' := [SO.ints false .i64 c.First, SO.ints false .i64 c.Head, SO.ints false .i64 c.Rev, SO.ints false .i64 c.Cap, SO.ints false .i64 c.Arc, SO.bools false c.Back, SO.ints false .i64 f, SO.ints false .i64 hh, .box [.val (.int .i64 c.N), .val (.int .i64 c.S), .val (.int .i64 c.T), .slc 0 0 c.First.length none, .slc 1 0 c.Head.length none, .slc 2 0 c.Rev.length none, .slc 3 0 c.Cap.length none, .slc 4 0 c.Arc.length none, .slc 5 0 c.Back.length none], .box [.slc 6 0 f.length none], .box [.func 66 [] []], .box [.slc 7 0 hh.length none], SO.ints true .i64 (steepK c f hh i)]) rfl rfl (t_down1 (c := c) (f := f) (hh := hh) (a := ((i : Nat) : Int)) (h) (hf) (hl) (hP) (by omega)) [0, 1, 2, 3, 4, 5, 6, 7, 8, 9, 10, 11] ⟨.inr ⟨_, rfl, srv⟩, .inr ⟨_, rfl, srv⟩, .inr ⟨_, rfl, srv⟩, .inr ⟨_, rfl, srv⟩, .inr ⟨_, rfl, srv⟩, .inr ⟨_, rfl, srv⟩, .inr ⟨_, rfl, srv⟩, .inr ⟨_, rfl, srv⟩, .inr ⟨_, rfl, .inl rfl⟩, .inr ⟨_, rfl, .inl rfl⟩, .inr ⟨_, rfl, .inl rfl⟩, .inr ⟨_, rfl, .inl rfl⟩, trivial⟩ rfl rfl ⟨fun h => (by cases h), ⟨fun h => (by cases h), ⟨fun h => (by cases h), ⟨fun h => (by cases h), ⟨fun h => (by cases h), ⟨fun h => (by cases h), ⟨fun h => (by cases h), ⟨fun h => (by cases h), ⟨fun h => .inl rfl, ⟨fun h => .inl rfl, ⟨fun h => .inl rfl, ⟨fun h => .inl rfl, (fun y hy => by simp at hy)⟩⟩⟩⟩⟩⟩⟩⟩⟩⟩⟩⟩ rfl rfl ?_)
  refine rw_t 13 rfl rfl rfl (do_move rfl ?_)
  refine rw_t 17 rfl rfl rfl (do_extract rfl rfl ?_)
  refine rw_t 18 rfl rfl rfl (do_extract rfl rfl ?_)
  refine rw_t 7 rfl rfl rfl (do_assign rfl ?_)
  refine rw_t 8 rfl rfl rfl (do_assign rfl ?_)
  refine rw_nil ?_
  refine w_seq ?_
  -- region 6
  refine w_region ?_
  refine rw_t 19 rfl rfl rfl (do_move rfl ?_)
  refine rw_nil ?_
  refine w_cond rfl (fun hc2 => ?_) (fun hc2 => ?_)
  all_goals try simp only [bs] at hc2
  · -- region 7
    refine w_region ?_
    refine rw_t 20 rfl rfl rfl (do_move rfl ?_)
    refine rw_t 21 rfl rfl rfl (do_move rfl ?_)
    refine rw_t 22 rfl rfl rfl (n_bs (nm := 13) Int (encI .i64) 0 [((i : Nat) : Int)] rfl rfl rfl rfl rfl (fun _ => rfl) (fun _ _ h => by simp [encI] at h; subst h; rfl) rfl ?_)
    refine rw_t 23 rfl rfl rfl (n_app_own (nm := 14) rfl rfl rfl rfl rfl (by first | omega | (simp only [ls] <;> omega)) (by first | omega | (simp only [ls] <;> omega)) (by omega) (by omega) rfl ?_)
    refine rw_t 5 rfl rfl rfl (do_assign rfl ?_)
    refine rw_nil ?_
    -- region 8
    refine w_region ?_
    refine rw_t 24 rfl rfl rfl (do_add rfl rfl (by omega) ?_)
    refine rw_t 10 rfl rfl rfl (do_move rfl ?_)
    refine rw_nil ?_
    refine ⟨i + 1, [0, 1, 2, 3, 4, 5, 6, 7, 8, 9, 10, 11, 14], by dsimp only; omega, by omega, ⟨.inr ⟨_, rfl, .inl rfl⟩, .inr ⟨_, rfl, .inl rfl⟩, .inr ⟨_, rfl, .inl rfl⟩, .inr ⟨_, rfl, .inl rfl⟩, .inr ⟨_, rfl, .inl rfl⟩, .inr ⟨_, rfl, .inl rfl⟩, .inr ⟨_, rfl, .inl rfl⟩, .inr ⟨_, rfl, .inl rfl⟩, .inr ⟨_, rfl, .inl rfl⟩, .inr ⟨_, rfl, .inl rfl⟩, .inr ⟨_, rfl, .inl rfl⟩, .inr ⟨_, rfl, .inl rfl⟩, .inr ⟨_, rfl, .inl (congrArg (SO.ints true .i64) (by simp only [steepK]; rw [if_pos hc2]))⟩, trivial⟩, rfl, pre_ok rfl, ⟨⟨_, rfl, rfl⟩, ⟨_, rfl, rfl⟩, ⟨_, rfl, (congrArg (fun n => SV.slc 14 0 n none) (by simp only [steepK]; rw [if_pos hc2, List.length_append]; rfl : (steepK c f hh i).length + 1 = (steepK c f hh (i + 1)).length)).trans rfl⟩, ⟨_, rfl, rfl⟩, ⟨_, rfl, rfl⟩, trivial⟩⟩
  · refine w_skip ?_
    -- region 8
    refine w_region ?_
    refine rw_t 24 rfl rfl rfl (do_add rfl rfl (by omega) ?_)
    refine rw_t 10 rfl rfl rfl (do_move rfl ?_)
    refine rw_nil ?_
    refine ⟨i + 1, [0, 1, 2, 3, 4, 5, 6, 7, 8, 9, 10, 11, 12], by dsimp only; omega, by omega, ⟨.inr ⟨_, rfl, .inl rfl⟩, .inr ⟨_, rfl, .inl rfl⟩, .inr ⟨_, rfl, .inl rfl⟩, .inr ⟨_, rfl, .inl rfl⟩, .inr ⟨_, rfl, .inl rfl⟩, .inr ⟨_, rfl, .inl rfl⟩, .inr ⟨_, rfl, .inl rfl⟩, .inr ⟨_, rfl, .inl rfl⟩, .inr ⟨_, rfl, .inl rfl⟩, .inr ⟨_, rfl, .inl rfl⟩, .inr ⟨_, rfl, .inl rfl⟩, .inr ⟨_, rfl, .inl rfl⟩, .inr ⟨_, rfl, .inl (congrArg (SO.ints true .i64) (by simp only [steepK]; rw [if_neg hc2]))⟩, trivial⟩, rfl, pre_ok rfl, ⟨⟨_, rfl, rfl⟩, ⟨_, rfl, rfl⟩, ⟨_, rfl, (congrArg (fun n => SV.slc 12 0 n none) (by simp only [steepK]; rw [if_neg hc2] : (steepK c f hh i).length = (steepK c f hh (i + 1)).length)).trans rfl⟩, ⟨_, rfl, rfl⟩, ⟨_, rfl, rfl⟩, trivial⟩⟩
-- f65 "acequia/label.down"
set_option maxHeartbeats 8000000 in
set_option synthInstance.maxHeartbeats 400000 in
set_option synthInstance.maxSize 2000 in
theorem t_down (c : Csr) (f hh : List Int) (h : CsrT c) (hf : f.length = c.Head.length) (hl : (hh.length : Int) = c.N) (hP : labP c hh) : Tri Try.prog 65 [.agg [.val (.int .i64 c.N), .val (.int .i64 c.S), .val (.int .i64 c.T), .slc 0 0 c.First.length none, .slc 1 0 c.Head.length none, .slc 2 0 c.Rev.length none, .slc 3 0 c.Cap.length none, .slc 4 0 c.Arc.length none, .slc 5 0 c.Back.length none], .slc 6 0 f.length none, .slc 7 0 hh.length none, .func 66 [] []] [SO.ints false .i64 c.First, SO.ints false .i64 c.Head, SO.ints false .i64 c.Rev, SO.ints false .i64 c.Cap, SO.ints false .i64 c.Arc, SO.bools false c.Back, SO.ints false .i64 f, SO.ints false .i64 hh] (fun s H => s = .slc 8 0 ((steepK c f hh f.length).length) none ∧ H = [SO.ints false .i64 c.First, SO.ints false .i64 c.Head, SO.ints false .i64 c.Rev, SO.ints false .i64 c.Cap, SO.ints false .i64 c.Arc, SO.bools false c.Back, SO.ints false .i64 f, SO.ints false .i64 hh, SO.ints true .i64 (steepK c f hh f.length)]) := by
  refine tri_of_w (fn := Try.f65) Try.func65 rfl (by simp [Try.f65]) ?_
  intro ρ w hρ
  refine w_seq ?_
  have hn := h.n
  have hS := h.s
  have hT := h.t
  have hsm := h.small
  -- region 0
  refine w_region ?_
  refine rw_t 4 rfl rfl rfl (n_box_agg (n := 8) rfl rfl ?_)
  refine rw_t 5 rfl rfl rfl (n_box (n := 9) rfl rfl rfl ?_)
  refine rw_t 6 rfl rfl rfl (n_box (n := 10) rfl rfl rfl ?_)
  refine rw_t 7 rfl rfl rfl (n_box (n := 11) rfl rfl rfl ?_)
  refine rw_t 8 rfl rfl rfl (do_assign rfl ?_)
  refine rw_nil ?_
  refine w_seq ?_
  refine w_seq ?_
  -- region 1
  refine w_region ?_
  refine rw_t 9 rfl rfl rfl (n_load_boxagg [_, _, _, _, _, _, _, _, _] rfl rfl (Nat.le_of_ble_eq_true rfl) rfl ?_)
  refine rw_t 10 rfl rfl rfl (do_load_box rfl rfl rfl ?_)
  refine rw_t 11 rfl rfl rfl (do_load_box rfl rfl rfl ?_)
  refine rw_t 12 rfl rfl rfl (do_callR (X' := .val (.bool (decide (labP c hh)))) rfl rfl (t_may (c := c) (f := f) (hh := hh) (h) (hf) (hl)) [0, 1, 2, 3, 4, 5, 6, 7] ⟨.inr ⟨_, rfl, srv⟩, .inr ⟨_, rfl, srv⟩, .inr ⟨_, rfl, srv⟩, .inr ⟨_, rfl, srv⟩, .inr ⟨_, rfl, srv⟩, .inr ⟨_, rfl, srv⟩, .inr ⟨_, rfl, srv⟩, .inr ⟨_, rfl, srv⟩, trivial⟩ rfl rfl rfl ?_)
  refine rw_t 13 rfl rfl rfl (do_not rfl ?_)
  refine rw_nil ?_
  refine w_cond rfl (fun hc1 => ?_) (fun hc1 => ?_)
  · exfalso; simp [hP] at hc1
  refine w_skip ?_
  refine w_seq ?_
  -- region 3
  refine w_region ?_
  refine rw_t 14 rfl rfl rfl (do_load_box rfl rfl rfl ?_)
  refine rw_t 15 rfl rfl rfl (do_len rfl ?_)
  refine rw_t 16 rfl rfl rfl (do_makefunc rfl rfl ?_)
  refine rw_t 17 rfl rfl rfl (n_callW (X' := .slc 12 0 ((steepK c f hh f.length).length) none) (H' := [SO.ints false .i64 c.First, SO.ints false .i64 c.Head, SO.ints false .i64 c.Rev, SO.ints false .i64 c.Cap, SO.ints false .i64 c.Arc, SO.bools false c.Back, SO.ints false .i64 f, SO.ints false .i64 hh, .box [.val (.int .i64 c.N), .val (.int .i64 c.S), .val (.int .i64 c.T), .slc 0 0 c.First.length none, .slc 1 0 c.Head.length none, .slc 2 0 c.Rev.length none, .slc 3 0 c.Cap.length none, .slc 4 0 c.Arc.length none, .slc 5 0 c.Back.length none], .box [.slc 6 0 f.length none], .box [.slc 7 0 hh.length none], .box [.func 66 [] []], SO.ints true .i64 (steepK c f hh f.length)]) rfl rfl (t_picked (c := c) (f := f) (hh := hh) (h) (hf) (hl) (hP)) [0, 1, 2, 3, 4, 5, 6, 7, 8, 9, 11, 10] ⟨.inr ⟨_, rfl, srv⟩, .inr ⟨_, rfl, srv⟩, .inr ⟨_, rfl, srv⟩, .inr ⟨_, rfl, srv⟩, .inr ⟨_, rfl, srv⟩, .inr ⟨_, rfl, srv⟩, .inr ⟨_, rfl, srv⟩, .inr ⟨_, rfl, srv⟩, .inr ⟨_, rfl, .inl rfl⟩, .inr ⟨_, rfl, .inl rfl⟩, .inr ⟨_, rfl, .inl rfl⟩, .inr ⟨_, rfl, .inl rfl⟩, trivial⟩ rfl rfl ⟨fun h => (by cases h), ⟨fun h => (by cases h), ⟨fun h => (by cases h), ⟨fun h => (by cases h), ⟨fun h => (by cases h), ⟨fun h => (by cases h), ⟨fun h => (by cases h), ⟨fun h => (by cases h), ⟨fun h => .inl rfl, ⟨fun h => .inl rfl, ⟨fun h => .inl rfl, ⟨fun h => .inl rfl, (okNew_tail rfl)⟩⟩⟩⟩⟩⟩⟩⟩⟩⟩⟩⟩ rfl rfl ?_)
  refine rw_t 8 rfl rfl rfl (do_assign rfl ?_)
  refine rw_nil ?_
  refine w_ret ?_
  exact ret_eq (.inl rfl) (.cons (res_tmp rfl) .nil) [0, 1, 2, 3, 4, 5, 6, 7, 12] (rfl) ⟨.inr ⟨_, rfl, .inl rfl⟩, .inr ⟨_, rfl, .inl rfl⟩, .inr ⟨_, rfl, .inl rfl⟩, .inr ⟨_, rfl, .inl rfl⟩, .inr ⟨_, rfl, .inl rfl⟩, .inr ⟨_, rfl, .inl rfl⟩, .inr ⟨_, rfl, .inl rfl⟩, .inr ⟨_, rfl, .inl rfl⟩, .inr ⟨_, rfl, .inl rfl⟩, trivial⟩ rfl (pre_ok rfl)
-- f45 "acequia/label.Steep"
set_option maxHeartbeats 8000000 in
set_option synthInstance.maxHeartbeats 400000 in
set_option synthInstance.maxSize 2000 in
theorem t_Steep (c : Csr) (f hh : List Int) (h : CsrT c) (hf : f.length = c.Head.length) (hl : (hh.length : Int) = c.N) (hP : labP c hh) : Tri Try.prog 45 [.agg [.val (.int .i64 c.N), .val (.int .i64 c.S), .val (.int .i64 c.T), .slc 0 0 c.First.length none, .slc 1 0 c.Head.length none, .slc 2 0 c.Rev.length none, .slc 3 0 c.Cap.length none, .slc 4 0 c.Arc.length none, .slc 5 0 c.Back.length none], .slc 6 0 f.length none, .slc 7 0 hh.length none] [SO.ints false .i64 c.First, SO.ints false .i64 c.Head, SO.ints false .i64 c.Rev, SO.ints false .i64 c.Cap, SO.ints false .i64 c.Arc, SO.bools false c.Back, SO.ints false .i64 f, SO.ints false .i64 hh] (fun s H => s = .slc 8 0 ((steepK c f hh f.length).length) none ∧ H = [SO.ints false .i64 c.First, SO.ints false .i64 c.Head, SO.ints false .i64 c.Rev, SO.ints false .i64 c.Cap, SO.ints false .i64 c.Arc, SO.bools false c.Back, SO.ints false .i64 f, SO.ints false .i64 hh, SO.ints true .i64 (steepK c f hh f.length)]) := by
  refine tri_of_w (fn := Try.f45) Try.func45 rfl (by simp [Try.f45]) ?_
  intro ρ w hρ
  refine w_seq ?_
  have hn := h.n
  have hS := h.s
  have hT := h.t
  have hsm := h.small
  -- region 0
  refine w_region ?_
  refine rw_t 3 rfl rfl rfl (n_box_agg (n := 8) rfl rfl ?_)
  refine rw_t 6 rfl rfl rfl (do_assign rfl ?_)
  refine rw_nil ?_
  refine w_seq ?_
  -- region 1
  refine w_region ?_
  refine rw_t 7 rfl rfl rfl (n_load_boxagg [_, _, _, _, _, _, _, _, _] rfl rfl (Nat.le_of_ble_eq_true rfl) rfl ?_)
  refine rw_t 8 rfl rfl rfl (do_move rfl ?_)
  refine rw_t 9 rfl rfl rfl (do_move rfl ?_)
  refine rw_t 10 rfl rfl rfl (n_callN (X' := .slc 9 0 ((steepK c f hh f.length).length) none) (N' := [SO.ints true .i64 (steepK c f hh f.length)]) rfl rfl (t_down (c := c) (f := f) (hh := hh) (h) (hf) (hl) (hP)) [0, 1, 2, 3, 4, 5, 6, 7] ⟨.inr ⟨_, rfl, srv⟩, .inr ⟨_, rfl, srv⟩, .inr ⟨_, rfl, srv⟩, .inr ⟨_, rfl, srv⟩, .inr ⟨_, rfl, srv⟩, .inr ⟨_, rfl, srv⟩, .inr ⟨_, rfl, srv⟩, .inr ⟨_, rfl, srv⟩, trivial⟩ rfl rfl rfl rfl rfl ?_)
  refine rw_t 6 rfl rfl rfl (do_assign rfl ?_)
  refine rw_nil ?_
  refine w_ret ?_
  exact ret_eq (.inl rfl) (.cons (res_tmp rfl) .nil) [0, 1, 2, 3, 4, 5, 6, 7, 9] (rfl) ⟨.inr ⟨_, rfl, .inl rfl⟩, .inr ⟨_, rfl, .inl rfl⟩, .inr ⟨_, rfl, .inl rfl⟩, .inr ⟨_, rfl, .inl rfl⟩, .inr ⟨_, rfl, .inl rfl⟩, .inr ⟨_, rfl, .inl rfl⟩, .inr ⟨_, rfl, .inl rfl⟩, .inr ⟨_, rfl, .inl rfl⟩, .inr ⟨_, rfl, .inl rfl⟩, trivial⟩ rfl (pre_ok rfl)
-- f22 "acequia/label.Valid"
set_option maxHeartbeats 8000000 in
set_option synthInstance.maxHeartbeats 400000 in
set_option synthInstance.maxSize 2000 in
theorem t_Valid (c : Csr) (f hh : List Int) (h : CsrT c) (hf : f.length = c.Head.length) (hl : (hh.length : Int) = c.N) : Tri Try.prog 22 [.agg [.val (.int .i64 c.N), .val (.int .i64 c.S), .val (.int .i64 c.T), .slc 0 0 c.First.length none, .slc 1 0 c.Head.length none, .slc 2 0 c.Rev.length none, .slc 3 0 c.Cap.length none, .slc 4 0 c.Arc.length none, .slc 5 0 c.Back.length none], .slc 6 0 f.length none, .slc 7 0 hh.length none] [SO.ints false .i64 c.First, SO.ints false .i64 c.Head, SO.ints false .i64 c.Rev, SO.ints false .i64 c.Cap, SO.ints false .i64 c.Arc, SO.bools false c.Back, SO.ints false .i64 f, SO.ints false .i64 hh] (fun s H => s = .val (.bool (decide (validP c f hh))) ∧ H = [SO.ints false .i64 c.First, SO.ints false .i64 c.Head, SO.ints false .i64 c.Rev, SO.ints false .i64 c.Cap, SO.ints false .i64 c.Arc, SO.bools false c.Back, SO.ints false .i64 f, SO.ints false .i64 hh]) := by
  refine tri_of_w (fn := Try.f22) Try.func22 rfl (by simp [Try.f22]) ?_
  intro ρ w hρ
  refine w_seq ?_
  have hn := h.n
  have hS := h.s
  have hT := h.t
  have hsm := h.small
  -- region 0
  refine w_region ?_
  refine rw_t 3 rfl rfl rfl (n_box_agg (n := 8) rfl rfl ?_)
  refine rw_t 6 rfl rfl rfl (do_assign rfl ?_)
  refine rw_nil ?_
  refine w_seq ?_
  -- region 1
  refine w_region ?_
  refine rw_t 7 rfl rfl rfl (n_load_boxagg [_, _, _, _, _, _, _, _, _] rfl rfl (Nat.le_of_ble_eq_true rfl) rfl ?_)
  refine rw_t 8 rfl rfl rfl (do_move rfl ?_)
  refine rw_t 9 rfl rfl rfl (do_move rfl ?_)
  refine rw_t 10 rfl rfl rfl (do_callR (X' := .val (.bool (decide (labP c hh)))) rfl rfl (t_may (c := c) (f := f) (hh := hh) (h) (hf) (hl)) [0, 1, 2, 3, 4, 5, 6, 7] ⟨.inr ⟨_, rfl, srv⟩, .inr ⟨_, rfl, srv⟩, .inr ⟨_, rfl, srv⟩, .inr ⟨_, rfl, srv⟩, .inr ⟨_, rfl, srv⟩, .inr ⟨_, rfl, srv⟩, .inr ⟨_, rfl, srv⟩, .inr ⟨_, rfl, srv⟩, trivial⟩ rfl rfl rfl ?_)
  refine rw_t 11 rfl rfl rfl (do_move rfl ?_)
  refine rw_case 11 rfl (fun g1 => ?_) (fun g1 => ?_)
  · have kg1 := g1
    try simp only [bs] at kg1
    refine rw_gt 12 4 11 true rfl rfl rfl rfl rfl rfl g1 (n_load_boxagg [_, _, _, _, _, _, _, _, _] rfl rfl (Nat.le_of_ble_eq_true rfl) rfl ?_)
    refine rw_gt 13 4 11 true rfl rfl rfl rfl rfl rfl g1 (do_move rfl ?_)
    refine rw_gt 14 4 11 true rfl rfl rfl rfl rfl rfl g1 (do_move rfl ?_)
    refine rw_gt 15 4 11 true rfl rfl rfl rfl rfl rfl g1 (n_callN (X' := .slc 9 0 ((steepK c f hh f.length).length) none) (N' := [SO.ints true .i64 (steepK c f hh f.length)]) rfl rfl (t_Steep (c := c) (f := f) (hh := hh) (h) (hf) (hl) (kg1)) [0, 1, 2, 3, 4, 5, 6, 7] ⟨.inr ⟨_, rfl, srv⟩, .inr ⟨_, rfl, srv⟩, .inr ⟨_, rfl, srv⟩, .inr ⟨_, rfl, srv⟩, .inr ⟨_, rfl, srv⟩, .inr ⟨_, rfl, srv⟩, .inr ⟨_, rfl, srv⟩, .inr ⟨_, rfl, srv⟩, trivial⟩ rfl rfl rfl rfl rfl ?_)
    refine rw_gt 16 4 11 true rfl rfl rfl rfl rfl rfl g1 (do_len rfl ?_)
    refine rw_gt 17 4 11 true rfl rfl rfl rfl rfl rfl g1 (do_bin rfl rfl rfl ?_)
    refine rw_t 18 rfl rfl rfl (do_pick_t rfl g1 rfl ?_)
    refine rw_t 6 rfl rfl rfl (do_assign rfl ?_)
    refine rw_nil ?_
    refine w_ret ?_
    exact ret_eq (.inl rfl) (.cons (res_tmp rfl) .nil) [0, 1, 2, 3, 4, 5, 6, 7] (Eq.symm (bool_congr (Bool.eq_iff_iff.2 (by rw [decide_eq_true_eq, beq_iff_eq]; exact ⟨fun q => q.2, fun q => ⟨kg1, q⟩⟩)))) ⟨.inr ⟨_, rfl, .inl rfl⟩, .inr ⟨_, rfl, .inl rfl⟩, .inr ⟨_, rfl, .inl rfl⟩, .inr ⟨_, rfl, .inl rfl⟩, .inr ⟨_, rfl, .inl rfl⟩, .inr ⟨_, rfl, .inl rfl⟩, .inr ⟨_, rfl, .inl rfl⟩, .inr ⟨_, rfl, .inl rfl⟩, trivial⟩ rfl (pre_ok rfl)
  · have kg1 := g1
    try simp only [bs] at kg1
    refine rw_gf 12 4 11 true rfl rfl rfl rfl rfl rfl (by rw [g1]; decide) ?_
    refine rw_gf 13 4 11 true rfl rfl rfl rfl rfl rfl (by rw [g1]; decide) ?_
    refine rw_gf 14 4 11 true rfl rfl rfl rfl rfl rfl (by rw [g1]; decide) ?_
    refine rw_gf 15 4 11 true rfl rfl rfl rfl rfl rfl (by rw [g1]; decide) ?_
    refine rw_gf 16 4 11 true rfl rfl rfl rfl rfl rfl (by rw [g1]; decide) ?_
    refine rw_gf 17 4 11 true rfl rfl rfl rfl rfl rfl (by rw [g1]; decide) ?_
    refine rw_t 18 rfl rfl rfl (do_pick_f rfl g1 rfl ?_)
    refine rw_t 6 rfl rfl rfl (do_assign rfl ?_)
    refine rw_nil ?_
    refine w_ret ?_
    exact ret_eq (.inl rfl) (.cons (res_tmp rfl) .nil) [0, 1, 2, 3, 4, 5, 6, 7] (Eq.symm (bool_congr (decide_eq_false (fun q => kg1 q.1)))) ⟨.inr ⟨_, rfl, .inl rfl⟩, .inr ⟨_, rfl, .inl rfl⟩, .inr ⟨_, rfl, .inl rfl⟩, .inr ⟨_, rfl, .inl rfl⟩, .inr ⟨_, rfl, .inl rfl⟩, .inr ⟨_, rfl, .inl rfl⟩, .inr ⟨_, rfl, .inl rfl⟩, .inr ⟨_, rfl, .inl rfl⟩, trivial⟩ rfl (pre_ok rfl)
end Go.Proofs

set_option linter.unusedVariables false
set_option linter.unusedSimpArgs false
namespace Go.Proofs
open Go Go.Sx Go.RowKit
theorem steepK_nil {c : Csr} {f hh : List Int} : ∀ k, (((steepK c f hh k).length : Nat) : Int) = 0 ↔ ∀ a : Nat, a < k → ¬ steepQ c f hh (a : Int)
  | 0 => by simp [steepK]
  | k + 1 => by
    have ih := steepK_nil (c := c) (f := f) (hh := hh) k
    unfold steepK
    by_cases hq : steepQ c f hh (k : Int)
    · rw [if_pos hq]
      constructor
      · intro h; rw [List.length_append, List.length_singleton] at h; omega
      · intro h; exact (h k (by omega) hq).elim
    · rw [if_neg hq, ih]
      constructor
      · intro h a ha
        rcases Nat.lt_or_ge a k with q | q
        · exact h a q
        · have : a = k := by omega
          rw [this]; exact hq
      · intro h a ha; exact h a (by omega)
theorem valid_iff {c : Csr} {f hh : List Int} : validP c f hh ↔ labP c hh ∧ ∀ a : Nat, a < f.length → ¬ steepQ c f hh (a : Int) := by
  unfold validP; rw [steepK_nil]
theorem least_le {c : Csr} {p : Pre} {a0 : Int} : ∀ {k j : Nat}, j < k → p.Res.getD (a0 + j).toNat 0 > 0 → (leastK c p a0 k).2 = true ∧ (leastK c p a0 k).1 ≤ p.H.getD (c.Head.getD (a0 + j).toNat 0).toNat 0
  | k + 1, j, hj, hr => by
    simp only [leastK]
    by_cases hc : p.Res.getD (a0 + k).toNat 0 > 0 ∧ (¬ (leastK c p a0 k).2 = true ∨ p.H.getD (c.Head.getD (a0 + k).toNat 0).toNat 0 < (leastK c p a0 k).1)
    · rw [if_pos hc]
      refine ⟨rfl, ?_⟩
      rcases Nat.lt_or_ge j k with q | q
      · obtain ⟨i1, i2⟩ := least_le (c := c) (p := p) (a0 := a0) q hr
        rcases hc.2 with w | w
        · exact (w i1).elim
        · show p.H.getD (c.Head.getD (a0 + k).toNat 0).toNat 0 ≤ _
          omega
      · have : j = k := by omega
        subst this
        exact Int.le_refl _
    · rw [if_neg hc]
      rcases Nat.lt_or_ge j k with q | q
      · exact least_le q hr
      · have : j = k := by omega
        subst this
        have h1 : ¬ (¬ (leastK c p a0 j).2 = true ∨ p.H.getD (c.Head.getD (a0 + j).toNat 0).toNat 0 < (leastK c p a0 j).1) := fun w => hc ⟨hr, w⟩
        have h2 : (leastK c p a0 j).2 = true := Decidable.byContradiction fun w => h1 (.inl w)
        exact ⟨h2, by
          have h3 : ¬ p.H.getD (c.Head.getD (a0 + j).toNat 0).toNat 0 < (leastK c p a0 j).1 := fun w => h1 (.inr w)
          omega⟩
theorem valid_beg {n : Net} (h : Small n) : validP (makeC n) (begP n).Res (begP n).H := by
  have hg := make_g h
  have hb := beg_right h
  have hN := hg.n
  have hcn : (makeC n).N = n.N := rfl
  have hcs : (makeC n).S = n.S := rfl
  have hH : ∀ v : Nat, v < n.N.toNat → (begP n).H.getD v 0 = if n.S.toNat = v then n.N else 0 := fun v hv => begH_get h.toNetOK hv
  have hS := hg.s
  rw [valid_iff]
  refine ⟨⟨fun v hv => ?_, hb.2.1.2.2, hb.2.1.2.1⟩, fun a ha hq => ?_⟩
  · rw [hH v (by omega)]; split <;> omega
  · have hl := hb.1.1
    obtain ⟨v, hv, -, ht, -⟩ := hg.toCsrT.tail_at (a := (a : Int)) (by omega) (by omega)
    obtain ⟨⟨q1, q2⟩, q3⟩ := hq
    have hd := hg.hd a (by omega)
    rw [Int.toNat_natCast, ht, hH _ (by omega), hH _ (by omega), if_neg (by omega)] at q3
    split at q3 <;> omega
theorem valid_does {c : Csr} (h : CsrG c) {p : Pre} (hp : rightP c p) (hv : validP c p.Res p.H) {e : Event} (hs : strictP c p e) (hn : ¬ (e.what = 2 ∧ e.h > c.N)) : validP c (doesP c p e).Res (doesP c p e).H := by
  obtain ⟨hl, hs⟩ := hs
  have hu := legal_u hl
  rw [valid_iff] at hv ⊢
  obtain ⟨⟨v1, v2, v3⟩, vs⟩ := hv
  have hln1 := hp.1.1
  have hln2 := hp.1.2.2
  have hN := h.n
  have hS := h.s
  have hT := h.t
  by_cases hw : e.what = 2
  · rw [if_neg (by omega)] at hs
    obtain ⟨s1, s2, s3, s4⟩ := hs
    obtain ⟨e1, e2, e3⟩ := lift_same (c := c) (p := p) hw
    have hg : ∀ v : Nat, (p.H.set e.u.toNat e.h).getD v 0 = if e.u.toNat = v then e.h else p.H.getD v 0 := fun v => getD_set _ _ _ _ (by omega)
    have hu1 := v1 e.u.toNat (by omega)
    have heN : e.h ≤ c.N := by
      rcases Int.lt_or_le c.N e.h with q | q
      · exact (hn ⟨hw, q⟩).elim
      · exact q
    rw [e1, e3]
    refine ⟨⟨fun v hv => ?_, ?_, ?_⟩, fun a ha hq => ?_⟩
    · rw [hg]; have := v1 v hv; split <;> omega
    · rw [hg, if_neg (by omega)]; exact v2
    · rw [hg, if_neg (by omega)]; exact v3
    · obtain ⟨⟨q1, q2⟩, q3⟩ := hq
      obtain ⟨v, hv, hti, ht, -⟩ := h.toCsrT.tail_at (a := (a : Int)) (by omega) (by omega)
      have hd := h.hd a (by omega)
      rw [Int.toNat_natCast] at q2 q3
      have hst : ¬ (p.H.getD (tailOf c a).toNat 0 - p.H.getD (c.Head.getD a 0).toNat 0 > 1) := fun w => vs a ha ⟨⟨q1, by rw [Int.toNat_natCast]; exact q2⟩, by rw [Int.toNat_natCast]; exact w⟩
      rw [hg, hg] at q3
      by_cases hx : e.u.toNat = (c.Head.getD a 0).toNat
      · rw [if_pos hx] at q3
        split at q3
        · omega
        · rw [← hx] at hst; omega
      · rw [if_neg hx] at q3
        split at q3
        · rename_i ht2
          have hev : e.u = (v : Int) := by omega
          have hmo : manyOf c e.u = (c.First.getD (v + 1) 0 - c.First.getD v 0).toNat := by
            unfold manyOf; rw [hev, show ((v : Int) + 1).toNat = v + 1 by omega, Int.toNat_natCast]
          have hf : c.First.getD e.u.toNat 0 = c.First.getD v 0 := by rw [hev, Int.toNat_natCast]
          obtain ⟨t1, t2⟩ := hti
          have hm0 := h.mono v hv
          have hle := least_le (c := c) (p := p) (a0 := c.First.getD v 0) (k := manyOf c e.u) (j := ((a : Int) - c.First.getD v 0).toNat) (by omega)
          rw [show (c.First.getD v 0 + (((a : Int) - c.First.getD v 0).toNat : Nat)).toNat = a by omega] at hle
          have h3 := (hle q2).2
          have h4 : (leastOf c p e.u).1 = (leastK c p (c.First.getD v 0) (manyOf c e.u)).1 := by unfold leastOf; rw [hf]
          omega
        · exact hst (by omega)
  · rw [if_pos (by omega)] at hs
    obtain ⟨s1, s2⟩ := hs
    have hi := legal_in h hl hw
    have hlp := legal_push hl hw
    have hres := push_res h hp ⟨hi.1, hi.2.1⟩ hw
    have hlen : (doesP c p e).Res.length = p.Res.length := (does_len c p e).1
    rw [push_H hw]
    refine ⟨⟨v1, v2, v3⟩, fun a ha hq => ?_⟩
    rw [hlen] at ha
    obtain ⟨⟨q1, q2⟩, q3⟩ := hq
    rw [Int.toNat_natCast] at q2 q3
    rw [hres] at q2
    by_cases hr : (c.Rev.getD e.arc.toNat 0).toNat = a
    · have hrv := h.rv e.arc.toNat (by omega)
      have r1 := h.rtl e.arc.toNat (by omega)
      have r2 := h.rtl (c.Rev.getD e.arc.toNat 0).toNat (by omega)
      have r3 := h.rrv e.arc.toNat (by omega)
      rw [show ((e.arc.toNat : Nat) : Int) = e.arc by omega] at r1 r3
      rw [r3] at r2
      rw [hr] at r1 r2
      have r4 : tailOf c (a : Int) = c.Head.getD e.arc.toNat 0 := r2
      have r5 : c.Head.getD a 0 = e.u := by rw [← r1]; exact hi.2.2
      rw [r4, r5] at q3
      omega
    · rw [if_neg hr] at q2
      refine vs a ha ⟨⟨q1, ?_⟩, by rw [Int.toNat_natCast]; exact q3⟩
      rw [Int.toNat_natCast]
      split at q2 <;> omega
end Go.Proofs
