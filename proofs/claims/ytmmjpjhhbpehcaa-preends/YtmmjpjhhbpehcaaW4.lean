/- If nobody is active what is left is of a flow, T is not reached from S, and no flow is worth more. Part 4. -/
import Derived.Test.YtmmjpjhhbpehcaaW3
set_option linter.unusedVariables false
set_option linter.unusedSimpArgs false
set_option linter.unusedVariables false
set_option linter.unusedSimpArgs false
namespace Go.Proofs
open Go Go.Sx Go.RowKit
theorem selK_push {q : Int → Bool} {k i : Nat} {z : Int} (h : q ((k + i : Nat) : Int) = true) (hz : z = ((k + i : Nat) : Int)) : selK q (k + (i + 1)) = selK q (k + i) ++ [z] := by rw [hz]; exact selK_one h
theorem selK_skip {q : Int → Bool} {k i : Nat} (h : ¬ q ((k + i : Nat) : Int) = true) : selK q (k + (i + 1)) = selK q (k + i) := selK_none h
set_option maxHeartbeats 8000000 in
set_option synthInstance.maxHeartbeats 400000 in
set_option synthInstance.maxSize 2000 in
theorem t_May (c : Csr) (p : Pre) (h : CsrT c) (hp : PreIn c p) : Tri Try.prog 17 [.agg [.val (.int .i64 c.N), .val (.int .i64 c.S), .val (.int .i64 c.T), .slc 0 0 c.First.length none, .slc 1 0 c.Head.length none, .slc 2 0 c.Rev.length none, .slc 3 0 c.Cap.length none, .slc 4 0 c.Arc.length none, .slc 5 0 c.Back.length none], .agg [.slc 6 0 p.Res.length none, .slc 7 0 p.Ex.length none, .slc 8 0 p.H.length none]] [SO.ints false .i64 c.First, SO.ints false .i64 c.Head, SO.ints false .i64 c.Rev, SO.ints false .i64 c.Cap, SO.ints false .i64 c.Arc, SO.bools false c.Back, SO.ints false .i64 p.Res, SO.ints false .i64 p.Ex, SO.ints false .i64 p.H] (fun s H => s = .tup [.slc 9 0 ((pushL c p).length) none, .slc 10 0 ((stuckL c p).length) none] ∧ H = [SO.ints false .i64 c.First, SO.ints false .i64 c.Head, SO.ints false .i64 c.Rev, SO.ints false .i64 c.Cap, SO.ints false .i64 c.Arc, SO.bools false c.Back, SO.ints false .i64 p.Res, SO.ints false .i64 p.Ex, SO.ints false .i64 p.H, SO.ints true .i64 (pushL c p), SO.ints true .i64 (stuckL c p)]) := by
  refine tri_of_w (fn := Try.f17) Try.func17 rfl (by simp [Try.f17]) ?_
  intro ρ w hρ
  refine w_seq ?_
  have hn := h.n
  have hf := h.first
  have hhd := h.head
  have hrl := h.rev
  have hcl := h.cap
  have hal := h.arc
  have hbl := h.back
  have hr := hp.res
  have hx := hp.ex
  have hh := hp.h
  have hsm := h.small
  have hf0 := h.f0
  have hfN := h.fN
  refine w_region ?_
  refine rw_t 2 rfl rfl rfl (n_box_agg (n := 9) rfl rfl ?_)
  refine rw_t 3 rfl rfl rfl (n_box_agg (n := 10) rfl rfl ?_)
  refine rw_t 4 rfl rfl rfl (do_assign rfl ?_)
  refine rw_t 5 rfl rfl rfl (do_assign rfl ?_)
  refine rw_nil ?_
  refine w_seq ?_
  refine w_region ?_
  refine rw_t 6 rfl rfl rfl (n_alloc (n := 11) rfl ?_)
  refine rw_nil ?_
  refine w_seq ?_
  refine w_seq ?_
  refine w_region ?_
  refine rw_t 9 rfl rfl rfl (do_fieldaddr rfl ?_)
  refine rw_t 10 rfl rfl rfl (do_load_box rfl rfl rfl ?_)
  refine rw_t 11 rfl rfl rfl (do_move rfl ?_)
  refine rw_nil ?_
  refine w_block ?_
  refine n_ghost Int 1 (encI .i64) 0 (fun _ => rfl) (fun _ _ h => by simp [encI] at h; subst h; rfl) ?_
  refine n_nilB 11 0 12 0 rfl rfl ?_
  refine w_loopS (ι := Nat) (fun v => [(2, .ptr 9 0 0), (3, .ptr 10 0 0), (4, .val (.slice none 0 0)), (5, .val (.slice none 0 0)), (6, .ptr 11 0 0), (10, .val (.int .i64 c.N)), (11, .val (.int .i64 ((v : Nat) : Int)))]) (fun v => [SO.ints false .i64 c.First, SO.ints false .i64 c.Head, SO.ints false .i64 c.Rev, SO.ints false .i64 c.Cap, SO.ints false .i64 c.Arc, SO.bools false c.Back, SO.ints false .i64 p.Res, SO.ints false .i64 p.Ex, SO.ints false .i64 p.H, .box [.val (.int .i64 c.N), .val (.int .i64 c.S), .val (.int .i64 c.T), .slc 0 0 c.First.length none, .slc 1 0 c.Head.length none, .slc 2 0 c.Rev.length none, .slc 3 0 c.Cap.length none, .slc 4 0 c.Arc.length none, .slc 5 0 c.Back.length none], .box [.slc 6 0 p.Res.length none, .slc 7 0 p.Ex.length none, .slc 8 0 p.H.length none], .box [.slc 12 0 ((selK (pusQ c p) (c.First.getD v 0).toNat).length) none], SO.ints true .i64 (selK (pusQ c p) (c.First.getD v 0).toNat)]) (fun v => c.N.toNat - v) (fun v => v ≤ c.N.toNat) (0) [0, 1, 2, 3, 4, 5, 6, 7, 8, 9, 10, 11, 12] (by simp) ⟨shR rfl, shR rfl, shR rfl, shR rfl, shR rfl, shR rfl, shR rfl, shR rfl, shR rfl, shR rfl, shR rfl, .inr ⟨_, rfl, .inl (box_congr (cons_congr (congrArg (fun n => SV.slc 12 0 n none) (by rw [hf0]; rfl)) ((rfl : ([] : List SV) = []))))⟩, .inr ⟨_, rfl, .inl (congrArg (SO.ints true .i64) (by rw [hf0]; rfl))⟩, trivial⟩ rfl (pre_ok rfl) hρ ⟨⟨_, rfl, rfl⟩, ⟨_, rfl, rfl⟩, ⟨_, rfl, rfl⟩, ⟨_, rfl, rfl⟩, ⟨_, rfl, rfl⟩, ⟨_, rfl, rfl⟩, ⟨_, rfl, rfl⟩, trivial⟩ ?_
  intro v hv
  refine w_seq ?_
  refine w_region ?_
  refine rw_t 12 rfl rfl rfl (do_bin rfl rfl rfl ?_)
  refine rw_nil ?_
  refine w_seq ?_
  refine w_cond rfl (fun hc1 => ?_) (fun hc1 => ?_)
  all_goals try simp only [bs] at hc1
  rotate_left
  · refine w_exit ?_
    refine w_seq ?_
    refine w_env [(2, .ptr 9 0 0), (3, .ptr 10 0 0), (6, .ptr 11 0 0)] ⟨⟨_, rfl, rfl⟩, ⟨_, rfl, rfl⟩, ⟨_, rfl, rfl⟩, trivial⟩ ?_
    refine w_draw mixed [0, 0, 0, 6] [15, 31] (by kernel_rfl) (by kernel_rfl) rfl rfl rfl (hle hρ rfl) ?_
    refine ra_q (j := 0) rfl rfl rfl rfl (do_load_box rfl rfl rfl ⟨rfl, rfl⟩) (by rfl) ?_
    refine ra_q (j := 1) rfl rfl rfl rfl (n_load_boxagg [_, _, _, _, _, _, _, _, _] rfl rfl (Nat.le_of_ble_eq_true rfl) rfl ⟨rfl, rfl⟩) (by rfl) ?_
    refine ra_q (j := 2) rfl rfl rfl rfl (do_makefunc rfl rfl ⟨rfl, rfl⟩) (by rfl) ?_
    refine ra_n (j := 3) rfl rfl rfl rfl (n_callW (X' := .slc 13 0 ((selK (stuQ c p) c.N.toNat).length) none) (H' := [SO.ints false .i64 c.First, SO.ints false .i64 c.Head, SO.ints false .i64 c.Rev, SO.ints false .i64 c.Cap, SO.ints false .i64 c.Arc, SO.bools false c.Back, SO.ints false .i64 p.Res, SO.ints false .i64 p.Ex, SO.ints false .i64 p.H, .box [.val (.int .i64 c.N), .val (.int .i64 c.S), .val (.int .i64 c.T), .slc 0 0 c.First.length none, .slc 1 0 c.Head.length none, .slc 2 0 c.Rev.length none, .slc 3 0 c.Cap.length none, .slc 4 0 c.Arc.length none, .slc 5 0 c.Back.length none], .box [.slc 6 0 p.Res.length none, .slc 7 0 p.Ex.length none, .slc 8 0 p.H.length none], .box [.slc 12 0 ((selK (pusQ c p) (c.First.getD v 0).toNat).length) none], SO.ints true .i64 (selK (pusQ c p) (c.First.getD v 0).toNat), SO.ints true .i64 (selK (stuQ c p) c.N.toNat)]) rfl rfl (t_allM (c := c) (p := p) (h) (hp)) [0, 1, 2, 3, 4, 5, 6, 7, 8, 9, 10] ⟨.inr ⟨_, rfl, srv⟩, .inr ⟨_, rfl, srv⟩, .inr ⟨_, rfl, srv⟩, .inr ⟨_, rfl, srv⟩, .inr ⟨_, rfl, srv⟩, .inr ⟨_, rfl, srv⟩, .inr ⟨_, rfl, srv⟩, .inr ⟨_, rfl, srv⟩, .inr ⟨_, rfl, srv⟩, shR rfl, shR rfl, trivial⟩ rfl rfl ⟨fun h => (by cases h), ⟨fun h => (by cases h), ⟨fun h => (by cases h), ⟨fun h => (by cases h), ⟨fun h => (by cases h), ⟨fun h => (by cases h), ⟨fun h => (by cases h), ⟨fun h => (by cases h), ⟨fun h => (by cases h), ⟨fun h => .inl rfl, ⟨fun h => .inl rfl, (okNew_tail rfl)⟩⟩⟩⟩⟩⟩⟩⟩⟩⟩⟩ rfl rfl ⟨rfl, rfl⟩) (by rfl) (by rfl) (by rfl) ?_
    refine n_done ?_
    refine rw_t 4 rfl rfl rfl (do_assign rfl ?_)
    refine rw_t 5 rfl rfl rfl (do_assign rfl ?_)
    refine rw_nil ?_
    have hv' : v = c.N.toNat := by omega
    subst hv'
    have hend : (c.First.getD c.N.toNat 0).toNat = c.Head.length := by omega
    refine w_ret ?_
    exact ret_eq (.inl rfl) (.cons (res_tmp rfl) (.cons (res_tmp rfl) .nil)) [0, 1, 2, 3, 4, 5, 6, 7, 8, 12, 13] (by unfold pushL stuckL; rw [← hend]; rfl) ⟨shR rfl, shR rfl, shR rfl, shR rfl, shR rfl, shR rfl, shR rfl, shR rfl, shR rfl, .inr ⟨_, rfl, .inl (congrArg (SO.ints true .i64) (by unfold pushL; rw [← hend]))⟩, shR rfl, trivial⟩ rfl (pre_ok rfl)
  refine w_skip ?_
  refine w_seq ?_
  refine w_block ?_
  refine w_seq ?_
  have hu : 0 ≤ ((v : Nat) : Int) ∧ ((v : Nat) : Int) < c.N := by omega
  have hm := h.mono v (by omega)
  have hv1 : ((v : Nat) : Int).toNat = v := Int.toNat_natCast v
  have hv2 : (((v : Nat) : Int) + 1).toNat = v + 1 := by omega
  have hsl := selK_len (pusQ c p) (c.First.getD v 0).toNat
  refine w_region ?_
  refine rw_t 13 rfl rfl rfl (do_move rfl ?_)
  refine rw_t 7 rfl rfl rfl (n_alloc (n := 13) rfl ?_)
  refine rw_u rfl rfl (n_store_box (f := 0) rfl rfl rfl (Nat.le_of_ble_eq_true rfl) rfl ?_)
  refine rw_nil ?_
  refine w_seq ?_
  refine w_region ?_
  refine rw_t 14 rfl rfl rfl (n_load_boxagg [_, _, _, _, _, _, _, _, _] rfl rfl (Nat.le_of_ble_eq_true rfl) rfl ?_)
  refine rw_t 15 rfl rfl rfl (do_load_box rfl rfl rfl ?_)
  refine rw_t 16 rfl rfl rfl (n_callN (X' := .func 75 [] [.ptr 14 0 0, .ptr 15 0 0]) (N' := [.box [.val (.int .i64 c.N), .val (.int .i64 c.S), .val (.int .i64 c.T), .slc 0 0 c.First.length none, .slc 1 0 c.Head.length none, .slc 2 0 c.Rev.length none, .slc 3 0 c.Cap.length none, .slc 4 0 c.Arc.length none, .slc 5 0 c.Back.length none], .box [.val (.int .i64 ((v : Nat) : Int))]]) rfl rfl (t_arcs (c := c) (u := ((v : Nat) : Int))) [0, 1, 2, 3, 4, 5] ⟨.inr ⟨_, rfl, srv⟩, .inr ⟨_, rfl, srv⟩, .inr ⟨_, rfl, srv⟩, .inr ⟨_, rfl, srv⟩, .inr ⟨_, rfl, srv⟩, .inr ⟨_, rfl, srv⟩, trivial⟩ rfl rfl rfl rfl rfl ?_)
  refine rw_nil ?_
  refine w_block ?_
  refine w_rf [(2, .ptr 9 0 0), (3, .ptr 10 0 0), (4, .val (.slice none 0 0)), (5, .val (.slice none 0 0)), (6, .ptr 11 0 0), (7, .ptr 13 0 0), (10, .val (.int .i64 c.N)), (11, .val (.int .i64 ((v : Nat) : Int))), (12, .val (.bool (decide (((v : Nat) : Int) < c.N)))), (13, .val (.int .i64 ((v : Nat) : Int))), (14, .agg [.val (.int .i64 c.N), .val (.int .i64 c.S), .val (.int .i64 c.T), .slc 0 0 c.First.length none, .slc 1 0 c.Head.length none, .slc 2 0 c.Rev.length none, .slc 3 0 c.Cap.length none, .slc 4 0 c.Arc.length none, .slc 5 0 c.Back.length none]), (15, .val (.int .i64 ((v : Nat) : Int))), (16, .func 75 [] [.ptr 14 0 0, .ptr 15 0 0])] 16 [.yield 16, .ptr 14 0 0, .ptr 15 0 0] (fun q1 => [SO.ints false .i64 c.First, SO.ints false .i64 c.Head, SO.ints false .i64 c.Rev, SO.ints false .i64 c.Cap, SO.ints false .i64 c.Arc, SO.bools false c.Back, SO.ints false .i64 p.Res, SO.ints false .i64 p.Ex, SO.ints false .i64 p.H, .box [.val (.int .i64 c.N), .val (.int .i64 c.S), .val (.int .i64 c.T), .slc 0 0 c.First.length none, .slc 1 0 c.Head.length none, .slc 2 0 c.Rev.length none, .slc 3 0 c.Cap.length none, .slc 4 0 c.Arc.length none, .slc 5 0 c.Back.length none], .box [.slc 6 0 p.Res.length none, .slc 7 0 p.Ex.length none, .slc 8 0 p.H.length none], .box [.slc 12 0 ((selK (pusQ c p) (c.First.getD v 0).toNat).length) none], SO.ints true .i64 (selK (pusQ c p) (c.First.getD v 0).toNat), .box [.val (.int .i64 ((v : Nat) : Int))], .box [.val (.int .i64 c.N), .val (.int .i64 c.S), .val (.int .i64 c.T), .slc 0 0 c.First.length none, .slc 1 0 c.Head.length none, .slc 2 0 c.Rev.length none, .slc 3 0 c.Cap.length none, .slc 4 0 c.Arc.length none, .slc 5 0 c.Back.length none], .box [.val (.int .i64 ((v : Nat) : Int))], .gen [.ptr 9 0 0, .ptr 10 0 0, .val (.slice none 0 0), .val (.slice none 0 0), .ptr 11 0 0, .ptr 13 0 0, .val (.int .i64 c.N), .val (.int .i64 ((v : Nat) : Int)), .val (.bool (decide (((v : Nat) : Int) < c.N))), .val (.int .i64 ((v : Nat) : Int)), .agg [.val (.int .i64 c.N), .val (.int .i64 c.S), .val (.int .i64 c.T), .slc 0 0 c.First.length none, .slc 1 0 c.Head.length none, .slc 2 0 c.Rev.length none, .slc 3 0 c.Cap.length none, .slc 4 0 c.Arc.length none, .slc 5 0 c.Back.length none], .val (.int .i64 ((v : Nat) : Int)), .func 75 [] [.ptr 14 0 0, .ptr 15 0 0]] (q1 .ready none)]) rfl rfl rfl rfl (fun _ => rfl) ⟨⟨_, rfl, rfl⟩, ⟨_, rfl, rfl⟩, ⟨_, rfl, rfl⟩, ⟨_, rfl, rfl⟩, ⟨_, rfl, rfl⟩, ⟨_, rfl, rfl⟩, ⟨_, rfl, rfl⟩, ⟨_, rfl, rfl⟩, ⟨_, rfl, rfl⟩, ⟨_, rfl, rfl⟩, ⟨_, rfl, rfl⟩, ⟨_, rfl, rfl⟩, ⟨_, rfl, rfl⟩, trivial⟩ (fun q1 hq1 => ?_)
  refine tri_of_w (fn := Try.f75) Try.func75 rfl (by simp [Try.f75]) ?_
  intro ρr1 wr1 hρ1
  refine w_seq ?_
  refine w_region ?_
  refine rw_t 5 rfl rfl rfl (do_fieldaddr rfl ?_)
  refine rw_t 6 rfl rfl rfl (do_load_box rfl rfl rfl ?_)
  refine rw_t 7 rfl rfl rfl (do_load_box rfl rfl rfl ?_)
  refine rw_t 8 rfl rfl rfl (do_ix0 rfl rfl rfl (by first | omega | (simp only [ls] <;> omega)) ?_)
  refine rw_t 9 rfl rfl rfl (do_load_arr rfl rfl (by first | omega | (simp only [ls] <;> omega)) rfl ?_)
  refine rw_t 4 rfl rfl rfl (do_assign rfl ?_)
  refine rw_nil ?_
  refine w_block ?_
  refine w_loopS (ι := Nat) (fun i => [(0, .yield 16), (1, .ptr 14 0 0), (2, .ptr 15 0 0), (4, .val (.int .i64 (c.First.getD ((v : Nat) : Int).toNat 0 + (i : Int))))]) (fun i => [SO.ints false .i64 c.First, SO.ints false .i64 c.Head, SO.ints false .i64 c.Rev, SO.ints false .i64 c.Cap, SO.ints false .i64 c.Arc, SO.bools false c.Back, SO.ints false .i64 p.Res, SO.ints false .i64 p.Ex, SO.ints false .i64 p.H, .box [.val (.int .i64 c.N), .val (.int .i64 c.S), .val (.int .i64 c.T), .slc 0 0 c.First.length none, .slc 1 0 c.Head.length none, .slc 2 0 c.Rev.length none, .slc 3 0 c.Cap.length none, .slc 4 0 c.Arc.length none, .slc 5 0 c.Back.length none], .box [.slc 6 0 p.Res.length none, .slc 7 0 p.Ex.length none, .slc 8 0 p.H.length none], .box [.slc 17 0 ((selK (pusQ c p) ((c.First.getD v 0).toNat + i)).length) none], .dead, .box [.val (.int .i64 ((v : Nat) : Int))], .box [.val (.int .i64 c.N), .val (.int .i64 c.S), .val (.int .i64 c.T), .slc 0 0 c.First.length none, .slc 1 0 c.Head.length none, .slc 2 0 c.Rev.length none, .slc 3 0 c.Cap.length none, .slc 4 0 c.Arc.length none, .slc 5 0 c.Back.length none], .box [.val (.int .i64 ((v : Nat) : Int))], .gen [.ptr 9 0 0, .ptr 10 0 0, .val (.slice none 0 0), .val (.slice none 0 0), .ptr 11 0 0, .ptr 13 0 0, .val (.int .i64 c.N), .val (.int .i64 ((v : Nat) : Int)), .val (.bool (decide (((v : Nat) : Int) < c.N))), .val (.int .i64 ((v : Nat) : Int)), .agg [.val (.int .i64 c.N), .val (.int .i64 c.S), .val (.int .i64 c.T), .slc 0 0 c.First.length none, .slc 1 0 c.Head.length none, .slc 2 0 c.Rev.length none, .slc 3 0 c.Cap.length none, .slc 4 0 c.Arc.length none, .slc 5 0 c.Back.length none], .val (.int .i64 ((v : Nat) : Int)), .func 75 [] [.ptr 14 0 0, .ptr 15 0 0]] (q1 .ready none), SO.ints true .i64 (selK (pusQ c p) ((c.First.getD v 0).toNat + i))]) (fun i => (c.First.getD (v + 1) 0 - c.First.getD v 0).toNat - i) (fun i => i ≤ (c.First.getD (v + 1) 0 - c.First.getD v 0).toNat) (0) [0, 1, 2, 3, 4, 5, 6, 7, 8, 9, 10, 11, 12, 13, 14, 15, 16, 12] (by simp) ⟨shR rfl, shR rfl, shR rfl, shR rfl, shR rfl, shR rfl, shR rfl, shR rfl, shR rfl, shR rfl, shR rfl, shR rfl, .inl rfl, shR rfl, shR rfl, shR rfl, shR rfl, shR rfl, trivial⟩ rfl (pre_ok rfl) hρ1 ⟨⟨_, rfl, rfl⟩, ⟨_, rfl, rfl⟩, ⟨_, rfl, rfl⟩, ⟨_, rfl, Eq.symm (val_congr (by simp))⟩, trivial⟩ ?_
  intro i hi
  refine w_seq ?_
  refine w_seq ?_
  refine w_region ?_
  refine rw_t 10 rfl rfl rfl (do_move rfl ?_)
  refine rw_t 11 rfl rfl rfl (do_fieldaddr rfl ?_)
  refine rw_t 12 rfl rfl rfl (do_load_box rfl rfl rfl ?_)
  refine rw_t 13 rfl rfl rfl (do_load_box rfl rfl rfl ?_)
  refine rw_t 14 rfl rfl rfl (do_add rfl rfl (by omega) ?_)
  refine rw_t 15 rfl rfl rfl (do_ix0 rfl rfl rfl (by first | omega | (simp only [ls] <;> omega)) ?_)
  refine rw_t 16 rfl rfl rfl (do_load_arr rfl rfl (by first | omega | (simp only [ls] <;> omega)) rfl ?_)
  refine rw_t 17 rfl rfl rfl (do_bin rfl rfl rfl ?_)
  refine rw_nil ?_
  refine w_cond rfl (fun hc2 => ?_) (fun hc2 => ?_)
  all_goals try simp only [bs] at hc2
  rotate_left
  · refine w_exit ?_
    refine ret_iter (.inr rfl) rfl (Y := [SO.ints false .i64 c.First, SO.ints false .i64 c.Head, SO.ints false .i64 c.Rev, SO.ints false .i64 c.Cap, SO.ints false .i64 c.Arc, SO.bools false c.Back, SO.ints false .i64 p.Res, SO.ints false .i64 p.Ex, SO.ints false .i64 p.H, .box [.val (.int .i64 c.N), .val (.int .i64 c.S), .val (.int .i64 c.T), .slc 0 0 c.First.length none, .slc 1 0 c.Head.length none, .slc 2 0 c.Rev.length none, .slc 3 0 c.Cap.length none, .slc 4 0 c.Arc.length none, .slc 5 0 c.Back.length none], .box [.slc 6 0 p.Res.length none, .slc 7 0 p.Ex.length none, .slc 8 0 p.H.length none], .box [.slc 17 0 ((selK (pusQ c p) ((c.First.getD v 0).toNat + i)).length) none], .dead, .box [.val (.int .i64 ((v : Nat) : Int))], .box [.val (.int .i64 c.N), .val (.int .i64 c.S), .val (.int .i64 c.T), .slc 0 0 c.First.length none, .slc 1 0 c.Head.length none, .slc 2 0 c.Rev.length none, .slc 3 0 c.Cap.length none, .slc 4 0 c.Arc.length none, .slc 5 0 c.Back.length none], .box [.val (.int .i64 ((v : Nat) : Int))], .gen [.ptr 9 0 0, .ptr 10 0 0, .val (.slice none 0 0), .val (.slice none 0 0), .ptr 11 0 0, .ptr 13 0 0, .val (.int .i64 c.N), .val (.int .i64 ((v : Nat) : Int)), .val (.bool (decide (((v : Nat) : Int) < c.N))), .val (.int .i64 ((v : Nat) : Int)), .agg [.val (.int .i64 c.N), .val (.int .i64 c.S), .val (.int .i64 c.T), .slc 0 0 c.First.length none, .slc 1 0 c.Head.length none, .slc 2 0 c.Rev.length none, .slc 3 0 c.Cap.length none, .slc 4 0 c.Arc.length none, .slc 5 0 c.Back.length none], .val (.int .i64 ((v : Nat) : Int)), .func 75 [] [.ptr 14 0 0, .ptr 15 0 0]] (q1 .ready none), SO.ints true .i64 (selK (pusQ c p) ((c.First.getD v 0).toNat + i))]) [0, 1, 2, 3, 4, 5, 6, 7, 8, 9, 10, 11, 12, 13, 14, 15, 16, 17] ⟨shR rfl, shR rfl, shR rfl, shR rfl, shR rfl, shR rfl, shR rfl, shR rfl, shR rfl, shR rfl, shR rfl, shR rfl, .inl rfl, shR rfl, shR rfl, shR rfl, shR rfl, shR rfl, trivial⟩ rfl (pre_ok rfl) ?_
    refine iter_none rfl ?_
    refine w_region ?_
    refine rw_t 33 rfl rfl rfl (do_add rfl rfl (by omega) ?_)
    refine rw_t 11 rfl rfl rfl (do_move rfl ?_)
    refine rw_nil ?_
    rw [hv1, hv2] at hc2
    have hend : (c.First.getD v 0).toNat + i = (c.First.getD (v + 1) 0).toNat := by omega
    refine ⟨v + 1, [0, 1, 2, 3, 4, 5, 6, 7, 8, 9, 10, 11, 17], by dsimp only; omega, by omega, ⟨shR rfl, shR rfl, shR rfl, shR rfl, shR rfl, shR rfl, shR rfl, shR rfl, shR rfl, shR rfl, shR rfl, .inr ⟨_, rfl, .inl (box_congr (cons_congr (congrArg (fun n => SV.slc 17 0 n none) (by rw [hend])) ((rfl : ([] : List SV) = []))))⟩, .inr ⟨_, rfl, .inl (congrArg (SO.ints true .i64) (by rw [hend]))⟩, trivial⟩, rfl, pre_ok rfl, ⟨⟨_, rfl, rfl⟩, ⟨_, rfl, rfl⟩, ⟨_, rfl, rfl⟩, ⟨_, rfl, rfl⟩, ⟨_, rfl, rfl⟩, ⟨_, rfl, rfl⟩, ⟨_, rfl, rfl⟩, trivial⟩⟩
  refine w_skip ?_
  refine w_seq ?_
  refine w_block ?_
  refine w_seq ?_
  refine w_region ?_
  refine rw_t 20 rfl rfl rfl (do_move rfl ?_)
  refine rw_t 21 rfl rfl rfl (do_move rfl ?_)
  refine rw_t 22 rfl rfl rfl (do_yieldQ [(17, .val (.int .i64 (c.First.getD ((v : Nat) : Int).toNat 0 + (i : Int)))), (2, .ptr 9 0 0), (3, .ptr 10 0 0), (4, .val (.slice none 0 0)), (5, .val (.slice none 0 0)), (6, .ptr 11 0 0), (7, .ptr 13 0 0), (10, .val (.int .i64 c.N)), (11, .val (.int .i64 ((v : Nat) : Int))), (12, .val (.bool (decide (((v : Nat) : Int) < c.N)))), (13, .val (.int .i64 ((v : Nat) : Int))), (14, .agg [.val (.int .i64 c.N), .val (.int .i64 c.S), .val (.int .i64 c.T), .slc 0 0 c.First.length none, .slc 1 0 c.Head.length none, .slc 2 0 c.Rev.length none, .slc 3 0 c.Cap.length none, .slc 4 0 c.Arc.length none, .slc 5 0 c.Back.length none]), (15, .val (.int .i64 ((v : Nat) : Int))), (16, .func 75 [] [.ptr 14 0 0, .ptr 15 0 0])] hq1 rfl rfl rfl rfl rfl rfl (fun ρr2 wr2 lr2 hρ2 => ?_))
  refine w_region ?_
  refine rw_t 8 rfl rfl rfl (do_assign rfl ?_)
  refine rw_nil ?_
  refine asg_done rfl ?_
  refine w_block ?_
  rw [hv1, hv2] at hc2
  have ht7 := tail_of_arc h (u := ((v : Nat) : Int)) (a := c.First.getD ((v : Nat) : Int).toNat 0 + (i : Int)) hu (by omega) (by rw [hv1]; omega)
  have hk7 : (((c.First.getD v 0).toNat + i : Nat) : Int) = c.First.getD ((v : Nat) : Int).toNat 0 + (i : Int) := by rw [hv1]; omega
  have hsi := selK_len (pusQ c p) ((c.First.getD v 0).toNat + i)
  refine w_seqB 28 ((activeP c p ((v : Nat) : Int) ∧ admP c p ((v : Nat) : Int) (c.First.getD ((v : Nat) : Int).toNat 0 + (i : Int)))) ?_ ?_
  · -- region 7
    refine w_region ?_
    refine rw_t 18 rfl rfl rfl (n_load_boxagg [_, _, _, _, _, _, _, _, _] rfl rfl (Nat.le_of_ble_eq_true rfl) rfl ?_)
    refine rw_t 19 rfl rfl rfl (n_load_boxagg [_, _, _] rfl rfl (Nat.le_of_ble_eq_true rfl) rfl ?_)
    refine rw_t 20 rfl rfl rfl (do_load_box rfl rfl rfl ?_)
    refine rw_t 21 rfl rfl rfl (do_callR (X' := .val (.bool (decide (activeP c p ((v : Nat) : Int))))) rfl rfl (t_active (c := c) (p := p) (u := ((v : Nat) : Int)) (h) (hp) (hu)) [0, 1, 2, 3, 4, 5, 6, 7, 8] ⟨.inr ⟨_, rfl, srv⟩, .inr ⟨_, rfl, srv⟩, .inr ⟨_, rfl, srv⟩, .inr ⟨_, rfl, srv⟩, .inr ⟨_, rfl, srv⟩, .inr ⟨_, rfl, srv⟩, .inr ⟨_, rfl, srv⟩, .inr ⟨_, rfl, srv⟩, .inr ⟨_, rfl, srv⟩, trivial⟩ rfl rfl rfl ?_)
    refine rw_t 22 rfl rfl rfl (do_move rfl ?_)
    refine rw_case 22 rfl (fun g1 => ?_) (fun g1 => ?_)
    · have kg1 := g1
      try simp only [bs] at kg1
      refine rw_gt 23 4 22 true rfl rfl rfl rfl rfl rfl g1 (n_load_boxagg [_, _, _, _, _, _, _, _, _] rfl rfl (Nat.le_of_ble_eq_true rfl) rfl ?_)
      refine rw_gt 24 4 22 true rfl rfl rfl rfl rfl rfl g1 (n_load_boxagg [_, _, _] rfl rfl (Nat.le_of_ble_eq_true rfl) rfl ?_)
      refine rw_gt 25 4 22 true rfl rfl rfl rfl rfl rfl g1 (do_load_box rfl rfl rfl ?_)
      refine rw_gt 26 4 22 true rfl rfl rfl rfl rfl rfl g1 (do_move rfl ?_)
      refine rw_gt 27 4 22 true rfl rfl rfl rfl rfl rfl g1 (do_callR (X' := .val (.bool (decide (admP c p ((v : Nat) : Int) (c.First.getD ((v : Nat) : Int).toNat 0 + (i : Int)))))) rfl rfl (t_adm (c := c) (p := p) (u := ((v : Nat) : Int)) (a := (c.First.getD ((v : Nat) : Int).toNat 0 + (i : Int))) (h) (hp) (hu) (⟨ht7.1, ht7.2.1⟩)) [0, 1, 2, 3, 4, 5, 6, 7, 8] ⟨.inr ⟨_, rfl, srv⟩, .inr ⟨_, rfl, srv⟩, .inr ⟨_, rfl, srv⟩, .inr ⟨_, rfl, srv⟩, .inr ⟨_, rfl, srv⟩, .inr ⟨_, rfl, srv⟩, .inr ⟨_, rfl, srv⟩, .inr ⟨_, rfl, srv⟩, .inr ⟨_, rfl, srv⟩, trivial⟩ rfl rfl rfl ?_)
      refine rw_t 28 rfl rfl rfl (do_pick_t rfl g1 rfl ?_)
      refine rw_nil ?_
      refine ⟨rfl, ⟨_, rfl, by first | (simp; done) | (simp only [bs]; omega) | (simp [*]; done) | (simp; omega) | (constructor <;> intro h <;> simp_all <;> omega)⟩, ?_⟩
      repeat (refine ⟨⟨_, rfl, rfl⟩, ?_⟩)
      exact trivial
    · have kg1 := g1
      try simp only [bs] at kg1
      refine rw_gf 23 4 22 true rfl rfl rfl rfl rfl rfl (by rw [g1]; decide) ?_
      refine rw_gf 24 4 22 true rfl rfl rfl rfl rfl rfl (by rw [g1]; decide) ?_
      refine rw_gf 25 4 22 true rfl rfl rfl rfl rfl rfl (by rw [g1]; decide) ?_
      refine rw_gf 26 4 22 true rfl rfl rfl rfl rfl rfl (by rw [g1]; decide) ?_
      refine rw_gf 27 4 22 true rfl rfl rfl rfl rfl rfl (by rw [g1]; decide) ?_
      refine rw_t 28 rfl rfl rfl (do_pick_f rfl g1 rfl ?_)
      refine rw_nil ?_
      refine ⟨rfl, ⟨_, rfl, by first | (simp; done) | (simp only [bs]; omega) | (simp [*]; done) | (simp; omega) | (constructor <;> intro h <;> simp_all <;> omega)⟩, ?_⟩
      repeat (refine ⟨⟨_, rfl, rfl⟩, ?_⟩)
      exact trivial
  intro b1 hb1
  refine w_condP hb1 rfl (fun hc3 => ?_) (fun hc3 => ?_)
  · -- region 8
    refine w_region ?_
    refine rw_t 29 rfl rfl rfl (do_load_box rfl rfl rfl ?_)
    refine rw_t 30 rfl rfl rfl (do_move rfl ?_)
    refine rw_t 31 rfl rfl rfl (n_bs (nm := 18) Int (encI .i64) 0 [(c.First.getD ((v : Nat) : Int).toNat 0 + (i : Int))] rfl rfl rfl rfl rfl (fun _ => rfl) (fun _ _ h => by simp [encI] at h; subst h; rfl) rfl ?_)
    refine rw_t 32 rfl rfl rfl (n_app_own (nm := 19) rfl rfl rfl rfl rfl (by first | omega | (simp only [ls] <;> omega)) (by first | omega | (simp only [ls] <;> omega)) (by omega) (by omega) rfl ?_)
    refine rw_u rfl rfl (n_store_box (f := 0) rfl rfl rfl (Nat.le_of_ble_eq_true rfl) rfl ?_)
    refine rw_nil ?_
    repeat (with_reducible first | refine bl_n ?_ | refine bl_r ?_ | refine nx_r ?_ | refine nx_e ?_ | refine bl_e rfl ?_)
    refine round_normal rfl ?_
    refine rw_t 23 rfl rfl rfl (do_not rfl ?_)
    refine rw_nil ?_
    refine w_cond rfl (fun hc4 => ?_) (fun hc4 => ?_)
    · exfalso; first | (cases hc4; done) | exact (hc4 trivial) | (try simp only [bs] at hc4; first | omega | (simp_all; done) | (simp_all; omega))
    refine w_skip ?_
    refine w_region ?_
    refine rw_t 18 rfl rfl rfl (do_move rfl ?_)
    refine rw_t 19 rfl rfl rfl (do_add rfl rfl (by omega) ?_)
    refine rw_t 4 rfl rfl rfl (do_assign rfl ?_)
    refine rw_nil ?_
    have hq : pusQ c p (((c.First.getD v 0).toNat + i : Nat) : Int) = true := decide_eq_true (by rw [hk7]; exact ⟨by rw [ht7.2.2]; exact hc3.1, by rw [ht7.2.2]; exact hc3.2⟩)
    refine ⟨i + 1, [0, 1, 2, 3, 4, 5, 6, 7, 8, 9, 10, 11, 12, 13, 14, 15, 16, 19], by dsimp only; omega, by omega, ⟨shR rfl, shR rfl, shR rfl, shR rfl, shR rfl, shR rfl, shR rfl, shR rfl, shR rfl, shR rfl, shR rfl, .inr ⟨_, rfl, .inl (box_congr (cons_congr (congrArg (fun n => SV.slc 19 0 n none) (by rw [selK_push hq hk7.symm, List.length_append]; rfl)) ((rfl : ([] : List SV) = []))))⟩, .inl rfl, shR rfl, shR rfl, shR rfl, shR rfl, .inr ⟨_, rfl, .inl (congrArg (SO.ints true .i64) (selK_push hq hk7.symm))⟩, trivial⟩, rfl, pre_ok rfl, ⟨⟨_, rfl, rfl⟩, ⟨_, rfl, rfl⟩, ⟨_, rfl, rfl⟩, ⟨_, rfl, Eq.symm (val_congr (by omega))⟩, trivial⟩⟩
  · refine w_skip ?_
    repeat (with_reducible first | refine bl_n ?_ | refine bl_r ?_ | refine nx_r ?_ | refine nx_e ?_ | refine bl_e rfl ?_)
    refine round_normal rfl ?_
    refine rw_t 23 rfl rfl rfl (do_not rfl ?_)
    refine rw_nil ?_
    refine w_cond rfl (fun hc5 => ?_) (fun hc5 => ?_)
    · exfalso; first | (cases hc5; done) | exact (hc5 trivial) | (try simp only [bs] at hc5; first | omega | (simp_all; done) | (simp_all; omega))
    refine w_skip ?_
    refine w_region ?_
    refine rw_t 18 rfl rfl rfl (do_move rfl ?_)
    refine rw_t 19 rfl rfl rfl (do_add rfl rfl (by omega) ?_)
    refine rw_t 4 rfl rfl rfl (do_assign rfl ?_)
    refine rw_nil ?_
    have hq : ¬ pusQ c p (((c.First.getD v 0).toNat + i : Nat) : Int) = true := fun q => hc3 (by have q' := of_decide_eq_true q; rw [hk7] at q'; obtain ⟨q1, q2⟩ := q'; rw [ht7.2.2] at q1 q2; exact ⟨q1, q2⟩)
    refine ⟨i + 1, [0, 1, 2, 3, 4, 5, 6, 7, 8, 9, 10, 11, 12, 13, 14, 15, 16, 17], by dsimp only; omega, by omega, ⟨shR rfl, shR rfl, shR rfl, shR rfl, shR rfl, shR rfl, shR rfl, shR rfl, shR rfl, shR rfl, shR rfl, .inr ⟨_, rfl, .inl (box_congr (cons_congr (congrArg (fun n => SV.slc 17 0 n none) (by rw [selK_skip hq])) ((rfl : ([] : List SV) = []))))⟩, .inl rfl, shR rfl, shR rfl, shR rfl, shR rfl, .inr ⟨_, rfl, .inl (congrArg (SO.ints true .i64) (selK_skip hq))⟩, trivial⟩, rfl, pre_ok rfl, ⟨⟨_, rfl, rfl⟩, ⟨_, rfl, rfl⟩, ⟨_, rfl, rfl⟩, ⟨_, rfl, Eq.symm (val_congr (by omega))⟩, trivial⟩⟩
end Go.Proofs

set_option linter.unusedVariables false
set_option linter.unusedSimpArgs false
namespace Go.Proofs
open Go Go.Sx Go.RowKit
theorem G_tail {c : Csr} (h : CsrG c) {a : Int} (ha : 0 ≤ a ∧ a < c.Head.length) : tailOf c a = c.Head.getD (c.Rev.getD a.toNat 0).toNat 0 := by
  have := h.rtl a.toNat (by omega)
  rwa [show ((a.toNat : Nat) : Int) = a by omega] at this
end Go.Proofs

set_option linter.unusedVariables false
set_option linter.unusedSimpArgs false
namespace Go.Proofs
open Go Go.Sx Go.RowKit
end Go.Proofs

set_option linter.unusedVariables false
set_option linter.unusedSimpArgs false
namespace Go.Proofs
open Go Go.Sx Go.RowKit
end Go.Proofs

set_option linter.unusedVariables false
set_option linter.unusedSimpArgs false
namespace Go.Proofs
open Go Go.Sx Go.RowKit
def sameP (a b : Pre) : Prop := a.Res = b.Res ∧ a.Ex = b.Ex ∧ a.H = b.H
instance (a b : Pre) : Decidable (sameP a b) := by unfold sameP; infer_instance
def cntS (c : Csr) (i : Nat) : Nat := min (i - (c.First.getD c.S.toNat 0).toNat) (manyOf c c.S)
end Go.Proofs

set_option linter.unusedVariables false
set_option linter.unusedSimpArgs false
namespace Go.Proofs
open Go Go.Sx Go.RowKit
def idxI (q : Int → Bool) (xs : List Int) : Int := match (List.range xs.length).find? (fun i => q (xs.getD i 0)) with
  | some i => (i : Int)
  | none => -1
theorem idx_at {q : Int → Bool} {xs : List Int} {i : Nat} (hi : i < xs.length) (h : q (xs.getD i 0) = true) (hno : ∀ k, k < i → q (xs.getD k 0) = false) : idxI q xs = i := by
  unfold idxI
  have : (List.range xs.length).find? (fun i => q (xs.getD i 0)) = some i := by
    rw [List.find?_range_eq_some]
    exact ⟨h, by simpa using hi, fun j hj => by rw [hno j hj]; rfl⟩
  rw [this]
theorem idx_none {q : Int → Bool} {xs : List Int} (hno : ∀ k, k < xs.length → q (xs.getD k 0) = false) : idxI q xs = -1 := by
  unfold idxI
  have : (List.range xs.length).find? (fun i => q (xs.getD i 0)) = none := by
    rw [List.find?_range_eq_none]
    exact fun i hi => by rw [hno i hi]; rfl
  rw [this]
theorem idx_neg {q : Int → Bool} {xs : List Int} : ¬ (idxI q xs ≥ 0) ↔ ∀ k, k < xs.length → q (xs.getD k 0) = false := by
  constructor
  · intro hn k hk
    cases hf : (List.range xs.length).find? (fun i => q (xs.getD i 0)) with
    | some i => exact (hn (by unfold idxI; rw [hf]; exact Int.natCast_nonneg i)).elim
    | none =>
      rw [List.find?_range_eq_none] at hf
      have := hf k hk
      simpa using this
  · intro hno
    rw [idx_none hno]; decide
def heiQ (N x : Int) : Bool := decide (x < 0 ∨ x ≥ 2 * N)
def geQ (m x : Int) : Bool := decide (x ≥ m)
/-- P7.1: heights that may be. -/
def heiP (c : Csr) (hh : List Int) : Prop := ((((hh.length : Nat) : Int) = c.N ∧ hh.getD c.S.toNat 0 = c.N) ∧ hh.getD c.T.toNat 0 = 0) ∧ ∀ v : Nat, v < hh.length → 0 ≤ hh.getD v 0 ∧ hh.getD v 0 < 2 * c.N
instance (c : Csr) (hh : List Int) : Decidable (heiP c hh) := by unfold heiP; infer_instance
theorem idx_hei {N : Int} {hh : List Int} : ¬ (idxI (heiQ N) hh ≥ 0) ↔ ∀ v : Nat, v < hh.length → 0 ≤ hh.getD v 0 ∧ hh.getD v 0 < 2 * N := by
  rw [idx_neg]
  refine forall_congr' fun k => forall_congr' fun hk => ?_
  rw [heiQ, decide_eq_false_iff_not]
  omega
theorem idx_ge {m : Int} {xs : List Int} : ¬ (idxI (geQ m) xs ≥ 0) ↔ ∀ v : Nat, v < xs.length → xs.getD v 0 < m := by
  rw [idx_neg]
  refine forall_congr' fun k => forall_congr' fun hk => ?_
  rw [geQ, decide_eq_false_iff_not]
  omega
/-- One of an arc and its reverse has no capacity. -/
def CapOne (c : Csr) : Prop := ∀ a : Nat, a < c.Head.length → c.Cap.getD a 0 = 0 ∨ c.Cap.getD (c.Rev.getD a 0).toNat 0 = 0
def flowL (c : Csr) (f : List Int) (m : Int) : Nat → List Int
  | 0 => List.replicate m.toNat 0
  | k + 1 => if c.Back.getD k false = true then (flowL c f m k).set (c.Arc.getD k 0).toNat (f.getD k 0) else flowL c f m k
def flowR (c : Csr) (f : List Int) (m : Int) : List Int × Int :=
  if f.length = c.Head.length then (if pairsP c f then (flowL c f m c.Head.length, 0) else ([], 20)) else ([], 2)
theorem flowL_len (c : Csr) (f : List Int) (m : Int) : ∀ k, (flowL c f m k).length = m.toNat
  | 0 => by simp [flowL]
  | k + 1 => by
    unfold flowL
    split
    · rw [List.length_set]; exact flowL_len c f m k
    · exact flowL_len c f m k
set_option maxHeartbeats 8000000 in
set_option synthInstance.maxHeartbeats 400000 in
set_option synthInstance.maxSize 2000 in
theorem t_hwrong (c : Csr) (h : CsrT c) (x : Int) : Tri Try.prog 76 [.val (.int .i64 x), .ptr 6 0 0] [SO.ints false .i64 c.First, SO.ints false .i64 c.Head, SO.ints false .i64 c.Rev, SO.ints false .i64 c.Cap, SO.ints false .i64 c.Arc, SO.bools false c.Back, .box [.val (.int .i64 c.N), .val (.int .i64 c.S), .val (.int .i64 c.T), .slc 0 0 c.First.length none, .slc 1 0 c.Head.length none, .slc 2 0 c.Rev.length none, .slc 3 0 c.Cap.length none, .slc 4 0 c.Arc.length none, .slc 5 0 c.Back.length none]] (fun s H => s = .val (.bool (decide (x < 0 ∨ x ≥ 2 * c.N))) ∧ H = [SO.ints false .i64 c.First, SO.ints false .i64 c.Head, SO.ints false .i64 c.Rev, SO.ints false .i64 c.Cap, SO.ints false .i64 c.Arc, SO.bools false c.Back, .box [.val (.int .i64 c.N), .val (.int .i64 c.S), .val (.int .i64 c.T), .slc 0 0 c.First.length none, .slc 1 0 c.Head.length none, .slc 2 0 c.Rev.length none, .slc 3 0 c.Cap.length none, .slc 4 0 c.Arc.length none, .slc 5 0 c.Back.length none]]) := by
  refine tri_of_w (fn := Try.f76) Try.func76 rfl (by simp [Try.f76]) ?_
  intro ρ w hρ
  refine w_seq ?_
  have hn := h.n
  refine w_region ?_
  refine rw_t 3 rfl rfl rfl (do_assign rfl ?_)
  refine rw_nil ?_
  refine w_env [(0, .val (.int .i64 x)), (1, .ptr 6 0 0)] ⟨⟨_, rfl, rfl⟩, ⟨_, rfl, rfl⟩, trivial⟩ ?_
  refine w_seqB 3 ((x < 0 ∨ x ≥ (2 * c.N))) ?_ ?_
  · -- region 1
    refine w_region ?_
    refine rw_t 4 rfl rfl rfl (do_move rfl ?_)
    refine rw_t 5 rfl rfl rfl (do_bin rfl rfl rfl ?_)
    refine rw_t 6 rfl rfl rfl (do_move rfl ?_)
    refine rw_case 6 rfl (fun g1 => ?_) (fun g1 => ?_)
    · have kg1 := g1
      try simp only [bs] at kg1
      refine rw_gf 7 2 6 false rfl rfl rfl rfl rfl rfl (by rw [g1]; decide) ?_
      refine rw_gf 8 2 6 false rfl rfl rfl rfl rfl rfl (by rw [g1]; decide) ?_
      refine rw_gf 9 2 6 false rfl rfl rfl rfl rfl rfl (by rw [g1]; decide) ?_
      refine rw_gf 10 2 6 false rfl rfl rfl rfl rfl rfl (by rw [g1]; decide) ?_
      refine rw_gf 11 2 6 false rfl rfl rfl rfl rfl rfl (by rw [g1]; decide) ?_
      refine rw_t 12 rfl rfl rfl (do_pick_t rfl g1 rfl ?_)
      refine rw_t 3 rfl rfl rfl (do_assign rfl ?_)
      refine rw_nil ?_
      refine ⟨rfl, ⟨_, rfl, by first | (simp; done) | (simp only [bs]; omega) | (simp [*]; done) | (simp; omega) | (constructor <;> intro h <;> simp_all <;> omega)⟩, ?_⟩
      repeat (refine ⟨⟨_, rfl, rfl⟩, ?_⟩)
      exact trivial
    · have kg1 := g1
      try simp only [bs] at kg1
      refine rw_gt 7 2 6 false rfl rfl rfl rfl rfl rfl g1 (do_move rfl ?_)
      refine rw_gt 8 2 6 false rfl rfl rfl rfl rfl rfl g1 (do_fieldaddr rfl ?_)
      refine rw_gt 9 2 6 false rfl rfl rfl rfl rfl rfl g1 (do_load_box rfl rfl rfl ?_)
      refine rw_gt 10 2 6 false rfl rfl rfl rfl rfl rfl g1 (do_mul rfl rfl (by omega) ?_)
      refine rw_gt 11 2 6 false rfl rfl rfl rfl rfl rfl g1 (do_bin rfl rfl rfl ?_)
      refine rw_t 12 rfl rfl rfl (do_pick_f rfl g1 rfl ?_)
      refine rw_t 3 rfl rfl rfl (do_assign rfl ?_)
      refine rw_nil ?_
      refine ⟨rfl, ⟨_, rfl, by first | (simp; done) | (simp only [bs]; omega) | (simp [*]; done) | (simp; omega) | (constructor <;> intro h <;> simp_all <;> omega)⟩, ?_⟩
      repeat (refine ⟨⟨_, rfl, rfl⟩, ?_⟩)
      exact trivial
  intro b1 hb1
  refine w_ret ?_
  exact ret_eq (.inl rfl) (.cons (res_tmp rfl) .nil) [0, 1, 2, 3, 4, 5, 6] (Eq.symm (bool_congr (dec_of hb1 Iff.rfl))) ⟨shR rfl, shR rfl, shR rfl, shR rfl, shR rfl, shR rfl, shR rfl, trivial⟩ rfl (pre_ok rfl)
set_option maxHeartbeats 8000000 in
set_option synthInstance.maxHeartbeats 400000 in
set_option synthInstance.maxSize 2000 in
theorem t_hIndex (c : Csr) (hh : List Int) (h : CsrT c) (hl : hh.length < 1073741824) : Tri Try.prog 82 [.slc 6 0 hh.length none, .func 76 [] [.ptr 7 0 0]] [SO.ints false .i64 c.First, SO.ints false .i64 c.Head, SO.ints false .i64 c.Rev, SO.ints false .i64 c.Cap, SO.ints false .i64 c.Arc, SO.bools false c.Back, SO.ints false .i64 hh, .box [.val (.int .i64 c.N), .val (.int .i64 c.S), .val (.int .i64 c.T), .slc 0 0 c.First.length none, .slc 1 0 c.Head.length none, .slc 2 0 c.Rev.length none, .slc 3 0 c.Cap.length none, .slc 4 0 c.Arc.length none, .slc 5 0 c.Back.length none]] (fun s H => s = .val (.int .i64 (idxI (heiQ c.N) hh)) ∧ H = [SO.ints false .i64 c.First, SO.ints false .i64 c.Head, SO.ints false .i64 c.Rev, SO.ints false .i64 c.Cap, SO.ints false .i64 c.Arc, SO.bools false c.Back, SO.ints false .i64 hh, .box [.val (.int .i64 c.N), .val (.int .i64 c.S), .val (.int .i64 c.T), .slc 0 0 c.First.length none, .slc 1 0 c.Head.length none, .slc 2 0 c.Rev.length none, .slc 3 0 c.Cap.length none, .slc 4 0 c.Arc.length none, .slc 5 0 c.Back.length none]]) := by
  refine tri_of_w (fn := Try.f82) Try.func82 rfl (by simp [Try.f82]) ?_
  intro ρ w hρ
  refine w_seq ?_
  have hn := h.n
  have hS := h.s
  have hT := h.t
  have hsm := h.small
  refine w_region ?_
  refine rw_t 4 rfl rfl rfl (do_assign rfl ?_)
  refine rw_nil ?_
  refine w_seq ?_
  refine w_seq ?_
  refine w_region ?_
  refine rw_t 6 rfl rfl rfl (do_move rfl ?_)
  refine rw_t 7 rfl rfl rfl (do_len rfl ?_)
  refine rw_t 8 rfl rfl rfl (do_move rfl ?_)
  refine rw_nil ?_
  refine w_block ?_
  refine w_loopS (ι := Nat) (fun i => [(0, .slc 6 0 hh.length none), (1, .func 76 [] [.ptr 7 0 0]), (7, .val (.int .i64 ((hh.length : Nat) : Int))), (8, .val (.int .i64 ((i : Nat) : Int)))]) (fun i => [SO.ints false .i64 c.First, SO.ints false .i64 c.Head, SO.ints false .i64 c.Rev, SO.ints false .i64 c.Cap, SO.ints false .i64 c.Arc, SO.bools false c.Back, SO.ints false .i64 hh, .box [.val (.int .i64 c.N), .val (.int .i64 c.S), .val (.int .i64 c.T), .slc 0 0 c.First.length none, .slc 1 0 c.Head.length none, .slc 2 0 c.Rev.length none, .slc 3 0 c.Cap.length none, .slc 4 0 c.Arc.length none, .slc 5 0 c.Back.length none]]) (fun i => hh.length - i) (fun i => i ≤ hh.length ∧ ∀ k, k < i → ¬ (hh.getD k 0 < 0 ∨ hh.getD k 0 ≥ 2 * c.N)) (0) [0, 1, 2, 3, 4, 5, 6, 7] (⟨by simp, fun k hk => by omega⟩) ⟨shR rfl, shR rfl, shR rfl, shR rfl, shR rfl, shR rfl, shR rfl, shR rfl, trivial⟩ rfl (pre_ok rfl) hρ ⟨⟨_, rfl, rfl⟩, ⟨_, rfl, rfl⟩, ⟨_, rfl, rfl⟩, ⟨_, rfl, rfl⟩, trivial⟩ ?_
  rintro i ⟨g1, g2⟩
  refine w_seq ?_
  refine w_region ?_
  refine rw_t 9 rfl rfl rfl (do_bin rfl rfl rfl ?_)
  refine rw_nil ?_
  refine w_seq ?_
  refine w_cond rfl (fun hc1 => ?_) (fun hc1 => ?_)
  all_goals try simp only [bs] at hc1
  rotate_left
  · refine w_exit ?_
    refine w_seq ?_
    refine w_region ?_
    refine rw_t 4 rfl rfl rfl (do_assign rfl ?_)
    refine rw_nil ?_
    refine w_ret ?_
    exact ret_eq (.inl rfl) (.cons (res_tmp rfl) .nil) [0, 1, 2, 3, 4, 5, 6, 7] (Eq.symm (val_congr (by rw [idx_none (fun k hk => decide_eq_false (g2 k (by omega)))]))) ⟨shR rfl, shR rfl, shR rfl, shR rfl, shR rfl, shR rfl, shR rfl, shR rfl, trivial⟩ rfl (pre_ok rfl)
  refine w_skip ?_
  refine w_seq ?_
  refine w_block ?_
  refine w_seq ?_
  refine w_region ?_
  refine rw_t 10 rfl rfl rfl (do_move rfl ?_)
  refine rw_t 5 rfl rfl rfl (do_assign rfl ?_)
  refine rw_nil ?_
  refine w_seq ?_
  refine w_region ?_
  refine rw_t 11 rfl rfl rfl (do_move rfl ?_)
  refine rw_t 12 rfl rfl rfl (do_move rfl ?_)
  refine rw_t 13 rfl rfl rfl (do_move rfl ?_)
  refine rw_t 14 rfl rfl rfl (do_ixn rfl rfl rfl (by first | omega | (simp only [ls] <;> omega)) ?_)
  refine rw_t 15 rfl rfl rfl (do_load_arr rfl rfl (by first | omega | (simp only [ls] <;> omega)) rfl ?_)
  refine rw_t 16 rfl rfl rfl (n_callW (X' := .val (.bool (decide ((hh.getD i 0) < 0 ∨ (hh.getD i 0) ≥ 2 * c.N)))) (H' := [SO.ints false .i64 c.First, SO.ints false .i64 c.Head, SO.ints false .i64 c.Rev, SO.ints false .i64 c.Cap, SO.ints false .i64 c.Arc, SO.bools false c.Back, SO.ints false .i64 hh, .box [.val (.int .i64 c.N), .val (.int .i64 c.S), .val (.int .i64 c.T), .slc 0 0 c.First.length none, .slc 1 0 c.Head.length none, .slc 2 0 c.Rev.length none, .slc 3 0 c.Cap.length none, .slc 4 0 c.Arc.length none, .slc 5 0 c.Back.length none]]) rfl rfl (t_hwrong (c := c) (x := (hh.getD i 0)) (h)) [0, 1, 2, 3, 4, 5, 7] ⟨.inr ⟨_, rfl, srv⟩, .inr ⟨_, rfl, srv⟩, .inr ⟨_, rfl, srv⟩, .inr ⟨_, rfl, srv⟩, .inr ⟨_, rfl, srv⟩, .inr ⟨_, rfl, srv⟩, shR rfl, trivial⟩ rfl rfl ⟨fun h => (by cases h), ⟨fun h => (by cases h), ⟨fun h => (by cases h), ⟨fun h => (by cases h), ⟨fun h => (by cases h), ⟨fun h => (by cases h), ⟨fun h => .inl rfl, (fun y hy => by simp at hy)⟩⟩⟩⟩⟩⟩⟩ rfl rfl ?_)
  refine rw_nil ?_
  refine w_cond rfl (fun hc2 => ?_) (fun hc2 => ?_)
  all_goals try simp only [bs] at hc2
  · refine w_seq ?_
    refine w_region ?_
    refine rw_t 17 rfl rfl rfl (do_move rfl ?_)
    refine rw_t 4 rfl rfl rfl (do_assign rfl ?_)
    refine rw_nil ?_
    refine w_ret ?_
    exact ret_eq (.inl rfl) (.cons (res_tmp rfl) .nil) [0, 1, 2, 3, 4, 5, 6, 7] (Eq.symm (val_congr (by rw [idx_at (by omega) (decide_eq_true hc2) (fun k hk => decide_eq_false (g2 k hk))]))) ⟨shR rfl, shR rfl, shR rfl, shR rfl, shR rfl, shR rfl, shR rfl, shR rfl, trivial⟩ rfl (pre_ok rfl)
  refine w_skip ?_
  refine w_region ?_
  refine rw_t 18 rfl rfl rfl (do_add rfl rfl (by omega) ?_)
  refine rw_t 8 rfl rfl rfl (do_move rfl ?_)
  refine rw_nil ?_
  refine ⟨i + 1, [0, 1, 2, 3, 4, 5, 6, 7], by dsimp only; omega, ⟨by omega, fun k hk => by rcases Nat.lt_or_ge k i with hki | hki; exact g2 k hki; have : k = i := (by omega); subst this; exact hc2⟩, ⟨shR rfl, shR rfl, shR rfl, shR rfl, shR rfl, shR rfl, shR rfl, shR rfl, trivial⟩, rfl, pre_ok rfl, ⟨⟨_, rfl, rfl⟩, ⟨_, rfl, rfl⟩, ⟨_, rfl, rfl⟩, ⟨_, rfl, rfl⟩, trivial⟩⟩
set_option maxHeartbeats 8000000 in
set_option synthInstance.maxHeartbeats 400000 in
set_option synthInstance.maxSize 2000 in
theorem t_hContains (c : Csr) (hh : List Int) (h : CsrT c) (hl : hh.length < 1073741824) : Tri Try.prog 64 [.slc 6 0 hh.length none, .func 76 [] [.ptr 7 0 0]] [SO.ints false .i64 c.First, SO.ints false .i64 c.Head, SO.ints false .i64 c.Rev, SO.ints false .i64 c.Cap, SO.ints false .i64 c.Arc, SO.bools false c.Back, SO.ints false .i64 hh, .box [.val (.int .i64 c.N), .val (.int .i64 c.S), .val (.int .i64 c.T), .slc 0 0 c.First.length none, .slc 1 0 c.Head.length none, .slc 2 0 c.Rev.length none, .slc 3 0 c.Cap.length none, .slc 4 0 c.Arc.length none, .slc 5 0 c.Back.length none]] (fun s H => s = .val (.bool (decide (idxI (heiQ c.N) hh ≥ 0))) ∧ H = [SO.ints false .i64 c.First, SO.ints false .i64 c.Head, SO.ints false .i64 c.Rev, SO.ints false .i64 c.Cap, SO.ints false .i64 c.Arc, SO.bools false c.Back, SO.ints false .i64 hh, .box [.val (.int .i64 c.N), .val (.int .i64 c.S), .val (.int .i64 c.T), .slc 0 0 c.First.length none, .slc 1 0 c.Head.length none, .slc 2 0 c.Rev.length none, .slc 3 0 c.Cap.length none, .slc 4 0 c.Arc.length none, .slc 5 0 c.Back.length none]]) := by
  refine tri_of_w (fn := Try.f64) Try.func64 rfl (by simp [Try.f64]) ?_
  intro ρ w hρ
  refine w_seq ?_
  refine w_region ?_
  refine rw_t 4 rfl rfl rfl (do_assign rfl ?_)
  refine rw_nil ?_
  refine w_seq ?_
  refine w_region ?_
  refine rw_t 5 rfl rfl rfl (do_move rfl ?_)
  refine rw_t 6 rfl rfl rfl (do_move rfl ?_)
  refine rw_t 7 rfl rfl rfl (n_callW (X' := .val (.int .i64 (idxI (heiQ c.N) hh))) (H' := [SO.ints false .i64 c.First, SO.ints false .i64 c.Head, SO.ints false .i64 c.Rev, SO.ints false .i64 c.Cap, SO.ints false .i64 c.Arc, SO.bools false c.Back, SO.ints false .i64 hh, .box [.val (.int .i64 c.N), .val (.int .i64 c.S), .val (.int .i64 c.T), .slc 0 0 c.First.length none, .slc 1 0 c.Head.length none, .slc 2 0 c.Rev.length none, .slc 3 0 c.Cap.length none, .slc 4 0 c.Arc.length none, .slc 5 0 c.Back.length none]]) rfl rfl (t_hIndex (c := c) (hh := hh) (h) (hl)) [0, 1, 2, 3, 4, 5, 6, 7] ⟨.inr ⟨_, rfl, srv⟩, .inr ⟨_, rfl, srv⟩, .inr ⟨_, rfl, srv⟩, .inr ⟨_, rfl, srv⟩, .inr ⟨_, rfl, srv⟩, .inr ⟨_, rfl, srv⟩, .inr ⟨_, rfl, srv⟩, shR rfl, trivial⟩ rfl rfl ⟨fun h => (by cases h), ⟨fun h => (by cases h), ⟨fun h => (by cases h), ⟨fun h => (by cases h), ⟨fun h => (by cases h), ⟨fun h => (by cases h), ⟨fun h => (by cases h), ⟨fun h => .inl rfl, (fun y hy => by simp at hy)⟩⟩⟩⟩⟩⟩⟩⟩ rfl rfl ?_)
  refine rw_t 8 rfl rfl rfl (do_bin rfl rfl rfl ?_)
  refine rw_t 4 rfl rfl rfl (do_assign rfl ?_)
  refine rw_nil ?_
  refine w_ret ?_
  exact ret_eq (.inl rfl) (.cons (res_tmp rfl) .nil) [0, 1, 2, 3, 4, 5, 6, 7] (rfl) ⟨shR rfl, shR rfl, shR rfl, shR rfl, shR rfl, shR rfl, shR rfl, shR rfl, trivial⟩ rfl (pre_ok rfl)
set_option maxHeartbeats 8000000 in
set_option synthInstance.maxHeartbeats 400000 in
set_option synthInstance.maxSize 2000 in
theorem t_heights (c : Csr) (hh : List Int) (h : CsrT c) : Tri Try.prog 49 [.agg [.val (.int .i64 c.N), .val (.int .i64 c.S), .val (.int .i64 c.T), .slc 0 0 c.First.length none, .slc 1 0 c.Head.length none, .slc 2 0 c.Rev.length none, .slc 3 0 c.Cap.length none, .slc 4 0 c.Arc.length none, .slc 5 0 c.Back.length none], .slc 6 0 hh.length none] [SO.ints false .i64 c.First, SO.ints false .i64 c.Head, SO.ints false .i64 c.Rev, SO.ints false .i64 c.Cap, SO.ints false .i64 c.Arc, SO.bools false c.Back, SO.ints false .i64 hh] (fun s H => s = .val (.bool (decide (heiP c hh))) ∧ H = [SO.ints false .i64 c.First, SO.ints false .i64 c.Head, SO.ints false .i64 c.Rev, SO.ints false .i64 c.Cap, SO.ints false .i64 c.Arc, SO.bools false c.Back, SO.ints false .i64 hh]) := by
  refine tri_of_w (fn := Try.f49) Try.func49 rfl (by simp [Try.f49]) ?_
  intro ρ w hρ
  refine w_seq ?_
  have hn := h.n
  have hS := h.s
  have hT := h.t
  have hsm := h.small
  refine w_region ?_
  refine rw_t 2 rfl rfl rfl (n_box_agg (n := 7) rfl rfl ?_)
  refine rw_t 4 rfl rfl rfl (do_assign rfl ?_)
  refine rw_nil ?_
  refine w_seq ?_
  refine w_seqB 27 (((((hh.length : Nat) : Int) ≠ c.N ∨ (hh.getD c.S.toNat 0) ≠ c.N) ∨ (hh.getD c.T.toNat 0) ≠ 0)) ?_ ?_
  · -- region 1
    refine w_draw mixed [0, 1, 0, 4, 15, 31, 63, 63, 191, 511, 1023, 63, 2111, 8191, 16383, 32767, 65535, 65535, 196607] [524287, 1048575, 2097151, 4194303] (by kernel_rfl) (by kernel_rfl) rfl rfl rfl (hle hρ rfl) ?_
    refine ra_q (j := 0) rfl rfl rfl rfl (do_move rfl ⟨rfl, rfl⟩) (by rfl) ?_
    refine ra_q (j := 1) rfl rfl rfl rfl (do_len rfl ⟨rfl, rfl⟩) (by rfl) ?_
    refine ra_q (j := 2) rfl rfl rfl rfl (do_fieldaddr rfl ⟨rfl, rfl⟩) (by rfl) ?_
    refine ra_q (j := 3) rfl rfl rfl rfl (do_load_box rfl rfl rfl ⟨rfl, rfl⟩) (by rfl) ?_
    refine ra_q (j := 4) rfl rfl rfl rfl (do_bin rfl rfl rfl ⟨rfl, rfl⟩) (by rfl) ?_
    refine ra_q (j := 5) rfl rfl rfl rfl (do_move rfl ⟨rfl, rfl⟩) (by rfl) ?_
    refine ra_case 10 rfl (fun g1 => ?_) (fun g1 => ?_)
    · have kg1 := g1
      try simp only [bs] at kg1
      refine ra_gf (j := 6) rfl rfl rfl rfl (by rw [g1]; decide) rfl rfl rfl ?_
      refine ra_gf (j := 7) rfl rfl rfl rfl (by rw [g1]; decide) rfl rfl rfl ?_
      refine ra_gf (j := 8) rfl rfl rfl rfl (by rw [g1]; decide) rfl rfl rfl ?_
      refine ra_gf (j := 9) rfl rfl rfl rfl (by rw [g1]; decide) rfl rfl rfl ?_
      refine ra_gf (j := 10) rfl rfl rfl rfl (by rw [g1]; decide) rfl rfl rfl ?_
      refine ra_gf (j := 11) rfl rfl rfl rfl (by rw [g1]; decide) rfl rfl rfl ?_
      refine ra_gf (j := 12) rfl rfl rfl rfl (by rw [g1]; decide) rfl rfl rfl ?_
      refine ra_gf (j := 13) rfl rfl rfl rfl (by rw [g1]; decide) rfl rfl rfl ?_
      refine ra_q (j := 14) rfl rfl rfl rfl (do_pick_t rfl g1 rfl ⟨rfl, rfl⟩) (by rfl) ?_
      refine ra_q (j := 15) rfl rfl rfl rfl (do_move rfl ⟨rfl, rfl⟩) (by rfl) ?_
      refine ra_gf (j := 16) rfl rfl rfl rfl (by decide) rfl rfl rfl ?_
      refine ra_gf (j := 17) rfl rfl rfl rfl (by decide) rfl rfl rfl ?_
      refine ra_gf (j := 18) rfl rfl rfl rfl (by decide) rfl rfl rfl ?_
      refine n_done ?_
      refine rw_gf 24 15 20 false rfl rfl rfl rfl rfl rfl (by decide) ?_
      refine rw_gf 25 15 20 false rfl rfl rfl rfl rfl rfl (by decide) ?_
      refine rw_gf 26 15 20 false rfl rfl rfl rfl rfl rfl (by decide) ?_
      refine rw_t 27 rfl rfl rfl (do_pick_t rfl rfl rfl ?_)
      refine rw_nil ?_
      refine ⟨rfl, ⟨_, rfl, by first | (simp; done) | (simp only [bs]; omega) | (simp [*]; done) | (simp; omega) | (constructor <;> intro h <;> simp_all <;> omega)⟩, ?_⟩
      repeat (refine ⟨⟨_, rfl, rfl⟩, ?_⟩)
      exact trivial
    · have kg1 := g1
      try simp only [bs] at kg1
      refine ra_gt (j := 6) rfl rfl rfl rfl g1 rfl rfl rfl (do_move rfl ⟨rfl, rfl⟩) (by rfl) ?_
      refine ra_gt (j := 7) rfl rfl rfl rfl g1 rfl rfl rfl (do_fieldaddr rfl ⟨rfl, rfl⟩) (by rfl) ?_
      refine ra_gt (j := 8) rfl rfl rfl rfl g1 rfl rfl rfl (do_load_box rfl rfl rfl ⟨rfl, rfl⟩) (by rfl) ?_
      refine ra_gt (j := 9) rfl rfl rfl rfl g1 rfl rfl rfl (do_ix0 rfl rfl rfl (by first | omega | (simp only [ls] <;> omega)) ⟨rfl, rfl⟩) (by rfl) ?_
      refine ra_gt (j := 10) rfl rfl rfl rfl g1 rfl rfl rfl (do_load_arr rfl rfl (by first | omega | (simp only [ls] <;> omega)) rfl ⟨rfl, rfl⟩) (by rfl) ?_
      refine ra_gt (j := 11) rfl rfl rfl rfl g1 rfl rfl rfl (do_fieldaddr rfl ⟨rfl, rfl⟩) (by rfl) ?_
      refine ra_gt (j := 12) rfl rfl rfl rfl g1 rfl rfl rfl (do_load_box rfl rfl rfl ⟨rfl, rfl⟩) (by rfl) ?_
      refine ra_gt (j := 13) rfl rfl rfl rfl g1 rfl rfl rfl (do_bin rfl rfl rfl ⟨rfl, rfl⟩) (by rfl) ?_
      refine ra_q (j := 14) rfl rfl rfl rfl (do_pick_f rfl g1 rfl ⟨rfl, rfl⟩) (by rfl) ?_
      refine ra_q (j := 15) rfl rfl rfl rfl (do_move rfl ⟨rfl, rfl⟩) (by rfl) ?_
      refine ra_case 20 rfl (fun g2 => ?_) (fun g2 => ?_)
      · have kg2 := g2
        try simp only [bs] at kg2
        refine ra_gf (j := 16) rfl rfl rfl rfl (by rw [g2]; decide) rfl rfl rfl ?_
        refine ra_gf (j := 17) rfl rfl rfl rfl (by rw [g2]; decide) rfl rfl rfl ?_
        refine ra_gf (j := 18) rfl rfl rfl rfl (by rw [g2]; decide) rfl rfl rfl ?_
        refine n_done ?_
        refine rw_gf 24 15 20 false rfl rfl rfl rfl rfl rfl (by rw [g2]; decide) ?_
        refine rw_gf 25 15 20 false rfl rfl rfl rfl rfl rfl (by rw [g2]; decide) ?_
        refine rw_gf 26 15 20 false rfl rfl rfl rfl rfl rfl (by rw [g2]; decide) ?_
        refine rw_t 27 rfl rfl rfl (do_pick_t rfl g2 rfl ?_)
        refine rw_nil ?_
        refine ⟨rfl, ⟨_, rfl, by first | (simp; done) | (simp only [bs]; omega) | (simp [*]; done) | (simp; omega) | (constructor <;> intro h <;> simp_all <;> omega)⟩, ?_⟩
        repeat (refine ⟨⟨_, rfl, rfl⟩, ?_⟩)
        exact trivial
      · have kg2 := g2
        try simp only [bs] at kg2
        refine ra_gt (j := 16) rfl rfl rfl rfl g2 rfl rfl rfl (do_move rfl ⟨rfl, rfl⟩) (by rfl) ?_
        refine ra_gt (j := 17) rfl rfl rfl rfl g2 rfl rfl rfl (do_fieldaddr rfl ⟨rfl, rfl⟩) (by rfl) ?_
        refine ra_gt (j := 18) rfl rfl rfl rfl g2 rfl rfl rfl (do_load_box rfl rfl rfl ⟨rfl, rfl⟩) (by rfl) ?_
        refine n_done ?_
        refine rw_gt 24 15 20 false rfl rfl rfl rfl rfl rfl g2 (do_ix0 rfl rfl rfl (by first | omega | (simp only [ls] <;> omega)) ?_)
        refine rw_gt 25 15 20 false rfl rfl rfl rfl rfl rfl g2 (do_load_arr rfl rfl (by first | omega | (simp only [ls] <;> omega)) rfl ?_)
        refine rw_gt 26 15 20 false rfl rfl rfl rfl rfl rfl g2 (do_bin rfl rfl rfl ?_)
        refine rw_t 27 rfl rfl rfl (do_pick_f rfl g2 rfl ?_)
        refine rw_nil ?_
        refine ⟨rfl, ⟨_, rfl, by first | (simp; done) | (simp only [bs]; omega) | (simp [*]; done) | (simp; omega) | (constructor <;> intro h <;> simp_all <;> omega)⟩, ?_⟩
        repeat (refine ⟨⟨_, rfl, rfl⟩, ?_⟩)
        exact trivial
  intro b1 hb1
  refine w_condP hb1 rfl (fun hc1 => ?_) (fun hc1 => ?_)
  · refine w_seq ?_
    refine w_region ?_
    refine rw_t 4 rfl rfl rfl (do_assign rfl ?_)
    refine rw_nil ?_
    refine w_ret ?_
    exact ret_eq (.inl rfl) (.cons (res_tmp rfl) .nil) [0, 1, 2, 3, 4, 5, 6] (Eq.symm (bool_congr (decide_eq_false (fun q => by obtain ⟨⟨⟨q1, q2⟩, q3⟩, q4⟩ := q; omega)))) ⟨shR rfl, shR rfl, shR rfl, shR rfl, shR rfl, shR rfl, shR rfl, trivial⟩ rfl (pre_ok rfl)
  refine w_skip ?_
  refine w_seq ?_
  refine w_region ?_
  refine rw_t 28 rfl rfl rfl (do_move rfl ?_)
  refine rw_t 29 rfl rfl rfl (do_makefunc rfl rfl ?_)
  refine rw_t 30 rfl rfl rfl (n_callW (X' := .val (.bool (decide (idxI (heiQ c.N) hh ≥ 0)))) (H' := [SO.ints false .i64 c.First, SO.ints false .i64 c.Head, SO.ints false .i64 c.Rev, SO.ints false .i64 c.Cap, SO.ints false .i64 c.Arc, SO.bools false c.Back, SO.ints false .i64 hh, .box [.val (.int .i64 c.N), .val (.int .i64 c.S), .val (.int .i64 c.T), .slc 0 0 c.First.length none, .slc 1 0 c.Head.length none, .slc 2 0 c.Rev.length none, .slc 3 0 c.Cap.length none, .slc 4 0 c.Arc.length none, .slc 5 0 c.Back.length none]]) rfl rfl (t_hContains (c := c) (hh := hh) (h) (by omega)) [0, 1, 2, 3, 4, 5, 6, 7] ⟨.inr ⟨_, rfl, srv⟩, .inr ⟨_, rfl, srv⟩, .inr ⟨_, rfl, srv⟩, .inr ⟨_, rfl, srv⟩, .inr ⟨_, rfl, srv⟩, .inr ⟨_, rfl, srv⟩, .inr ⟨_, rfl, srv⟩, shR rfl, trivial⟩ rfl rfl ⟨fun h => (by cases h), ⟨fun h => (by cases h), ⟨fun h => (by cases h), ⟨fun h => (by cases h), ⟨fun h => (by cases h), ⟨fun h => (by cases h), ⟨fun h => (by cases h), ⟨fun h => .inl rfl, (fun y hy => by simp at hy)⟩⟩⟩⟩⟩⟩⟩⟩ rfl rfl ?_)
  refine rw_t 31 rfl rfl rfl (do_not rfl ?_)
  refine rw_t 4 rfl rfl rfl (do_assign rfl ?_)
  refine rw_nil ?_
  refine w_ret ?_
  exact ret_eq (.inl rfl) (.cons (res_tmp rfl) .nil) [0, 1, 2, 3, 4, 5, 6] (Eq.symm (bool_congr (Bool.eq_iff_iff.2 (by simp only [decide_eq_true_eq, Bool.not_eq_true', decide_eq_false_iff_not]; rw [idx_hei]; exact ⟨fun q => q.2, fun q => ⟨by omega, q⟩⟩)))) ⟨shR rfl, shR rfl, shR rfl, shR rfl, shR rfl, shR rfl, shR rfl, trivial⟩ rfl (pre_ok rfl)
set_option maxHeartbeats 8000000 in
set_option synthInstance.maxHeartbeats 400000 in
set_option synthInstance.maxSize 2000 in
theorem t_Equal (a b : List Int) (hl : a.length < 1073741824) : Tri Try.prog 48 [.slc 0 0 a.length none, .slc 1 0 b.length none] [SO.ints false .i64 a, SO.ints false .i64 b] (fun s H => s = .val (.bool (decide (a = b))) ∧ H = [SO.ints false .i64 a, SO.ints false .i64 b]) := by
  refine tri_of_w (fn := Try.f48) Try.func48 rfl (by simp [Try.f48]) ?_
  intro ρ w hρ
  refine w_seq ?_
  refine w_region ?_
  refine rw_t 4 rfl rfl rfl (do_assign rfl ?_)
  refine rw_nil ?_
  refine w_seq ?_
  refine w_seq ?_
  refine w_region ?_
  refine rw_t 6 rfl rfl rfl (do_move rfl ?_)
  refine rw_t 7 rfl rfl rfl (do_len rfl ?_)
  refine rw_t 8 rfl rfl rfl (do_move rfl ?_)
  refine rw_t 9 rfl rfl rfl (do_len rfl ?_)
  refine rw_t 10 rfl rfl rfl (do_bin rfl rfl rfl ?_)
  refine rw_nil ?_
  refine w_cond rfl (fun hc1 => ?_) (fun hc1 => ?_)
  all_goals try simp only [bs] at hc1
  · refine w_seq ?_
    refine w_region ?_
    refine rw_t 4 rfl rfl rfl (do_assign rfl ?_)
    refine rw_nil ?_
    refine w_ret ?_
    exact ret_eq (.inl rfl) (.cons (res_tmp rfl) .nil) [0, 1] (Eq.symm (bool_congr (decide_eq_false (fun q => by subst q; exact hc1 rfl)))) ⟨shR rfl, shR rfl, trivial⟩ rfl (pre_ok rfl)
  refine w_skip ?_
  refine w_seq ?_
  refine w_seq ?_
  refine w_region ?_
  refine rw_t 11 rfl rfl rfl (do_move rfl ?_)
  refine rw_t 12 rfl rfl rfl (do_len rfl ?_)
  refine rw_t 13 rfl rfl rfl (do_move rfl ?_)
  refine rw_nil ?_
  refine w_block ?_
  refine w_loopS (ι := Nat) (fun i => [(0, .slc 0 0 a.length none), (1, .slc 1 0 b.length none), (12, .val (.int .i64 ((a.length : Nat) : Int))), (13, .val (.int .i64 ((i : Nat) : Int)))]) (fun i => [SO.ints false .i64 a, SO.ints false .i64 b]) (fun i => a.length - i) (fun i => i ≤ a.length ∧ a.take i = b.take i) (0) [0, 1] (⟨by simp, rfl⟩) ⟨shR rfl, shR rfl, trivial⟩ rfl (pre_ok rfl) hρ ⟨⟨_, rfl, rfl⟩, ⟨_, rfl, rfl⟩, ⟨_, rfl, rfl⟩, ⟨_, rfl, rfl⟩, trivial⟩ ?_
  rintro i ⟨g1, g2⟩
  refine w_seq ?_
  refine w_region ?_
  refine rw_t 14 rfl rfl rfl (do_bin rfl rfl rfl ?_)
  refine rw_nil ?_
  refine w_seq ?_
  refine w_cond rfl (fun hc2 => ?_) (fun hc2 => ?_)
  all_goals try simp only [bs] at hc2
  rotate_left
  · refine w_exit ?_
    refine w_seq ?_
    refine w_region ?_
    refine rw_t 4 rfl rfl rfl (do_assign rfl ?_)
    refine rw_nil ?_
    refine w_ret ?_
    exact ret_eq (.inl rfl) (.cons (res_tmp rfl) .nil) [0, 1] (Eq.symm (bool_congr (decide_eq_true (eq_of_take (by omega) (by omega) g2)))) ⟨shR rfl, shR rfl, trivial⟩ rfl (pre_ok rfl)
  refine w_skip ?_
  refine w_seq ?_
  refine w_block ?_
  refine w_seq ?_
  refine w_region ?_
  refine rw_t 15 rfl rfl rfl (do_move rfl ?_)
  refine rw_t 5 rfl rfl rfl (do_assign rfl ?_)
  refine rw_nil ?_
  refine w_seq ?_
  refine w_draw mixed [0, 0, 3, 7, 0, 0, 48, 112] [255] (by kernel_rfl) (by kernel_rfl) rfl rfl rfl (hle hρ rfl) ?_
  refine ra_q (j := 0) rfl rfl rfl rfl (do_move rfl ⟨rfl, rfl⟩) (by rfl) ?_
  refine ra_q (j := 1) rfl rfl rfl rfl (do_move rfl ⟨rfl, rfl⟩) (by rfl) ?_
  refine ra_q (j := 2) rfl rfl rfl rfl (do_ixn rfl rfl rfl (by first | omega | (simp only [ls] <;> omega)) ⟨rfl, rfl⟩) (by rfl) ?_
  refine ra_q (j := 3) rfl rfl rfl rfl (do_load_arr rfl rfl (by first | omega | (simp only [ls] <;> omega)) rfl ⟨rfl, rfl⟩) (by rfl) ?_
  refine ra_q (j := 4) rfl rfl rfl rfl (do_move rfl ⟨rfl, rfl⟩) (by rfl) ?_
  refine ra_q (j := 5) rfl rfl rfl rfl (do_move rfl ⟨rfl, rfl⟩) (by rfl) ?_
  refine ra_q (j := 6) rfl rfl rfl rfl (do_ixn rfl rfl rfl (by first | omega | (simp only [ls] <;> omega)) ⟨rfl, rfl⟩) (by rfl) ?_
  refine ra_q (j := 7) rfl rfl rfl rfl (do_load_arr rfl rfl (by first | omega | (simp only [ls] <;> omega)) rfl ⟨rfl, rfl⟩) (by rfl) ?_
  refine n_done ?_
  refine rw_t 24 rfl rfl rfl (do_bin rfl rfl rfl ?_)
  refine rw_nil ?_
  refine w_cond rfl (fun hc3 => ?_) (fun hc3 => ?_)
  all_goals try simp only [bs] at hc3
  · refine w_seq ?_
    refine w_region ?_
    refine rw_t 4 rfl rfl rfl (do_assign rfl ?_)
    refine rw_nil ?_
    refine w_ret ?_
    exact ret_eq (.inl rfl) (.cons (res_tmp rfl) .nil) [0, 1] (Eq.symm (bool_congr (decide_eq_false (fun q => by subst q; exact hc3 rfl)))) ⟨shR rfl, shR rfl, trivial⟩ rfl (pre_ok rfl)
  refine w_skip ?_
  refine w_region ?_
  refine rw_t 25 rfl rfl rfl (do_add rfl rfl (by omega) ?_)
  refine rw_t 13 rfl rfl rfl (do_move rfl ?_)
  refine rw_nil ?_
  refine ⟨i + 1, [0, 1], by dsimp only; omega, ⟨by omega, take_next (by omega) (by omega) g2 hc3⟩, ⟨shR rfl, shR rfl, trivial⟩, rfl, pre_ok rfl, ⟨⟨_, rfl, rfl⟩, ⟨_, rfl, rfl⟩, ⟨_, rfl, rfl⟩, ⟨_, rfl, rfl⟩, trivial⟩⟩
end Go.Proofs

set_option linter.unusedVariables false
set_option linter.unusedSimpArgs false
namespace Go.Proofs
open Go Go.Sx Go.RowKit
theorem most_max {c : Csr} (h : CsrOK c) (ho : CapOne c) {a : Nat} (ha : a < c.Head.length) : (if c.Cap.getD (c.Rev.getD a 0).toNat 0 > c.Cap.getD a 0 then c.Cap.getD (c.Rev.getD a 0).toNat 0 else c.Cap.getD a 0) = mostOf c a := by
  have h1 := h.cp a ha
  have hr := h.rv a ha
  have h2 := h.cp (c.Rev.getD a 0).toNat (by omega)
  have h3 := ho a ha
  unfold mostOf
  split <;> omega
set_option maxHeartbeats 8000000 in
set_option synthInstance.maxHeartbeats 400000 in
set_option synthInstance.maxSize 2000 in
theorem t_fwrong (m x : Int) : Tri Try.prog 63 [.val (.int .i64 x), .ptr 0 0 0] [.box [.val (.int .i64 m)]] (fun s H => s = .val (.bool (decide (x ≥ m))) ∧ H = [.box [.val (.int .i64 m)]]) := by
  refine tri_of_w (fn := Try.f63) Try.func63 rfl (by simp [Try.f63]) ?_
  intro ρ w hρ
  refine w_seq ?_
  refine w_region ?_
  refine rw_t 3 rfl rfl rfl (do_assign rfl ?_)
  refine rw_nil ?_
  refine w_seq ?_
  refine w_region ?_
  refine rw_t 4 rfl rfl rfl (do_move rfl ?_)
  refine rw_t 5 rfl rfl rfl (do_load_box rfl rfl rfl ?_)
  refine rw_t 6 rfl rfl rfl (do_bin rfl rfl rfl ?_)
  refine rw_t 3 rfl rfl rfl (do_assign rfl ?_)
  refine rw_nil ?_
  refine w_ret ?_
  exact ret_eq (.inl rfl) (.cons (res_tmp rfl) .nil) [0] (rfl) ⟨shR rfl, trivial⟩ rfl (pre_ok rfl)
set_option maxHeartbeats 8000000 in
set_option synthInstance.maxHeartbeats 400000 in
set_option synthInstance.maxSize 2000 in
theorem t_fIndex (m : Int) (xs : List Int) (hl : xs.length < 1073741824) : Tri Try.prog 82 [.slc 0 0 xs.length none, .func 63 [] [.ptr 1 0 0]] [SO.ints false .i64 xs, .box [.val (.int .i64 m)]] (fun s H => s = .val (.int .i64 (idxI (geQ m) xs)) ∧ H = [SO.ints false .i64 xs, .box [.val (.int .i64 m)]]) := by
  refine tri_of_w (fn := Try.f82) Try.func82 rfl (by simp [Try.f82]) ?_
  intro ρ w hρ
  refine w_seq ?_
  have h00 : (0 : Int) ≤ 0 := by omega
  refine w_region ?_
  refine rw_t 4 rfl rfl rfl (do_assign rfl ?_)
  refine rw_nil ?_
  refine w_seq ?_
  refine w_seq ?_
  refine w_region ?_
  refine rw_t 6 rfl rfl rfl (do_move rfl ?_)
  refine rw_t 7 rfl rfl rfl (do_len rfl ?_)
  refine rw_t 8 rfl rfl rfl (do_move rfl ?_)
  refine rw_nil ?_
  refine w_block ?_
  refine w_loopS (ι := Nat) (fun i => [(0, .slc 0 0 xs.length none), (1, .func 63 [] [.ptr 1 0 0]), (7, .val (.int .i64 ((xs.length : Nat) : Int))), (8, .val (.int .i64 ((i : Nat) : Int)))]) (fun i => [SO.ints false .i64 xs, .box [.val (.int .i64 m)]]) (fun i => xs.length - i) (fun i => i ≤ xs.length ∧ ∀ k, k < i → ¬ (xs.getD k 0 ≥ m)) (0) [0, 1] (⟨by simp, fun k hk => by omega⟩) ⟨shR rfl, shR rfl, trivial⟩ rfl (pre_ok rfl) hρ ⟨⟨_, rfl, rfl⟩, ⟨_, rfl, rfl⟩, ⟨_, rfl, rfl⟩, ⟨_, rfl, rfl⟩, trivial⟩ ?_
  rintro i ⟨g1, g2⟩
  refine w_seq ?_
  refine w_region ?_
  refine rw_t 9 rfl rfl rfl (do_bin rfl rfl rfl ?_)
  refine rw_nil ?_
  refine w_seq ?_
  refine w_cond rfl (fun hc1 => ?_) (fun hc1 => ?_)
  all_goals try simp only [bs] at hc1
  rotate_left
  · refine w_exit ?_
    refine w_seq ?_
    refine w_region ?_
    refine rw_t 4 rfl rfl rfl (do_assign rfl ?_)
    refine rw_nil ?_
    refine w_ret ?_
    exact ret_eq (.inl rfl) (.cons (res_tmp rfl) .nil) [0, 1] (Eq.symm (val_congr (by rw [idx_none (fun k hk => decide_eq_false (g2 k (by omega)))]))) ⟨shR rfl, shR rfl, trivial⟩ rfl (pre_ok rfl)
  refine w_skip ?_
  refine w_seq ?_
  refine w_block ?_
  refine w_seq ?_
  refine w_region ?_
  refine rw_t 10 rfl rfl rfl (do_move rfl ?_)
  refine rw_t 5 rfl rfl rfl (do_assign rfl ?_)
  refine rw_nil ?_
  refine w_seq ?_
  refine w_region ?_
  refine rw_t 11 rfl rfl rfl (do_move rfl ?_)
  refine rw_t 12 rfl rfl rfl (do_move rfl ?_)
  refine rw_t 13 rfl rfl rfl (do_move rfl ?_)
  refine rw_t 14 rfl rfl rfl (do_ixn rfl rfl rfl (by first | omega | (simp only [ls] <;> omega)) ?_)
  refine rw_t 15 rfl rfl rfl (do_load_arr rfl rfl (by first | omega | (simp only [ls] <;> omega)) rfl ?_)
  refine rw_t 16 rfl rfl rfl (n_callW (X' := .val (.bool (decide ((xs.getD i 0) ≥ m)))) (H' := [SO.ints false .i64 xs, .box [.val (.int .i64 m)]]) rfl rfl (t_fwrong (m := m) (x := (xs.getD i 0))) [1] ⟨shR rfl, trivial⟩ rfl rfl ⟨fun h => .inl rfl, (fun y hy => by simp at hy)⟩ rfl rfl ?_)
  refine rw_nil ?_
  refine w_cond rfl (fun hc2 => ?_) (fun hc2 => ?_)
  all_goals try simp only [bs] at hc2
  · refine w_seq ?_
    refine w_region ?_
    refine rw_t 17 rfl rfl rfl (do_move rfl ?_)
    refine rw_t 4 rfl rfl rfl (do_assign rfl ?_)
    refine rw_nil ?_
    refine w_ret ?_
    exact ret_eq (.inl rfl) (.cons (res_tmp rfl) .nil) [0, 1] (Eq.symm (val_congr (by rw [idx_at (by omega) (decide_eq_true hc2) (fun k hk => decide_eq_false (g2 k hk))]))) ⟨shR rfl, shR rfl, trivial⟩ rfl (pre_ok rfl)
  refine w_skip ?_
  refine w_region ?_
  refine rw_t 18 rfl rfl rfl (do_add rfl rfl (by omega) ?_)
  refine rw_t 8 rfl rfl rfl (do_move rfl ?_)
  refine rw_nil ?_
  refine ⟨i + 1, [0, 1], by dsimp only; omega, ⟨by omega, fun k hk => by rcases Nat.lt_or_ge k i with hki | hki; exact g2 k hki; have : k = i := (by omega); subst this; exact hc2⟩, ⟨shR rfl, shR rfl, trivial⟩, rfl, pre_ok rfl, ⟨⟨_, rfl, rfl⟩, ⟨_, rfl, rfl⟩, ⟨_, rfl, rfl⟩, ⟨_, rfl, rfl⟩, trivial⟩⟩
set_option maxHeartbeats 8000000 in
set_option synthInstance.maxHeartbeats 400000 in
set_option synthInstance.maxSize 2000 in
theorem t_fContains (m : Int) (xs : List Int) (hl : xs.length < 1073741824) : Tri Try.prog 64 [.slc 0 0 xs.length none, .func 63 [] [.ptr 1 0 0]] [SO.ints false .i64 xs, .box [.val (.int .i64 m)]] (fun s H => s = .val (.bool (decide (idxI (geQ m) xs ≥ 0))) ∧ H = [SO.ints false .i64 xs, .box [.val (.int .i64 m)]]) := by
  refine tri_of_w (fn := Try.f64) Try.func64 rfl (by simp [Try.f64]) ?_
  intro ρ w hρ
  refine w_seq ?_
  refine w_region ?_
  refine rw_t 4 rfl rfl rfl (do_assign rfl ?_)
  refine rw_nil ?_
  refine w_seq ?_
  refine w_region ?_
  refine rw_t 5 rfl rfl rfl (do_move rfl ?_)
  refine rw_t 6 rfl rfl rfl (do_move rfl ?_)
  refine rw_t 7 rfl rfl rfl (n_callW (X' := .val (.int .i64 (idxI (geQ m) xs))) (H' := [SO.ints false .i64 xs, .box [.val (.int .i64 m)]]) rfl rfl (t_fIndex (m := m) (xs := xs) (hl)) [0, 1] ⟨.inr ⟨_, rfl, srv⟩, shR rfl, trivial⟩ rfl rfl ⟨fun h => (by cases h), ⟨fun h => .inl rfl, (fun y hy => by simp at hy)⟩⟩ rfl rfl ?_)
  refine rw_t 8 rfl rfl rfl (do_bin rfl rfl rfl ?_)
  refine rw_t 4 rfl rfl rfl (do_assign rfl ?_)
  refine rw_nil ?_
  refine w_ret ?_
  exact ret_eq (.inl rfl) (.cons (res_tmp rfl) .nil) [0, 1] (rfl) ⟨shR rfl, shR rfl, trivial⟩ rfl (pre_ok rfl)
set_option maxHeartbeats 8000000 in
set_option synthInstance.maxHeartbeats 400000 in
set_option synthInstance.maxSize 2000 in
theorem t_Flow (c : Csr) (f : List Int) (m : Int) (h : CsrT c) (ho : CapOne c) (hm : 0 ≤ m ∧ m ≤ 16384) (ha : ∀ k : Nat, k < c.Arc.length → 0 ≤ c.Arc.getD k 0 ∧ c.Arc.getD k 0 < m) : Tri Try.prog 36 [.agg [.val (.int .i64 c.N), .val (.int .i64 c.S), .val (.int .i64 c.T), .slc 0 0 c.First.length none, .slc 1 0 c.Head.length none, .slc 2 0 c.Rev.length none, .slc 3 0 c.Cap.length none, .slc 4 0 c.Arc.length none, .slc 5 0 c.Back.length none], .slc 6 0 f.length none, .val (.int .i64 m)] [SO.ints false .i64 c.First, SO.ints false .i64 c.Head, SO.ints false .i64 c.Rev, SO.ints false .i64 c.Cap, SO.ints false .i64 c.Arc, SO.bools false c.Back, SO.ints false .i64 f] (fun s H => s = .tup [.slc 7 0 ((flowR c f m).1.length) none, .val (.int .i64 ((flowR c f m).2))] ∧ H = [SO.ints false .i64 c.First, SO.ints false .i64 c.Head, SO.ints false .i64 c.Rev, SO.ints false .i64 c.Cap, SO.ints false .i64 c.Arc, SO.bools false c.Back, SO.ints false .i64 f, SO.ints true .i64 ((flowR c f m).1)]) := by
  refine tri_of_w (fn := Try.f36) Try.func36 rfl (by simp [Try.f36]) ?_
  intro ρ w hρ
  refine w_seq ?_
  have hn := h.n
  have hf := h.first
  have hhd := h.head
  have hrl := h.rev
  have hcl := h.cap
  have hal := h.arc
  have hbl := h.back
  have hsm := h.small
  have hng : ¬ (idxI (geQ m) c.Arc ≥ 0) := idx_ge.2 fun v hv => (ha v hv).2
  refine w_region ?_
  refine rw_t 3 rfl rfl rfl (n_box_agg (n := 7) rfl rfl ?_)
  refine rw_t 5 rfl rfl rfl (n_box (n := 8) rfl rfl rfl ?_)
  refine rw_t 6 rfl rfl rfl (do_assign rfl ?_)
  refine rw_t 7 rfl rfl rfl (do_assign rfl ?_)
  refine rw_nil ?_
  refine w_seq ?_
  refine w_region ?_
  refine rw_t 13 rfl rfl rfl (do_makefunc rfl rfl ?_)
  refine rw_t 8 rfl rfl rfl (do_assign rfl ?_)
  refine rw_nil ?_
  refine w_seq ?_
  refine w_seqB 32 ((((((f.length : Nat) : Int) ≠ ((c.Head.length : Nat) : Int) ∨ m < 0) ∨ m > 16384) ∨ idxI (geQ m) c.Arc ≥ 0)) ?_ ?_
  · -- region 2
    refine w_region ?_
    refine rw_t 14 rfl rfl rfl (do_move rfl ?_)
    refine rw_t 15 rfl rfl rfl (do_len rfl ?_)
    refine rw_t 16 rfl rfl rfl (n_load_boxagg [_, _, _, _, _, _, _, _, _] rfl rfl (Nat.le_of_ble_eq_true rfl) rfl ?_)
    refine rw_t 17 rfl rfl rfl (do_callR (X' := .val (.int .i64 ((c.Head.length : Nat) : Int))) rfl rfl (t_Len (c := c)) [0, 1, 2, 3, 4, 5] ⟨.inr ⟨_, rfl, srv⟩, .inr ⟨_, rfl, srv⟩, .inr ⟨_, rfl, srv⟩, .inr ⟨_, rfl, srv⟩, .inr ⟨_, rfl, srv⟩, .inr ⟨_, rfl, srv⟩, trivial⟩ rfl rfl rfl ?_)
    refine rw_t 18 rfl rfl rfl (do_bin rfl rfl rfl ?_)
    refine rw_t 19 rfl rfl rfl (do_move rfl ?_)
    refine rw_case 19 rfl (fun g1 => ?_) (fun g1 => ?_)
    · have kg1 := g1
      try simp only [bs] at kg1
      refine rw_gf 20 5 19 false rfl rfl rfl rfl rfl rfl (by rw [g1]; decide) ?_
      refine rw_gf 21 5 19 false rfl rfl rfl rfl rfl rfl (by rw [g1]; decide) ?_
      refine rw_t 22 rfl rfl rfl (do_pick_t rfl g1 rfl ?_)
      refine rw_t 23 rfl rfl rfl (do_move rfl ?_)
      refine rw_gf 24 9 23 false rfl rfl rfl rfl rfl rfl (by decide) ?_
      refine rw_gf 25 9 23 false rfl rfl rfl rfl rfl rfl (by decide) ?_
      refine rw_t 26 rfl rfl rfl (do_pick_t rfl rfl rfl ?_)
      refine rw_t 27 rfl rfl rfl (do_move rfl ?_)
      refine rw_gf 28 13 27 false rfl rfl rfl rfl rfl rfl (by decide) ?_
      refine rw_gf 29 13 27 false rfl rfl rfl rfl rfl rfl (by decide) ?_
      refine rw_gf 30 13 27 false rfl rfl rfl rfl rfl rfl (by decide) ?_
      refine rw_gf 31 13 27 false rfl rfl rfl rfl rfl rfl (by decide) ?_
      refine rw_t 32 rfl rfl rfl (do_pick_t rfl rfl rfl ?_)
      refine rw_nil ?_
      refine ⟨rfl, ⟨_, rfl, by first | (simp; done) | (simp only [bs]; omega) | (simp [*]; done) | (simp; omega) | (constructor <;> intro h <;> simp_all <;> omega)⟩, ?_⟩
      repeat (refine ⟨⟨_, rfl, rfl⟩, ?_⟩)
      exact trivial
    · have kg1 := g1
      try simp only [bs] at kg1
      refine rw_gt 20 5 19 false rfl rfl rfl rfl rfl rfl g1 (do_load_box rfl rfl rfl ?_)
      refine rw_gt 21 5 19 false rfl rfl rfl rfl rfl rfl g1 (do_bin rfl rfl rfl ?_)
      refine rw_t 22 rfl rfl rfl (do_pick_f rfl g1 rfl ?_)
      refine rw_t 23 rfl rfl rfl (do_move rfl ?_)
      refine rw_case 23 rfl (fun g2 => ?_) (fun g2 => ?_)
      · have kg2 := g2
        try simp only [bs] at kg2
        refine rw_gf 24 9 23 false rfl rfl rfl rfl rfl rfl (by rw [g2]; decide) ?_
        refine rw_gf 25 9 23 false rfl rfl rfl rfl rfl rfl (by rw [g2]; decide) ?_
        refine rw_t 26 rfl rfl rfl (do_pick_t rfl g2 rfl ?_)
        refine rw_t 27 rfl rfl rfl (do_move rfl ?_)
        refine rw_gf 28 13 27 false rfl rfl rfl rfl rfl rfl (by decide) ?_
        refine rw_gf 29 13 27 false rfl rfl rfl rfl rfl rfl (by decide) ?_
        refine rw_gf 30 13 27 false rfl rfl rfl rfl rfl rfl (by decide) ?_
        refine rw_gf 31 13 27 false rfl rfl rfl rfl rfl rfl (by decide) ?_
        refine rw_t 32 rfl rfl rfl (do_pick_t rfl rfl rfl ?_)
        refine rw_nil ?_
        refine ⟨rfl, ⟨_, rfl, by first | (simp; done) | (simp only [bs]; omega) | (simp [*]; done) | (simp; omega) | (constructor <;> intro h <;> simp_all <;> omega)⟩, ?_⟩
        repeat (refine ⟨⟨_, rfl, rfl⟩, ?_⟩)
        exact trivial
      · have kg2 := g2
        try simp only [bs] at kg2
        refine rw_gt 24 9 23 false rfl rfl rfl rfl rfl rfl g2 (do_load_box rfl rfl rfl ?_)
        refine rw_gt 25 9 23 false rfl rfl rfl rfl rfl rfl g2 (do_bin rfl rfl rfl ?_)
        refine rw_t 26 rfl rfl rfl (do_pick_f rfl g2 rfl ?_)
        refine rw_t 27 rfl rfl rfl (do_move rfl ?_)
        refine rw_case 27 rfl (fun g3 => ?_) (fun g3 => ?_)
        · have kg3 := g3
          try simp only [bs] at kg3
          refine rw_gf 28 13 27 false rfl rfl rfl rfl rfl rfl (by rw [g3]; decide) ?_
          refine rw_gf 29 13 27 false rfl rfl rfl rfl rfl rfl (by rw [g3]; decide) ?_
          refine rw_gf 30 13 27 false rfl rfl rfl rfl rfl rfl (by rw [g3]; decide) ?_
          refine rw_gf 31 13 27 false rfl rfl rfl rfl rfl rfl (by rw [g3]; decide) ?_
          refine rw_t 32 rfl rfl rfl (do_pick_t rfl g3 rfl ?_)
          refine rw_nil ?_
          refine ⟨rfl, ⟨_, rfl, by first | (simp; done) | (simp only [bs]; omega) | (simp [*]; done) | (simp; omega) | (constructor <;> intro h <;> simp_all <;> omega)⟩, ?_⟩
          repeat (refine ⟨⟨_, rfl, rfl⟩, ?_⟩)
          exact trivial
        · have kg3 := g3
          try simp only [bs] at kg3
          refine rw_gt 28 13 27 false rfl rfl rfl rfl rfl rfl g3 (do_fieldaddr rfl ?_)
          refine rw_gt 29 13 27 false rfl rfl rfl rfl rfl rfl g3 (do_load_box rfl rfl rfl ?_)
          refine rw_gt 30 13 27 false rfl rfl rfl rfl rfl rfl g3 (do_move rfl ?_)
          refine rw_gt 31 13 27 false rfl rfl rfl rfl rfl rfl g3 (n_callW (X' := .val (.bool (decide (idxI (geQ m) c.Arc ≥ 0)))) (H' := [SO.ints false .i64 c.First, SO.ints false .i64 c.Head, SO.ints false .i64 c.Rev, SO.ints false .i64 c.Cap, SO.ints false .i64 c.Arc, SO.bools false c.Back, SO.ints false .i64 f, .box [.val (.int .i64 c.N), .val (.int .i64 c.S), .val (.int .i64 c.T), .slc 0 0 c.First.length none, .slc 1 0 c.Head.length none, .slc 2 0 c.Rev.length none, .slc 3 0 c.Cap.length none, .slc 4 0 c.Arc.length none, .slc 5 0 c.Back.length none], .box [.val (.int .i64 m)]]) rfl rfl (t_fContains (m := m) (xs := c.Arc) (by omega)) [4, 8] ⟨.inr ⟨_, rfl, srv⟩, shR rfl, trivial⟩ rfl rfl ⟨fun h => (by cases h), ⟨fun h => .inl rfl, (fun y hy => by simp at hy)⟩⟩ rfl rfl ?_)
          refine rw_t 32 rfl rfl rfl (do_pick_f rfl g3 rfl ?_)
          refine rw_nil ?_
          refine ⟨rfl, ⟨_, rfl, by first | (simp; done) | (simp only [bs]; omega) | (simp [*]; done) | (simp; omega) | (constructor <;> intro h <;> simp_all <;> omega)⟩, ?_⟩
          repeat (refine ⟨⟨_, rfl, rfl⟩, ?_⟩)
          exact trivial
  intro b1 hb1
  refine w_condP hb1 rfl (fun hc1 => ?_) (fun hc1 => ?_)
  · refine w_seq ?_
    refine w_region ?_
    refine rw_t 6 rfl rfl rfl (do_assign rfl ?_)
    refine rw_t 7 rfl rfl rfl (do_assign rfl ?_)
    refine rw_nil ?_
    have hno : f.length ≠ c.Head.length := by omega
    have e1 : flowR c f m = ([], 2) := by unfold flowR; rw [if_neg hno]
    refine n_ghost Int 1 (encI .i64) 0 (fun _ => rfl) (fun _ _ h => by simp [encI] at h; subst h; rfl) ?_
    refine w_nilE 6 9 0 rfl ?_
    refine w_ret ?_
    exact ret_eq (.inl rfl) (.cons (res_tmp rfl) (.cons (res_tmp rfl) .nil)) [0, 1, 2, 3, 4, 5, 6, 9] (by rw [e1]; rfl) ⟨shR rfl, shR rfl, shR rfl, shR rfl, shR rfl, shR rfl, shR rfl, .inr ⟨_, rfl, .inl (congrArg (SO.ints true .i64) (by rw [e1]; try rfl))⟩, trivial⟩ rfl (pre_ok rfl)
  refine w_skip ?_
  refine w_seq ?_
  have hfl : f.length = c.Head.length := by omega
  refine w_region ?_
  refine rw_t 33 rfl rfl rfl (do_load_box rfl rfl rfl ?_)
  refine rw_t 34 rfl rfl rfl (n_make (nm := 9) Int (encI .i64) 0 rfl rfl rfl (fun _ => rfl) (fun _ _ h => by simp [encI] at h; subst h; rfl) (by omega) (by omega) (by omega) rfl ?_)
  refine rw_cap 34 rfl ?_
  refine rw_t 9 rfl rfl rfl (do_assign rfl ?_)
  refine rw_nil ?_
  refine w_seq ?_
  refine w_seq ?_
  refine w_region ?_
  refine rw_t 35 rfl rfl rfl (do_move rfl ?_)
  refine rw_t 36 rfl rfl rfl (do_len rfl ?_)
  refine rw_t 37 rfl rfl rfl (do_move rfl ?_)
  refine rw_nil ?_
  refine w_block ?_
  refine w_loopS (ι := Nat) (fun i => [(1, .slc 6 0 f.length none), (3, .ptr 7 0 0), (9, .slc 9 0 ((flowL c f m i).length) none), (35, .slc 6 0 f.length none), (36, .val (.int .i64 ((f.length : Nat) : Int))), (37, .val (.int .i64 ((i : Nat) : Int)))]) (fun i => [SO.ints false .i64 c.First, SO.ints false .i64 c.Head, SO.ints false .i64 c.Rev, SO.ints false .i64 c.Cap, SO.ints false .i64 c.Arc, SO.bools false c.Back, SO.ints false .i64 f, .box [.val (.int .i64 c.N), .val (.int .i64 c.S), .val (.int .i64 c.T), .slc 0 0 c.First.length none, .slc 1 0 c.Head.length none, .slc 2 0 c.Rev.length none, .slc 3 0 c.Cap.length none, .slc 4 0 c.Arc.length none, .slc 5 0 c.Back.length none], .box [.val (.int .i64 m)], SO.ints true .i64 (flowL c f m i)]) (fun i => f.length - i) (fun i => i ≤ f.length ∧ ∀ a : Nat, a < i → 0 ≤ f.getD a 0 ∧ f.getD a 0 ≤ mostOf c a ∧ f.getD (c.Rev.getD a 0).toNat 0 = mostOf c a - f.getD a 0) (0) [0, 1, 2, 3, 4, 5, 6, 7, 8, 9] (⟨by simp, fun a ha => by omega⟩) ⟨shR rfl, shR rfl, shR rfl, shR rfl, shR rfl, shR rfl, shR rfl, shR rfl, shR rfl, shR rfl, trivial⟩ rfl (pre_ok rfl) hρ ⟨⟨_, rfl, rfl⟩, ⟨_, rfl, rfl⟩, ⟨_, rfl, congrArg (fun n => SV.slc 9 0 n none) (by simp [flowL])⟩, ⟨_, rfl, rfl⟩, ⟨_, rfl, rfl⟩, ⟨_, rfl, rfl⟩, trivial⟩ ?_
  rintro i ⟨g1, g2⟩
  refine w_seq ?_
  refine w_region ?_
  refine rw_t 38 rfl rfl rfl (do_bin rfl rfl rfl ?_)
  refine rw_nil ?_
  refine w_seq ?_
  refine w_cond rfl (fun hc2 => ?_) (fun hc2 => ?_)
  all_goals try simp only [bs] at hc2
  rotate_left
  · refine w_exit ?_
    refine w_seq ?_
    refine w_region ?_
    refine rw_t 94 rfl rfl rfl (do_move rfl ?_)
    refine rw_t 6 rfl rfl rfl (do_assign rfl ?_)
    refine rw_t 7 rfl rfl rfl (do_assign rfl ?_)
    refine rw_nil ?_
    have hi' : i = c.Head.length := by omega
    subst hi'
    have e1 : flowR c f m = (flowL c f m c.Head.length, 0) := by unfold flowR; rw [if_pos hfl, if_pos (show pairsP c f from g2)]
    refine w_ret ?_
    exact ret_eq (.inl rfl) (.cons (res_tmp rfl) (.cons (res_tmp rfl) .nil)) [0, 1, 2, 3, 4, 5, 6, 9] (by rw [e1]; rfl) ⟨shR rfl, shR rfl, shR rfl, shR rfl, shR rfl, shR rfl, shR rfl, .inr ⟨_, rfl, .inl (congrArg (SO.ints true .i64) (by rw [e1]; try rfl))⟩, trivial⟩ rfl (pre_ok rfl)
  refine w_skip ?_
  refine w_seq ?_
  refine w_block ?_
  refine w_seq ?_
  have hrv := h.rv i (by omega)
  have hmx := most_max h.toCsrOK ho (show i < c.Head.length by omega)
  have hcp := h.cp i (by omega)
  have hai := ha i (by omega)
  have hfn := flowL_len c f m i
  have hmr : mostOf c i = c.Cap.getD i 0 + c.Cap.getD (c.Rev.getD i 0).toNat 0 := rfl
  refine w_region ?_
  refine rw_t 39 rfl rfl rfl (do_move rfl ?_)
  refine rw_t 40 rfl rfl rfl (do_ixn rfl rfl rfl (by first | omega | (simp only [ls] <;> omega)) ?_)
  refine rw_t 41 rfl rfl rfl (do_load_arr rfl rfl (by first | omega | (simp only [ls] <;> omega)) rfl ?_)
  refine rw_t 10 rfl rfl rfl (do_assign rfl ?_)
  refine rw_t 11 rfl rfl rfl (do_assign rfl ?_)
  refine rw_nil ?_
  refine w_seq ?_
  refine w_draw mixed [0, 1, 0, 7, 15, 0, 32, 0, 128, 0, 896, 1920, 4064, 8160] [16383, 32767] (by kernel_rfl) (by kernel_rfl) rfl rfl rfl (hle hρ rfl) ?_
  refine ra_q (j := 0) rfl rfl rfl rfl (do_fieldaddr rfl ⟨rfl, rfl⟩) (by rfl) ?_
  refine ra_q (j := 1) rfl rfl rfl rfl (do_load_box rfl rfl rfl ⟨rfl, rfl⟩) (by rfl) ?_
  refine ra_q (j := 2) rfl rfl rfl rfl (do_move rfl ⟨rfl, rfl⟩) (by rfl) ?_
  refine ra_q (j := 3) rfl rfl rfl rfl (do_ixn rfl rfl rfl (by first | omega | (simp only [ls] <;> omega)) ⟨rfl, rfl⟩) (by rfl) ?_
  refine ra_q (j := 4) rfl rfl rfl rfl (do_load_arr rfl rfl (by first | omega | (simp only [ls] <;> omega)) rfl ⟨rfl, rfl⟩) (by rfl) ?_
  refine ra_q (j := 5) rfl rfl rfl rfl (do_fieldaddr rfl ⟨rfl, rfl⟩) (by rfl) ?_
  refine ra_q (j := 6) rfl rfl rfl rfl (do_load_box rfl rfl rfl ⟨rfl, rfl⟩) (by rfl) ?_
  refine ra_q (j := 7) rfl rfl rfl rfl (do_fieldaddr rfl ⟨rfl, rfl⟩) (by rfl) ?_
  refine ra_q (j := 8) rfl rfl rfl rfl (do_load_box rfl rfl rfl ⟨rfl, rfl⟩) (by rfl) ?_
  refine ra_q (j := 9) rfl rfl rfl rfl (do_move rfl ⟨rfl, rfl⟩) (by rfl) ?_
  refine ra_q (j := 10) rfl rfl rfl rfl (do_ixn rfl rfl rfl (by first | omega | (simp only [ls] <;> omega)) ⟨rfl, rfl⟩) (by rfl) ?_
  refine ra_q (j := 11) rfl rfl rfl rfl (do_load_arr rfl rfl (by first | omega | (simp only [ls] <;> omega)) rfl ⟨rfl, rfl⟩) (by rfl) ?_
  refine ra_q (j := 12) rfl rfl rfl rfl (do_ix0 rfl rfl rfl (by first | omega | (simp only [ls] <;> omega)) ⟨rfl, rfl⟩) (by rfl) ?_
  refine ra_q (j := 13) rfl rfl rfl rfl (do_load_arr rfl rfl (by first | omega | (simp only [ls] <;> omega)) rfl ⟨rfl, rfl⟩) (by rfl) ?_
  refine n_done ?_
  refine rw_t 56 rfl rfl rfl (do_max rfl rfl ?_)
  refine rw_as (.val (.int .i64 (mostOf c i))) (val_congr (hmx)) ?_
  refine rw_t 12 rfl rfl rfl (do_assign rfl ?_)
  refine rw_nil ?_
  refine w_block ?_
  refine w_env [(1, .slc 6 0 f.length none), (3, .ptr 7 0 0), (9, .slc 9 0 ((flowL c f m i).length) none), (10, .val (.int .i64 ((i : Nat) : Int))), (11, .val (.int .i64 (f.getD i 0))), (12, .val (.int .i64 (mostOf c i))), (35, .slc 6 0 f.length none), (36, .val (.int .i64 ((f.length : Nat) : Int))), (37, .val (.int .i64 ((i : Nat) : Int))), (38, .val (.bool (decide (((i : Nat) : Int) < ((f.length : Nat) : Int))))), (39, .val (.int .i64 ((i : Nat) : Int))), (40, .ptr 6 i 0), (41, .val (.int .i64 (f.getD i 0))), (42, .ptr 7 0 6), (43, .slc 3 0 c.Cap.length none), (44, .val (.int .i64 ((i : Nat) : Int))), (45, .ptr 3 i 0), (46, .val (.int .i64 (c.Cap.getD i 0))), (47, .ptr 7 0 6), (48, .slc 3 0 c.Cap.length none), (49, .ptr 7 0 5), (50, .slc 2 0 c.Rev.length none), (51, .val (.int .i64 ((i : Nat) : Int))), (52, .ptr 2 i 0), (53, .val (.int .i64 (c.Rev.getD i 0))), (54, .ptr 3 ((c.Rev.getD i 0).toNat) 0), (55, .val (.int .i64 (c.Cap.getD ((c.Rev.getD i 0).toNat) 0))), (56, .val (.int .i64 (mostOf c i)))] ⟨⟨_, rfl, rfl⟩, ⟨_, rfl, rfl⟩, ⟨_, rfl, rfl⟩, ⟨_, rfl, rfl⟩, ⟨_, rfl, rfl⟩, ⟨_, rfl, rfl⟩, ⟨_, rfl, rfl⟩, ⟨_, rfl, rfl⟩, ⟨_, rfl, rfl⟩, ⟨_, rfl, rfl⟩, ⟨_, rfl, rfl⟩, ⟨_, rfl, rfl⟩, ⟨_, rfl, rfl⟩, ⟨_, rfl, rfl⟩, ⟨_, rfl, rfl⟩, ⟨_, rfl, rfl⟩, ⟨_, rfl, rfl⟩, ⟨_, rfl, rfl⟩, ⟨_, rfl, rfl⟩, ⟨_, rfl, rfl⟩, ⟨_, rfl, rfl⟩, ⟨_, rfl, rfl⟩, ⟨_, rfl, rfl⟩, ⟨_, rfl, rfl⟩, ⟨_, rfl, rfl⟩, ⟨_, rfl, rfl⟩, ⟨_, rfl, rfl⟩, ⟨_, rfl, rfl⟩, trivial⟩ ?_
  refine w_seqB 57 ((((f.getD i 0) < 0 ∨ (f.getD i 0) > mostOf c i) ∨ (f.getD ((c.Rev.getD i 0).toNat) 0) ≠ (mostOf c i - (f.getD i 0)))) ?_ ?_
  · -- region 9
    refine w_region ?_
    refine rw_t 58 rfl rfl rfl (do_move rfl ?_)
    refine rw_t 59 rfl rfl rfl (do_bin rfl rfl rfl ?_)
    refine rw_t 60 rfl rfl rfl (do_move rfl ?_)
    refine rw_case 60 rfl (fun g4 => ?_) (fun g4 => ?_)
    · have kg4 := g4
      try simp only [bs] at kg4
      refine rw_gf 61 2 60 false rfl rfl rfl rfl rfl rfl (by rw [g4]; decide) ?_
      refine rw_gf 62 2 60 false rfl rfl rfl rfl rfl rfl (by rw [g4]; decide) ?_
      refine rw_gf 63 2 60 false rfl rfl rfl rfl rfl rfl (by rw [g4]; decide) ?_
      refine rw_t 64 rfl rfl rfl (do_pick_t rfl g4 rfl ?_)
      refine rw_t 65 rfl rfl rfl (do_move rfl ?_)
      refine rw_gf 66 7 65 false rfl rfl rfl rfl rfl rfl (by decide) ?_
      refine rw_gf 67 7 65 false rfl rfl rfl rfl rfl rfl (by decide) ?_
      refine rw_gf 68 7 65 false rfl rfl rfl rfl rfl rfl (by decide) ?_
      refine rw_gf 69 7 65 false rfl rfl rfl rfl rfl rfl (by decide) ?_
      refine rw_gf 70 7 65 false rfl rfl rfl rfl rfl rfl (by decide) ?_
      refine rw_gf 71 7 65 false rfl rfl rfl rfl rfl rfl (by decide) ?_
      refine rw_gf 72 7 65 false rfl rfl rfl rfl rfl rfl (by decide) ?_
      refine rw_gf 73 7 65 false rfl rfl rfl rfl rfl rfl (by decide) ?_
      refine rw_gf 74 7 65 false rfl rfl rfl rfl rfl rfl (by decide) ?_
      refine rw_gf 75 7 65 false rfl rfl rfl rfl rfl rfl (by decide) ?_
      refine rw_gf 76 7 65 false rfl rfl rfl rfl rfl rfl (by decide) ?_
      refine rw_gf 77 7 65 false rfl rfl rfl rfl rfl rfl (by decide) ?_
      refine rw_t 78 rfl rfl rfl (do_pick_t rfl rfl rfl ?_)
      refine rw_t 57 rfl rfl rfl (do_assign rfl ?_)
      refine rw_nil ?_
      refine ⟨rfl, ⟨_, rfl, by first | (simp; done) | (simp only [bs]; omega) | (simp [*]; done) | (simp; omega) | (constructor <;> intro h <;> simp_all <;> omega)⟩, ?_⟩
      repeat (refine ⟨⟨_, rfl, rfl⟩, ?_⟩)
      exact trivial
    · have kg4 := g4
      try simp only [bs] at kg4
      refine rw_gt 61 2 60 false rfl rfl rfl rfl rfl rfl g4 (do_move rfl ?_)
      refine rw_gt 62 2 60 false rfl rfl rfl rfl rfl rfl g4 (do_move rfl ?_)
      refine rw_gt 63 2 60 false rfl rfl rfl rfl rfl rfl g4 (do_bin rfl rfl rfl ?_)
      refine rw_t 64 rfl rfl rfl (do_pick_f rfl g4 rfl ?_)
      refine rw_t 65 rfl rfl rfl (do_move rfl ?_)
      refine rw_case 65 rfl (fun g5 => ?_) (fun g5 => ?_)
      · have kg5 := g5
        try simp only [bs] at kg5
        refine rw_gf 66 7 65 false rfl rfl rfl rfl rfl rfl (by rw [g5]; decide) ?_
        refine rw_gf 67 7 65 false rfl rfl rfl rfl rfl rfl (by rw [g5]; decide) ?_
        refine rw_gf 68 7 65 false rfl rfl rfl rfl rfl rfl (by rw [g5]; decide) ?_
        refine rw_gf 69 7 65 false rfl rfl rfl rfl rfl rfl (by rw [g5]; decide) ?_
        refine rw_gf 70 7 65 false rfl rfl rfl rfl rfl rfl (by rw [g5]; decide) ?_
        refine rw_gf 71 7 65 false rfl rfl rfl rfl rfl rfl (by rw [g5]; decide) ?_
        refine rw_gf 72 7 65 false rfl rfl rfl rfl rfl rfl (by rw [g5]; decide) ?_
        refine rw_gf 73 7 65 false rfl rfl rfl rfl rfl rfl (by rw [g5]; decide) ?_
        refine rw_gf 74 7 65 false rfl rfl rfl rfl rfl rfl (by rw [g5]; decide) ?_
        refine rw_gf 75 7 65 false rfl rfl rfl rfl rfl rfl (by rw [g5]; decide) ?_
        refine rw_gf 76 7 65 false rfl rfl rfl rfl rfl rfl (by rw [g5]; decide) ?_
        refine rw_gf 77 7 65 false rfl rfl rfl rfl rfl rfl (by rw [g5]; decide) ?_
        refine rw_t 78 rfl rfl rfl (do_pick_t rfl g5 rfl ?_)
        refine rw_t 57 rfl rfl rfl (do_assign rfl ?_)
        refine rw_nil ?_
        refine ⟨rfl, ⟨_, rfl, by first | (simp; done) | (simp only [bs]; omega) | (simp [*]; done) | (simp; omega) | (constructor <;> intro h <;> simp_all <;> omega)⟩, ?_⟩
        repeat (refine ⟨⟨_, rfl, rfl⟩, ?_⟩)
        exact trivial
      · have kg5 := g5
        try simp only [bs] at kg5
        refine rw_gt 66 7 65 false rfl rfl rfl rfl rfl rfl g5 (do_move rfl ?_)
        refine rw_gt 67 7 65 false rfl rfl rfl rfl rfl rfl g5 (do_fieldaddr rfl ?_)
        refine rw_gt 68 7 65 false rfl rfl rfl rfl rfl rfl g5 (do_load_box rfl rfl rfl ?_)
        refine rw_gt 69 7 65 false rfl rfl rfl rfl rfl rfl g5 (do_move rfl ?_)
        refine rw_gt 70 7 65 false rfl rfl rfl rfl rfl rfl g5 (do_ixn rfl rfl rfl (by first | omega | (simp only [ls] <;> omega)) ?_)
        refine rw_gt 71 7 65 false rfl rfl rfl rfl rfl rfl g5 (do_load_arr rfl rfl (by first | omega | (simp only [ls] <;> omega)) rfl ?_)
        refine rw_gt 72 7 65 false rfl rfl rfl rfl rfl rfl g5 (do_ix0 rfl rfl rfl (by first | omega | (simp only [ls] <;> omega)) ?_)
        refine rw_gt 73 7 65 false rfl rfl rfl rfl rfl rfl g5 (do_load_arr rfl rfl (by first | omega | (simp only [ls] <;> omega)) rfl ?_)
        refine rw_gt 74 7 65 false rfl rfl rfl rfl rfl rfl g5 (do_move rfl ?_)
        refine rw_gt 75 7 65 false rfl rfl rfl rfl rfl rfl g5 (do_move rfl ?_)
        refine rw_gt 76 7 65 false rfl rfl rfl rfl rfl rfl g5 (do_sub rfl rfl (by omega) ?_)
        refine rw_gt 77 7 65 false rfl rfl rfl rfl rfl rfl g5 (do_bin rfl rfl rfl ?_)
        refine rw_t 78 rfl rfl rfl (do_pick_f rfl g5 rfl ?_)
        refine rw_t 57 rfl rfl rfl (do_assign rfl ?_)
        refine rw_nil ?_
        refine ⟨rfl, ⟨_, rfl, by first | (simp; done) | (simp only [bs]; omega) | (simp [*]; done) | (simp; omega) | (constructor <;> intro h <;> simp_all <;> omega)⟩, ?_⟩
        repeat (refine ⟨⟨_, rfl, rfl⟩, ?_⟩)
        exact trivial
  intro b2 hb2
  refine w_condP hb2 rfl (fun hc3 => ?_) (fun hc3 => ?_)
  · refine w_seq ?_
    refine w_region ?_
    refine rw_t 6 rfl rfl rfl (do_assign rfl ?_)
    refine rw_t 7 rfl rfl rfl (do_assign rfl ?_)
    refine rw_nil ?_
    have hno : ¬ pairsP c f := fun q => by have := q i (by omega); omega
    have e1 : flowR c f m = ([], 20) := by unfold flowR; rw [if_pos hfl, if_neg hno]
    refine n_ghost Int 1 (encI .i64) 0 (fun _ => rfl) (fun _ _ h => by simp [encI] at h; subst h; rfl) ?_
    refine w_nilE 6 10 0 rfl ?_
    refine w_ret ?_
    exact ret_eq (.inl rfl) (.cons (res_tmp rfl) (.cons (res_tmp rfl) .nil)) [0, 1, 2, 3, 4, 5, 6, 10] (by rw [e1]; rfl) ⟨shR rfl, shR rfl, shR rfl, shR rfl, shR rfl, shR rfl, shR rfl, .inr ⟨_, rfl, .inl (congrArg (SO.ints true .i64) (by rw [e1]; try rfl))⟩, trivial⟩ rfl (pre_ok rfl)
  refine w_seq ?_
  refine w_region ?_
  refine rw_t 80 rfl rfl rfl (do_fieldaddr rfl ?_)
  refine rw_t 81 rfl rfl rfl (do_load_box rfl rfl rfl ?_)
  refine rw_t 82 rfl rfl rfl (do_move rfl ?_)
  refine rw_t 83 rfl rfl rfl (do_ixn rfl rfl rfl (by first | omega | (simp only [ls] <;> omega)) ?_)
  refine rw_t 84 rfl rfl rfl (do_load_arr rfl rfl (by first | omega | (simp only [ls] <;> omega)) rfl ?_)
  refine rw_t 79 rfl rfl rfl (do_assign rfl ?_)
  refine rw_nil ?_
  refine w_cond rfl (fun hc4 => ?_) (fun hc4 => ?_)
  all_goals try simp only [bs] at hc4
  · -- region 12
    refine w_region ?_
    refine rw_t 85 rfl rfl rfl (do_move rfl ?_)
    refine rw_t 86 rfl rfl rfl (do_fieldaddr rfl ?_)
    refine rw_t 87 rfl rfl rfl (do_load_box rfl rfl rfl ?_)
    refine rw_t 88 rfl rfl rfl (do_move rfl ?_)
    refine rw_t 89 rfl rfl rfl (do_ixn rfl rfl rfl (by first | omega | (simp only [ls] <;> omega)) ?_)
    refine rw_t 90 rfl rfl rfl (do_load_arr rfl rfl (by first | omega | (simp only [ls] <;> omega)) rfl ?_)
    refine rw_t 91 rfl rfl rfl (do_move rfl ?_)
    refine rw_t 92 rfl rfl rfl (do_ix0 rfl rfl rfl (by first | omega | (simp only [ls] <;> omega)) ?_)
    refine rw_u rfl rfl (n_store_arr (z := (f.getD i 0)) rfl rfl rfl (by first | omega | (simp only [ls] <;> omega)) rfl (by decide) rfl ?_)
    refine rw_nil ?_
    refine w_region ?_
    refine rw_t 93 rfl rfl rfl (do_add rfl rfl (by omega) ?_)
    refine rw_t 37 rfl rfl rfl (do_move rfl ?_)
    refine rw_nil ?_
    refine ⟨i + 1, [0, 1, 2, 3, 4, 5, 6, 7, 8, 9], by dsimp only; omega, ⟨by omega, fun a ha' => by rcases Nat.lt_or_ge a i with q | q; exact g2 a q; have : a = i := (by omega); subst this; omega⟩, ⟨shR rfl, shR rfl, shR rfl, shR rfl, shR rfl, shR rfl, shR rfl, shR rfl, shR rfl, .inr ⟨_, rfl, .inl (congrArg (SO.ints true .i64) (by simp only [flowL]; rw [if_pos hc4]))⟩, trivial⟩, rfl, pre_ok rfl, ⟨⟨_, rfl, rfl⟩, ⟨_, rfl, rfl⟩, ⟨_, rfl, (congrArg (fun n => SV.slc 9 0 n none) ((flowL_len c f m i).trans (flowL_len c f m (i + 1)).symm)).trans rfl⟩, ⟨_, rfl, rfl⟩, ⟨_, rfl, rfl⟩, ⟨_, rfl, rfl⟩, trivial⟩⟩
  · refine w_skip ?_
    refine w_region ?_
    refine rw_t 93 rfl rfl rfl (do_add rfl rfl (by omega) ?_)
    refine rw_t 37 rfl rfl rfl (do_move rfl ?_)
    refine rw_nil ?_
    refine ⟨i + 1, [0, 1, 2, 3, 4, 5, 6, 7, 8, 9], by dsimp only; omega, ⟨by omega, fun a ha' => by rcases Nat.lt_or_ge a i with q | q; exact g2 a q; have : a = i := (by omega); subst this; omega⟩, ⟨shR rfl, shR rfl, shR rfl, shR rfl, shR rfl, shR rfl, shR rfl, shR rfl, shR rfl, .inr ⟨_, rfl, .inl (congrArg (SO.ints true .i64) (by simp only [flowL]; rw [if_neg (by rw [hc4]; decide)]))⟩, trivial⟩, rfl, pre_ok rfl, ⟨⟨_, rfl, rfl⟩, ⟨_, rfl, rfl⟩, ⟨_, rfl, (congrArg (fun n => SV.slc 9 0 n none) ((flowL_len c f m i).trans (flowL_len c f m (i + 1)).symm)).trans rfl⟩, ⟨_, rfl, rfl⟩, ⟨_, rfl, rfl⟩, ⟨_, rfl, rfl⟩, trivial⟩⟩
end Go.Proofs

set_option linter.unusedVariables false
set_option linter.unusedSimpArgs false
namespace Go.Proofs
open Go Go.Sx Go.RowKit
def ArcIn (c : Csr) : Prop := ∀ k : Nat, k < c.Arc.length → 0 ≤ c.Arc.getD k 0 ∧ c.Arc.getD k 0 < 16384
def topK (c : Csr) : Nat → Int
  | 0 => 0
  | k + 1 => if c.Arc.getD k 0 + 1 > topK c k then c.Arc.getD k 0 + 1 else topK c k
def topA (c : Csr) : Int := topK c c.Arc.length
theorem topK_in {c : Csr} (h : ArcIn c) : ∀ k, k ≤ c.Arc.length → (0 ≤ topK c k ∧ topK c k ≤ 16384) ∧ ∀ j, j < k → c.Arc.getD j 0 < topK c k
  | 0, _ => ⟨by simp [topK], fun j hj => by omega⟩
  | k + 1, hk => by
    obtain ⟨i1, i2⟩ := topK_in h k (by omega)
    have h1 := h k (by omega)
    unfold topK
    split
    · refine ⟨by omega, fun j hj => ?_⟩
      rcases Nat.lt_or_ge j k with q | q
      · have := i2 j q; omega
      · have : j = k := by omega
        subst this; omega
    · refine ⟨i1, fun j hj => ?_⟩
      rcases Nat.lt_or_ge j k with q | q
      · exact i2 j q
      · have : j = k := by omega
        subst this; omega
/-- The excesses that a flow says, arc by arc. -/
def bK (c : Csr) (f : List Int) : Nat → List Int
  | 0 => List.replicate c.N.toNat 0
  | k + 1 => if c.Back.getD k false = true then bK c f k else subAt (addAt (bK c f k) (c.Head.getD k 0) (f.getD (c.Arc.getD k 0).toNat 0)) (c.Head.getD (c.Rev.getD k 0).toNat 0) (f.getD (c.Arc.getD k 0).toNat 0)
theorem bK_len (c : Csr) (f : List Int) : ∀ k, (bK c f k).length = c.N.toNat
  | 0 => by simp [bK]
  | k + 1 => by
    unfold bK
    split
    · exact bK_len c f k
    · simp only [subAt, addAt, List.length_set]; exact bK_len c f k
theorem getD_set_le (l : List Int) (i j : Nat) (x : Int) : (l.set i x).getD j 0 = x ∨ (l.set i x).getD j 0 = l.getD j 0 := by
  simp only [List.getD, List.getElem?_set]
  split
  · split
    · exact .inl rfl
    · rename_i h1 h2; right; rw [List.getElem?_eq_none (by omega)]
  · exact .inr rfl
theorem bK_in {c : Csr} {f : List Int} (hf : ∀ j, 0 ≤ f.getD j 0 ∧ f.getD j 0 ≤ 1125899906842624) : ∀ (k v : Nat), -(k * 2251799813685248 : Int) ≤ (bK c f k).getD v 0 ∧ (bK c f k).getD v 0 ≤ k * 2251799813685248
  | 0, v => by
    have : (bK c f 0).getD v 0 = 0 := by
      simp only [bK, List.getD, List.getElem?_replicate]
      split <;> rfl
    rw [this]; omega
  | k + 1, v => by
    have h0 := hf (c.Arc.getD k 0).toNat
    have i1 := bK_in (c := c) hf k v
    have i2 := bK_in (c := c) hf k (c.Head.getD k 0).toNat
    have i3 := bK_in (c := c) hf k (c.Head.getD (c.Rev.getD k 0).toNat 0).toNat
    unfold bK
    split
    · omega
    · unfold subAt addAt
      rcases getD_set_le (bK c f k) (c.Head.getD k 0).toNat (c.Head.getD (c.Rev.getD k 0).toNat 0).toNat ((bK c f k).getD (c.Head.getD k 0).toNat 0 + f.getD (c.Arc.getD k 0).toNat 0) with e1 | e1 <;>
      rcases getD_set_le ((bK c f k).set (c.Head.getD k 0).toNat ((bK c f k).getD (c.Head.getD k 0).toNat 0 + f.getD (c.Arc.getD k 0).toNat 0)) (c.Head.getD (c.Rev.getD k 0).toNat 0).toNat v (((bK c f k).set (c.Head.getD k 0).toNat ((bK c f k).getD (c.Head.getD k 0).toNat 0 + f.getD (c.Arc.getD k 0).toNat 0)).getD (c.Head.getD (c.Rev.getD k 0).toNat 0).toNat 0 - f.getD (c.Arc.getD k 0).toNat 0) with e2 | e2 <;>
      rcases getD_set_le (bK c f k) (c.Head.getD k 0).toNat v ((bK c f k).getD (c.Head.getD k 0).toNat 0 + f.getD (c.Arc.getD k 0).toNat 0) with e3 | e3 <;>
      rw [e2] <;> (try rw [e1]) <;> (try rw [e3]) <;> omega
theorem flowL_in {c : Csr} {f : List Int} {m M : Int} (hM : 0 ≤ M) (hf : ∀ j, j < c.Head.length → 0 ≤ f.getD j 0 ∧ f.getD j 0 ≤ M) : ∀ k, k ≤ c.Head.length → ∀ j, 0 ≤ (flowL c f m k).getD j 0 ∧ (flowL c f m k).getD j 0 ≤ M
  | 0, _, j => by
    have : (flowL c f m 0).getD j 0 = 0 := by
      simp only [flowL, List.getD, List.getElem?_replicate]
      split <;> rfl
    rw [this]; omega
  | k + 1, hk, j => by
    have i1 := flowL_in (m := m) hM hf k (by omega) j
    have h1 := hf k (by omega)
    unfold flowL
    split
    · rcases getD_set_le (flowL c f m k) (c.Arc.getD k 0).toNat j (f.getD k 0) with e | e <;> rw [e] <;> omega
    · exact i1
def broR (c : Csr) (res : List Int) : List Int × Bool :=
  if res.length = c.Head.length ∧ pairsP c res then (bK c (flowR c res (topA c)).1 c.Back.length, true) else ([], false)
set_option maxHeartbeats 8000000 in
set_option synthInstance.maxHeartbeats 400000 in
set_option synthInstance.maxSize 2000 in
theorem t_brought (c : Csr) (f : List Int) (h : CsrT c) (ho : CapOne c) (hai : ArcIn c) : Tri Try.prog 47 [.agg [.val (.int .i64 c.N), .val (.int .i64 c.S), .val (.int .i64 c.T), .slc 0 0 c.First.length none, .slc 1 0 c.Head.length none, .slc 2 0 c.Rev.length none, .slc 3 0 c.Cap.length none, .slc 4 0 c.Arc.length none, .slc 5 0 c.Back.length none], .slc 6 0 f.length none] [SO.ints false .i64 c.First, SO.ints false .i64 c.Head, SO.ints false .i64 c.Rev, SO.ints false .i64 c.Cap, SO.ints false .i64 c.Arc, SO.bools false c.Back, SO.ints false .i64 f] (fun s H => s = .tup [.slc 7 0 ((broR c f).1.length) none, .val (.bool ((broR c f).2))] ∧ H = [SO.ints false .i64 c.First, SO.ints false .i64 c.Head, SO.ints false .i64 c.Rev, SO.ints false .i64 c.Cap, SO.ints false .i64 c.Arc, SO.bools false c.Back, SO.ints false .i64 f, SO.ints true .i64 ((broR c f).1)]) := by
  refine tri_of_w (fn := Try.f47) Try.func47 rfl (by simp [Try.f47]) ?_
  intro ρ w hρ
  refine w_seq ?_
  have hn := h.n
  have hf := h.first
  have hhd := h.head
  have hrl := h.rev
  have hcl := h.cap
  have hal := h.arc
  have hbl := h.back
  have hsm := h.small
  refine w_region ?_
  refine rw_t 2 rfl rfl rfl (n_box_agg (n := 7) rfl rfl ?_)
  refine rw_t 4 rfl rfl rfl (do_assign rfl ?_)
  refine rw_t 5 rfl rfl rfl (do_assign rfl ?_)
  refine rw_nil ?_
  refine w_seq ?_
  refine w_region ?_
  refine rw_t 6 rfl rfl rfl (do_assign rfl ?_)
  refine rw_nil ?_
  refine w_seq ?_
  refine w_seq ?_
  refine w_region ?_
  refine rw_t 14 rfl rfl rfl (do_fieldaddr rfl ?_)
  refine rw_t 15 rfl rfl rfl (do_load_box rfl rfl rfl ?_)
  refine rw_t 16 rfl rfl rfl (do_len rfl ?_)
  refine rw_t 17 rfl rfl rfl (do_move rfl ?_)
  refine rw_nil ?_
  refine w_block ?_
  refine w_loopS (ι := Nat) (fun i => [(1, .slc 6 0 f.length none), (2, .ptr 7 0 0), (4, .val (.slice none 0 0)), (5, .val (.bool false)), (6, .val (.int .i64 (topK c i))), (15, .slc 4 0 c.Arc.length none), (16, .val (.int .i64 ((c.Arc.length : Nat) : Int))), (17, .val (.int .i64 ((i : Nat) : Int)))]) (fun i => [SO.ints false .i64 c.First, SO.ints false .i64 c.Head, SO.ints false .i64 c.Rev, SO.ints false .i64 c.Cap, SO.ints false .i64 c.Arc, SO.bools false c.Back, SO.ints false .i64 f, .box [.val (.int .i64 c.N), .val (.int .i64 c.S), .val (.int .i64 c.T), .slc 0 0 c.First.length none, .slc 1 0 c.Head.length none, .slc 2 0 c.Rev.length none, .slc 3 0 c.Cap.length none, .slc 4 0 c.Arc.length none, .slc 5 0 c.Back.length none]]) (fun i => c.Arc.length - i) (fun i => i ≤ c.Arc.length) (0) [0, 1, 2, 3, 4, 5, 6, 7] (by simp) ⟨shR rfl, shR rfl, shR rfl, shR rfl, shR rfl, shR rfl, shR rfl, shR rfl, trivial⟩ rfl (pre_ok rfl) hρ ⟨⟨_, rfl, rfl⟩, ⟨_, rfl, rfl⟩, ⟨_, rfl, rfl⟩, ⟨_, rfl, rfl⟩, ⟨_, rfl, rfl⟩, ⟨_, rfl, rfl⟩, ⟨_, rfl, rfl⟩, ⟨_, rfl, rfl⟩, trivial⟩ ?_
  intro i hi
  refine w_seq ?_
  refine w_region ?_
  refine rw_t 18 rfl rfl rfl (do_bin rfl rfl rfl ?_)
  refine rw_nil ?_
  refine w_seq ?_
  refine w_cond rfl (fun hc1 => ?_) (fun hc1 => ?_)
  all_goals try simp only [bs] at hc1
  rotate_left
  · refine w_exit ?_
    refine w_seq ?_
    have hil : i = c.Arc.length := by omega
    subst hil
    obtain ⟨ht1, ht2⟩ := topK_in hai c.Arc.length (Nat.le_refl _)
    refine w_region ?_
    refine rw_t 27 rfl rfl rfl (n_load_boxagg [_, _, _, _, _, _, _, _, _] rfl rfl (Nat.le_of_ble_eq_true rfl) rfl ?_)
    refine rw_t 28 rfl rfl rfl (do_move rfl ?_)
    refine rw_t 29 rfl rfl rfl (do_move rfl ?_)
    refine rw_t 30 rfl rfl rfl (n_callN (X' := .tup [.slc 8 0 ((flowR c f (topA c)).1.length) none, .val (.int .i64 ((flowR c f (topA c)).2))]) (N' := [SO.ints true .i64 ((flowR c f (topA c)).1)]) rfl rfl (t_Flow (c := c) (f := f) (m := (topA c)) (h) (ho) (ht1) (fun k hk => ⟨(hai k hk).1, ht2 k hk⟩)) [0, 1, 2, 3, 4, 5, 6] ⟨.inr ⟨_, rfl, srv⟩, .inr ⟨_, rfl, srv⟩, .inr ⟨_, rfl, srv⟩, .inr ⟨_, rfl, srv⟩, .inr ⟨_, rfl, srv⟩, .inr ⟨_, rfl, srv⟩, .inr ⟨_, rfl, srv⟩, trivial⟩ rfl rfl rfl rfl rfl ?_)
    refine rw_t 26 rfl rfl rfl (do_move rfl ?_)
    refine rw_t 31 rfl rfl rfl (do_extract rfl rfl ?_)
    refine rw_t 32 rfl rfl rfl (do_extract rfl rfl ?_)
    refine rw_t 9 rfl rfl rfl (do_assign rfl ?_)
    refine rw_t 10 rfl rfl rfl (do_assign rfl ?_)
    refine rw_nil ?_
    refine w_seq ?_
    refine w_seq ?_
    refine w_region ?_
    refine rw_t 33 rfl rfl rfl (do_move rfl ?_)
    refine rw_t 34 rfl rfl rfl (do_bin rfl rfl rfl ?_)
    refine rw_nil ?_
    refine w_cond rfl (fun hc2 => ?_) (fun hc2 => ?_)
    all_goals try simp only [bs] at hc2
    · refine w_seq ?_
      refine w_region ?_
      refine rw_t 4 rfl rfl rfl (do_assign rfl ?_)
      refine rw_t 5 rfl rfl rfl (do_assign rfl ?_)
      refine rw_nil ?_
      have hno : ¬ (f.length = c.Head.length ∧ pairsP c f) := fun q => hc2 (by unfold flowR; rw [if_pos q.1, if_pos q.2])
      have e1 : broR c f = ([], false) := by unfold broR; rw [if_neg hno]
      refine n_ghost Int 1 (encI .i64) 0 (fun _ => rfl) (fun _ _ h => by simp [encI] at h; subst h; rfl) ?_
      refine w_nilE 4 9 0 rfl ?_
      refine w_ret ?_
      exact ret_eq (.inl rfl) (.cons (res_tmp rfl) (.cons (res_tmp rfl) .nil)) [0, 1, 2, 3, 4, 5, 6, 9] (by rw [e1]; rfl) ⟨shR rfl, shR rfl, shR rfl, shR rfl, shR rfl, shR rfl, shR rfl, .inr ⟨_, rfl, .inl (congrArg (SO.ints true .i64) (by rw [e1]; try rfl))⟩, trivial⟩ rfl (pre_ok rfl)
    refine w_skip ?_
    refine w_seq ?_
    have hfo : f.length = c.Head.length ∧ pairsP c f := by
      by_cases q1 : f.length = c.Head.length
      · by_cases q2 : pairsP c f
        · exact ⟨q1, q2⟩
        · exfalso; unfold flowR at hc2; rw [if_pos q1, if_neg q2] at hc2; simp at hc2
      · exfalso; unfold flowR at hc2; rw [if_neg q1] at hc2; simp at hc2
    have hFe : (flowR c f (topA c)).1 = flowL c f (topA c) c.Head.length := by unfold flowR; rw [if_pos hfo.1, if_pos hfo.2]
    have hFl : (flowR c f (topA c)).1.length = (topA c).toNat := by rw [hFe]; exact flowL_len _ _ _ _
    have hFi : ∀ j, 0 ≤ (flowR c f (topA c)).1.getD j 0 ∧ (flowR c f (topA c)).1.getD j 0 ≤ 1125899906842624 := by rw [hFe]; exact flowL_in (by omega) (fun j hj => by have := hfo.2 j hj; have := h.capv j hj; omega) _ (Nat.le_refl _)
    refine w_region ?_
    refine rw_t 35 rfl rfl rfl (do_fieldaddr rfl ?_)
    refine rw_t 36 rfl rfl rfl (do_load_box rfl rfl rfl ?_)
    refine rw_t 37 rfl rfl rfl (n_make (nm := 9) Int (encI .i64) 0 rfl rfl rfl (fun _ => rfl) (fun _ _ h => by simp [encI] at h; subst h; rfl) (by omega) (by omega) (by omega) rfl ?_)
    refine rw_cap 37 rfl ?_
    refine rw_t 11 rfl rfl rfl (do_assign rfl ?_)
    refine rw_nil ?_
    refine w_seq ?_
    refine w_seq ?_
    refine w_region ?_
    refine rw_t 38 rfl rfl rfl (do_fieldaddr rfl ?_)
    refine rw_t 39 rfl rfl rfl (do_load_box rfl rfl rfl ?_)
    refine rw_t 40 rfl rfl rfl (do_len rfl ?_)
    refine rw_t 41 rfl rfl rfl (do_move rfl ?_)
    refine rw_nil ?_
    refine w_block ?_
    refine w_loopS (ι := Nat) (fun j => [(2, .ptr 7 0 0), (4, .val (.slice none 0 0)), (5, .val (.bool false)), (9, .slc 8 0 ((flowR c f (topA c)).1.length) none), (11, .slc 9 0 ((bK c (flowR c f (topA c)).1 j).length) none), (39, .slc 5 0 c.Back.length none), (40, .val (.int .i64 ((c.Back.length : Nat) : Int))), (41, .val (.int .i64 ((j : Nat) : Int)))]) (fun j => [SO.ints false .i64 c.First, SO.ints false .i64 c.Head, SO.ints false .i64 c.Rev, SO.ints false .i64 c.Cap, SO.ints false .i64 c.Arc, SO.bools false c.Back, SO.ints false .i64 f, .box [.val (.int .i64 c.N), .val (.int .i64 c.S), .val (.int .i64 c.T), .slc 0 0 c.First.length none, .slc 1 0 c.Head.length none, .slc 2 0 c.Rev.length none, .slc 3 0 c.Cap.length none, .slc 4 0 c.Arc.length none, .slc 5 0 c.Back.length none], SO.ints true .i64 ((flowR c f (topA c)).1), SO.ints true .i64 (bK c (flowR c f (topA c)).1 j)]) (fun j => c.Back.length - j) (fun j => j ≤ c.Back.length) (0) [0, 1, 2, 3, 4, 5, 6, 7, 8, 9] (by simp) ⟨shR rfl, shR rfl, shR rfl, shR rfl, shR rfl, shR rfl, shR rfl, shR rfl, shR rfl, shR rfl, trivial⟩ rfl (pre_ok rfl) hρ ⟨⟨_, rfl, rfl⟩, ⟨_, rfl, rfl⟩, ⟨_, rfl, rfl⟩, ⟨_, rfl, rfl⟩, ⟨_, rfl, congrArg (fun n => SV.slc 9 0 n none) (by simp [bK])⟩, ⟨_, rfl, rfl⟩, ⟨_, rfl, rfl⟩, ⟨_, rfl, rfl⟩, trivial⟩ ?_
    intro j hj
    refine w_seq ?_
    refine w_region ?_
    refine rw_t 42 rfl rfl rfl (do_bin rfl rfl rfl ?_)
    refine rw_nil ?_
    refine w_seq ?_
    refine w_cond rfl (fun hc3 => ?_) (fun hc3 => ?_)
    all_goals try simp only [bs] at hc3
    rotate_left
    · refine w_exit ?_
      refine w_seq ?_
      refine w_region ?_
      refine rw_t 89 rfl rfl rfl (do_move rfl ?_)
      refine rw_t 4 rfl rfl rfl (do_assign rfl ?_)
      refine rw_t 5 rfl rfl rfl (do_assign rfl ?_)
      refine rw_nil ?_
      have hj' : j = c.Back.length := by omega
      subst hj'
      have e1 : broR c f = (bK c (flowR c f (topA c)).1 c.Back.length, true) := by unfold broR; rw [if_pos hfo]
      refine w_ret ?_
      exact ret_eq (.inl rfl) (.cons (res_tmp rfl) (.cons (res_tmp rfl) .nil)) [0, 1, 2, 3, 4, 5, 6, 9] (by rw [e1]; rfl) ⟨shR rfl, shR rfl, shR rfl, shR rfl, shR rfl, shR rfl, shR rfl, .inr ⟨_, rfl, .inl (congrArg (SO.ints true .i64) (by rw [e1]; try rfl))⟩, trivial⟩ rfl (pre_ok rfl)
    refine w_skip ?_
    refine w_seq ?_
    refine w_block ?_
    refine w_seq ?_
    refine w_region ?_
    refine rw_t 43 rfl rfl rfl (do_move rfl ?_)
    refine rw_t 44 rfl rfl rfl (do_ixn rfl rfl rfl (by first | omega | (simp only [ls] <;> omega)) ?_)
    refine rw_t 45 rfl rfl rfl (do_load_arr rfl rfl (by first | omega | (simp only [ls] <;> omega)) rfl ?_)
    refine rw_t 12 rfl rfl rfl (do_assign rfl ?_)
    refine rw_t 13 rfl rfl rfl (do_assign rfl ?_)
    refine rw_nil ?_
    refine w_seq ?_
    refine w_region ?_
    refine rw_t 46 rfl rfl rfl (do_move rfl ?_)
    refine rw_t 47 rfl rfl rfl (do_not rfl ?_)
    refine rw_nil ?_
    refine w_cond rfl (fun hc4 => ?_) (fun hc4 => ?_)
    all_goals try simp only [bs] at hc4
    · refine w_seq ?_
      have hd1 := h.hd j (by omega)
      have hrv := h.rv j (by omega)
      have hd2 := h.hd (c.Rev.getD j 0).toNat (by omega)
      have hbl2 := bK_len c (flowR c f (topA c)).1 j
      have haj := hai j (by omega)
      have haj2 := ht2 j (by omega)
      have hFj := hFi (c.Arc.getD j 0).toNat
      have hb1 := bK_in (c := c) hFi j (c.Head.getD j 0).toNat
      have htA : topA c = topK c c.Arc.length := rfl
      refine w_draw mixed [0, 0, 2, 0, 14, 30, 63, 127, 0, 0, 512, 0, 3584, 7680, 16128, 32512] [65535, 131071, 262143] (by kernel_rfl) (by kernel_rfl) rfl rfl rfl (hle hρ rfl) ?_
      refine ra_q (j := 0) rfl rfl rfl rfl (do_move rfl ⟨rfl, rfl⟩) (by rfl) ?_
      refine ra_q (j := 1) rfl rfl rfl rfl (do_fieldaddr rfl ⟨rfl, rfl⟩) (by rfl) ?_
      refine ra_q (j := 2) rfl rfl rfl rfl (do_load_box rfl rfl rfl ⟨rfl, rfl⟩) (by rfl) ?_
      refine ra_q (j := 3) rfl rfl rfl rfl (do_move rfl ⟨rfl, rfl⟩) (by rfl) ?_
      refine ra_q (j := 4) rfl rfl rfl rfl (do_ixn rfl rfl rfl (by first | omega | (simp only [ls] <;> omega)) ⟨rfl, rfl⟩) (by rfl) ?_
      refine ra_q (j := 5) rfl rfl rfl rfl (do_load_arr rfl rfl (by first | omega | (simp only [ls] <;> omega)) rfl ⟨rfl, rfl⟩) (by rfl) ?_
      refine ra_q (j := 6) rfl rfl rfl rfl (do_ix0 rfl rfl rfl (by first | omega | (simp only [ls] <;> omega)) ⟨rfl, rfl⟩) (by rfl) ?_
      refine ra_q (j := 7) rfl rfl rfl rfl (do_load_arr rfl rfl (by first | omega | (simp only [ls] <;> omega)) rfl ⟨rfl, rfl⟩) (by rfl) ?_
      refine ra_q (j := 8) rfl rfl rfl rfl (do_move rfl ⟨rfl, rfl⟩) (by rfl) ?_
      refine ra_q (j := 9) rfl rfl rfl rfl (do_fieldaddr rfl ⟨rfl, rfl⟩) (by rfl) ?_
      refine ra_q (j := 10) rfl rfl rfl rfl (do_load_box rfl rfl rfl ⟨rfl, rfl⟩) (by rfl) ?_
      refine ra_q (j := 11) rfl rfl rfl rfl (do_move rfl ⟨rfl, rfl⟩) (by rfl) ?_
      refine ra_q (j := 12) rfl rfl rfl rfl (do_ixn rfl rfl rfl (by first | omega | (simp only [ls] <;> omega)) ⟨rfl, rfl⟩) (by rfl) ?_
      refine ra_q (j := 13) rfl rfl rfl rfl (do_load_arr rfl rfl (by first | omega | (simp only [ls] <;> omega)) rfl ⟨rfl, rfl⟩) (by rfl) ?_
      refine ra_q (j := 14) rfl rfl rfl rfl (do_ix0 rfl rfl rfl (by first | omega | (simp only [ls] <;> omega)) ⟨rfl, rfl⟩) (by rfl) ?_
      refine ra_q (j := 15) rfl rfl rfl rfl (do_load_arr rfl rfl (by first | omega | (simp only [ls] <;> omega)) rfl ⟨rfl, rfl⟩) (by rfl) ?_
      refine n_done ?_
      refine rw_t 64 rfl rfl rfl (do_add rfl rfl (by omega) ?_)
      refine rw_t 65 rfl rfl rfl (do_ix0 rfl rfl rfl (by first | omega | (simp only [ls] <;> omega)) ?_)
      refine rw_u rfl rfl (n_store_arr (z := (((bK c (flowR c f (topA c)).1 j).getD ((c.Head.getD j 0).toNat) 0) + (((flowR c f (topA c)).1).getD ((c.Arc.getD j 0).toNat) 0))) rfl rfl rfl (by first | omega | (simp only [ls] <;> omega)) rfl (by decide) rfl ?_)
      refine rw_nil ?_
      have hb2 := bK_in (c := c) hFi j (c.Head.getD (c.Rev.getD j 0).toNat 0).toNat
      have hs3 := getD_set_le (bK c (flowR c f (topA c)).1 j) (c.Head.getD j 0).toNat (c.Head.getD (c.Rev.getD j 0).toNat 0).toNat ((bK c (flowR c f (topA c)).1 j).getD (c.Head.getD j 0).toNat 0 + (flowR c f (topA c)).1.getD (c.Arc.getD j 0).toNat 0)
      refine w_draw mixed [0, 0, 2, 0, 8, 0, 56, 120, 254, 510, 1023, 2047, 0, 0, 8192, 0, 57344, 122880, 258048, 520192] [1048575, 2097151, 4194303] (by kernel_rfl) (by kernel_rfl) rfl rfl rfl (hle hρ rfl) ?_
      refine ra_q (j := 0) rfl rfl rfl rfl (do_move rfl ⟨rfl, rfl⟩) (by rfl) ?_
      refine ra_q (j := 1) rfl rfl rfl rfl (do_fieldaddr rfl ⟨rfl, rfl⟩) (by rfl) ?_
      refine ra_q (j := 2) rfl rfl rfl rfl (do_load_box rfl rfl rfl ⟨rfl, rfl⟩) (by rfl) ?_
      refine ra_q (j := 3) rfl rfl rfl rfl (do_fieldaddr rfl ⟨rfl, rfl⟩) (by rfl) ?_
      refine ra_q (j := 4) rfl rfl rfl rfl (do_load_box rfl rfl rfl ⟨rfl, rfl⟩) (by rfl) ?_
      refine ra_q (j := 5) rfl rfl rfl rfl (do_move rfl ⟨rfl, rfl⟩) (by rfl) ?_
      refine ra_q (j := 6) rfl rfl rfl rfl (do_ixn rfl rfl rfl (by first | omega | (simp only [ls] <;> omega)) ⟨rfl, rfl⟩) (by rfl) ?_
      refine ra_q (j := 7) rfl rfl rfl rfl (do_load_arr rfl rfl (by first | omega | (simp only [ls] <;> omega)) rfl ⟨rfl, rfl⟩) (by rfl) ?_
      refine ra_q (j := 8) rfl rfl rfl rfl (do_ix0 rfl rfl rfl (by first | omega | (simp only [ls] <;> omega)) ⟨rfl, rfl⟩) (by rfl) ?_
      refine ra_q (j := 9) rfl rfl rfl rfl (do_load_arr rfl rfl (by first | omega | (simp only [ls] <;> omega)) rfl ⟨rfl, rfl⟩) (by rfl) ?_
      refine ra_q (j := 10) rfl rfl rfl rfl (do_ix0 rfl rfl rfl (by first | omega | (simp only [ls] <;> omega)) ⟨rfl, rfl⟩) (by rfl) ?_
      refine ra_q (j := 11) rfl rfl rfl rfl (do_load_arr rfl rfl (by first | omega | (simp only [ls] <;> omega)) rfl ⟨rfl, rfl⟩) (by rfl) ?_
      refine ra_q (j := 12) rfl rfl rfl rfl (do_move rfl ⟨rfl, rfl⟩) (by rfl) ?_
      refine ra_q (j := 13) rfl rfl rfl rfl (do_fieldaddr rfl ⟨rfl, rfl⟩) (by rfl) ?_
      refine ra_q (j := 14) rfl rfl rfl rfl (do_load_box rfl rfl rfl ⟨rfl, rfl⟩) (by rfl) ?_
      refine ra_q (j := 15) rfl rfl rfl rfl (do_move rfl ⟨rfl, rfl⟩) (by rfl) ?_
      refine ra_q (j := 16) rfl rfl rfl rfl (do_ixn rfl rfl rfl (by first | omega | (simp only [ls] <;> omega)) ⟨rfl, rfl⟩) (by rfl) ?_
      refine ra_q (j := 17) rfl rfl rfl rfl (do_load_arr rfl rfl (by first | omega | (simp only [ls] <;> omega)) rfl ⟨rfl, rfl⟩) (by rfl) ?_
      refine ra_q (j := 18) rfl rfl rfl rfl (do_ix0 rfl rfl rfl (by first | omega | (simp only [ls] <;> omega)) ⟨rfl, rfl⟩) (by rfl) ?_
      refine ra_q (j := 19) rfl rfl rfl rfl (do_load_arr rfl rfl (by first | omega | (simp only [ls] <;> omega)) rfl ⟨rfl, rfl⟩) (by rfl) ?_
      refine n_done ?_
      refine rw_t 86 rfl rfl rfl (do_sub rfl rfl (by omega) ?_)
      refine rw_t 87 rfl rfl rfl (do_ix0 rfl rfl rfl (by first | omega | (simp only [ls] <;> omega)) ?_)
      refine rw_u rfl rfl (n_store_arr (z := ((((bK c (flowR c f (topA c)).1 j).set ((c.Head.getD j 0).toNat) (((bK c (flowR c f (topA c)).1 j).getD ((c.Head.getD j 0).toNat) 0) + (((flowR c f (topA c)).1).getD ((c.Arc.getD j 0).toNat) 0))).getD ((c.Head.getD ((c.Rev.getD j 0).toNat) 0).toNat) 0) - (((flowR c f (topA c)).1).getD ((c.Arc.getD j 0).toNat) 0))) rfl rfl rfl (by first | omega | (simp only [ls] <;> omega)) rfl (by decide) rfl ?_)
      refine rw_nil ?_
      refine w_region ?_
      refine rw_t 88 rfl rfl rfl (do_add rfl rfl (by omega) ?_)
      refine rw_t 41 rfl rfl rfl (do_move rfl ?_)
      refine rw_nil ?_
      refine ⟨j + 1, [0, 1, 2, 3, 4, 5, 6, 7, 8, 9], by dsimp only; omega, by omega, ⟨shR rfl, shR rfl, shR rfl, shR rfl, shR rfl, shR rfl, shR rfl, shR rfl, shR rfl, .inr ⟨_, rfl, .inl (congrArg (SO.ints true .i64) (by simp only [bK]; rw [if_neg (by rw [hc4]; decide)]; rfl))⟩, trivial⟩, rfl, pre_ok rfl, ⟨⟨_, rfl, rfl⟩, ⟨_, rfl, rfl⟩, ⟨_, rfl, rfl⟩, ⟨_, rfl, rfl⟩, ⟨_, rfl, (congrArg (fun n => SV.slc 9 0 n none) ((bK_len c (flowR c f (topA c)).1 j).trans (bK_len c (flowR c f (topA c)).1 (j + 1)).symm)).trans rfl⟩, ⟨_, rfl, rfl⟩, ⟨_, rfl, rfl⟩, ⟨_, rfl, rfl⟩, trivial⟩⟩
    · refine w_skip ?_
      refine w_region ?_
      refine rw_t 88 rfl rfl rfl (do_add rfl rfl (by omega) ?_)
      refine rw_t 41 rfl rfl rfl (do_move rfl ?_)
      refine rw_nil ?_
      refine ⟨j + 1, [0, 1, 2, 3, 4, 5, 6, 7, 8, 9], by dsimp only; omega, by omega, ⟨shR rfl, shR rfl, shR rfl, shR rfl, shR rfl, shR rfl, shR rfl, shR rfl, shR rfl, .inr ⟨_, rfl, .inl (congrArg (SO.ints true .i64) (by simp only [bK]; rw [if_pos hc4]))⟩, trivial⟩, rfl, pre_ok rfl, ⟨⟨_, rfl, rfl⟩, ⟨_, rfl, rfl⟩, ⟨_, rfl, rfl⟩, ⟨_, rfl, rfl⟩, ⟨_, rfl, (congrArg (fun n => SV.slc 9 0 n none) ((bK_len c (flowR c f (topA c)).1 j).trans (bK_len c (flowR c f (topA c)).1 (j + 1)).symm)).trans rfl⟩, ⟨_, rfl, rfl⟩, ⟨_, rfl, rfl⟩, ⟨_, rfl, rfl⟩, trivial⟩⟩
  refine w_skip ?_
  refine w_seq ?_
  refine w_block ?_
  refine w_seq ?_
  refine w_region ?_
  refine rw_t 19 rfl rfl rfl (do_ixn rfl rfl rfl (by first | omega | (simp only [ls] <;> omega)) ?_)
  refine rw_t 20 rfl rfl rfl (do_load_arr rfl rfl (by first | omega | (simp only [ls] <;> omega)) rfl ?_)
  refine rw_t 8 rfl rfl rfl (do_assign rfl ?_)
  refine rw_nil ?_
  have hax := hai i (by omega)
  have htx := topK_in hai i (by omega)
  refine w_region ?_
  refine rw_t 21 rfl rfl rfl (do_move rfl ?_)
  refine rw_t 22 rfl rfl rfl (do_move rfl ?_)
  refine rw_t 23 rfl rfl rfl (do_add rfl rfl (by omega) ?_)
  refine rw_t 24 rfl rfl rfl (do_max rfl rfl ?_)
  refine rw_t 6 rfl rfl rfl (do_assign rfl ?_)
  refine rw_nil ?_
  refine w_region ?_
  refine rw_t 25 rfl rfl rfl (do_add rfl rfl (by omega) ?_)
  refine rw_t 17 rfl rfl rfl (do_move rfl ?_)
  refine rw_nil ?_
  refine ⟨i + 1, [0, 1, 2, 3, 4, 5, 6, 7], by dsimp only; omega, by omega, ⟨shR rfl, shR rfl, shR rfl, shR rfl, shR rfl, shR rfl, shR rfl, shR rfl, trivial⟩, rfl, pre_ok rfl, ⟨⟨_, rfl, rfl⟩, ⟨_, rfl, rfl⟩, ⟨_, rfl, rfl⟩, ⟨_, rfl, rfl⟩, ⟨_, rfl, rfl⟩, ⟨_, rfl, rfl⟩, ⟨_, rfl, rfl⟩, ⟨_, rfl, rfl⟩, trivial⟩⟩
end Go.Proofs

set_option linter.unusedVariables false
set_option linter.unusedSimpArgs false
namespace Go.Proofs
open Go Go.Sx Go.RowKit
def steepA (c : Csr) (p : Pre) (u a : Int) : Prop := p.Res.getD a.toNat 0 > 0 ∧ p.H.getD u.toNat 0 > p.H.getD (c.Head.getD a.toNat 0).toNat 0 + 1
instance (c : Csr) (p : Pre) (u a : Int) : Decidable (steepA c p u a) := by unfold steepA; infer_instance
def goodU (c : Csr) (p : Pre) (u : Int) : Prop := ¬ (u ≠ c.S ∧ p.Ex.getD u.toNat 0 < 0) ∧ ∀ j : Nat, j < manyOf c u → ¬ steepA c p u (c.First.getD u.toNat 0 + j)
instance (c : Csr) (p : Pre) (u : Int) : Decidable (goodU c p u) := by unfold goodU; infer_instance
/-- P7.1: a state that may be, as the program looks at it. -/
def preR (c : Csr) (p : Pre) : Prop := (((broR c p.Res).2 = true ∧ (broR c p.Res).1 = p.Ex) ∧ heiP c p.H) ∧ ∀ u : Nat, u < c.N.toNat → goodU c p u
instance (c : Csr) (p : Pre) : Decidable (preR c p) := by unfold preR; infer_instance
theorem broR_len (c : Csr) (res : List Int) : (broR c res).1.length ≤ c.N.toNat := by
  unfold broR; split
  · exact Nat.le_of_eq (bK_len _ _ _)
  · simp
theorem broR_ok {c : Csr} {res : List Int} (h : (broR c res).2 = true) : (res.length = c.Head.length ∧ pairsP c res) ∧ (broR c res).1.length = c.N.toNat := by
  unfold broR at h ⊢
  split at h
  · rename_i q; rw [if_pos q]; exact ⟨q, bK_len _ _ _⟩
  · cases h
set_option maxHeartbeats 8000000 in
set_option synthInstance.maxHeartbeats 400000 in
set_option synthInstance.maxSize 2000 in
theorem t_Right (c : Csr) (p : Pre) (h : CsrT c) (ho : CapOne c) (hai : ArcIn c) : Tri Try.prog 13 [.agg [.val (.int .i64 c.N), .val (.int .i64 c.S), .val (.int .i64 c.T), .slc 0 0 c.First.length none, .slc 1 0 c.Head.length none, .slc 2 0 c.Rev.length none, .slc 3 0 c.Cap.length none, .slc 4 0 c.Arc.length none, .slc 5 0 c.Back.length none], .agg [.slc 6 0 p.Res.length none, .slc 7 0 p.Ex.length none, .slc 8 0 p.H.length none]] [SO.ints false .i64 c.First, SO.ints false .i64 c.Head, SO.ints false .i64 c.Rev, SO.ints false .i64 c.Cap, SO.ints false .i64 c.Arc, SO.bools false c.Back, SO.ints false .i64 p.Res, SO.ints false .i64 p.Ex, SO.ints false .i64 p.H] (fun s H => s = .val (.bool (decide (preR c p))) ∧ H = [SO.ints false .i64 c.First, SO.ints false .i64 c.Head, SO.ints false .i64 c.Rev, SO.ints false .i64 c.Cap, SO.ints false .i64 c.Arc, SO.bools false c.Back, SO.ints false .i64 p.Res, SO.ints false .i64 p.Ex, SO.ints false .i64 p.H]) := by
  refine tri_of_w (fn := Try.f13) Try.func13 rfl (by simp [Try.f13]) ?_
  intro ρ w hρ
  refine w_seq ?_
  have hn := h.n
  have hf := h.first
  have hhd := h.head
  have hrl := h.rev
  have hcl := h.cap
  have hal := h.arc
  have hbl := h.back
  have hsm := h.small
  have hS := h.s
  have hT := h.t
  refine w_region ?_
  refine rw_t 2 rfl rfl rfl (n_box_agg (n := 9) rfl rfl ?_)
  refine rw_t 3 rfl rfl rfl (n_box_agg (n := 10) rfl rfl ?_)
  refine rw_t 4 rfl rfl rfl (n_alloc (n := 11) rfl ?_)
  refine rw_nil ?_
  refine w_seq ?_
  refine w_region ?_
  refine rw_t 10 rfl rfl rfl (n_load_boxagg [_, _, _, _, _, _, _, _, _] rfl rfl (Nat.le_of_ble_eq_true rfl) rfl ?_)
  refine rw_t 11 rfl rfl rfl (do_fieldaddr rfl ?_)
  refine rw_t 12 rfl rfl rfl (do_load_box rfl rfl rfl ?_)
  refine rw_t 13 rfl rfl rfl (n_callN (X' := .tup [.slc 12 0 ((broR c p.Res).1.length) none, .val (.bool ((broR c p.Res).2))]) (N' := [SO.ints true .i64 ((broR c p.Res).1)]) rfl rfl (t_brought (c := c) (f := p.Res) (h) (ho) (hai)) [0, 1, 2, 3, 4, 5, 6] ⟨.inr ⟨_, rfl, srv⟩, .inr ⟨_, rfl, srv⟩, .inr ⟨_, rfl, srv⟩, .inr ⟨_, rfl, srv⟩, .inr ⟨_, rfl, srv⟩, .inr ⟨_, rfl, srv⟩, .inr ⟨_, rfl, srv⟩, trivial⟩ rfl rfl rfl rfl rfl ?_)
  refine rw_t 9 rfl rfl rfl (do_move rfl ?_)
  refine rw_t 14 rfl rfl rfl (do_extract rfl rfl ?_)
  refine rw_t 15 rfl rfl rfl (do_extract rfl rfl ?_)
  refine rw_t 5 rfl rfl rfl (do_assign rfl ?_)
  refine rw_t 6 rfl rfl rfl (do_assign rfl ?_)
  refine rw_nil ?_
  refine w_seq ?_
  have hbl1 := broR_len c p.Res
  refine w_seqB 31 (((¬ (((broR c p.Res).2) = true) ∨ ¬ (((broR c p.Res).1) = p.Ex)) ∨ ¬ (heiP c p.H))) ?_ ?_
  · -- region 2
    refine w_region ?_
    refine rw_t 16 rfl rfl rfl (do_move rfl ?_)
    refine rw_t 17 rfl rfl rfl (do_not rfl ?_)
    refine rw_t 18 rfl rfl rfl (do_move rfl ?_)
    refine rw_case 18 rfl (fun g1 => ?_) (fun g1 => ?_)
    · have kg1 := g1
      try simp only [bs] at kg1
      refine rw_gf 19 2 18 false rfl rfl rfl rfl rfl rfl (by rw [g1]; decide) ?_
      refine rw_gf 20 2 18 false rfl rfl rfl rfl rfl rfl (by rw [g1]; decide) ?_
      refine rw_gf 21 2 18 false rfl rfl rfl rfl rfl rfl (by rw [g1]; decide) ?_
      refine rw_gf 22 2 18 false rfl rfl rfl rfl rfl rfl (by rw [g1]; decide) ?_
      refine rw_gf 23 2 18 false rfl rfl rfl rfl rfl rfl (by rw [g1]; decide) ?_
      refine rw_t 24 rfl rfl rfl (do_pick_t rfl g1 rfl ?_)
      refine rw_t 25 rfl rfl rfl (do_move rfl ?_)
      refine rw_gf 26 9 25 false rfl rfl rfl rfl rfl rfl (by decide) ?_
      refine rw_gf 27 9 25 false rfl rfl rfl rfl rfl rfl (by decide) ?_
      refine rw_gf 28 9 25 false rfl rfl rfl rfl rfl rfl (by decide) ?_
      refine rw_gf 29 9 25 false rfl rfl rfl rfl rfl rfl (by decide) ?_
      refine rw_gf 30 9 25 false rfl rfl rfl rfl rfl rfl (by decide) ?_
      refine rw_t 31 rfl rfl rfl (do_pick_t rfl rfl rfl ?_)
      refine rw_nil ?_
      refine ⟨rfl, ⟨_, rfl, by first | (simp; done) | (simp only [bs]; omega) | (simp [*]; done) | (simp; omega) | (constructor <;> intro h <;> simp_all <;> omega)⟩, ?_⟩
      repeat (refine ⟨⟨_, rfl, rfl⟩, ?_⟩)
      exact trivial
    · have kg1 := g1
      try simp only [bs] at kg1
      refine rw_gt 19 2 18 false rfl rfl rfl rfl rfl rfl g1 (do_move rfl ?_)
      refine rw_gt 20 2 18 false rfl rfl rfl rfl rfl rfl g1 (do_fieldaddr rfl ?_)
      refine rw_gt 21 2 18 false rfl rfl rfl rfl rfl rfl g1 (do_load_box rfl rfl rfl ?_)
      refine rw_gt 22 2 18 false rfl rfl rfl rfl rfl rfl g1 (do_callR (X' := .val (.bool (decide (((broR c p.Res).1) = p.Ex)))) rfl rfl (t_Equal (a := (broR c p.Res).1) (b := p.Ex) (by omega)) [12, 7] ⟨.inr ⟨_, rfl, srv⟩, .inr ⟨_, rfl, srv⟩, trivial⟩ rfl rfl rfl ?_)
      refine rw_gt 23 2 18 false rfl rfl rfl rfl rfl rfl g1 (do_not rfl ?_)
      refine rw_t 24 rfl rfl rfl (do_pick_f rfl g1 rfl ?_)
      refine rw_t 25 rfl rfl rfl (do_move rfl ?_)
      refine rw_case 25 rfl (fun g2 => ?_) (fun g2 => ?_)
      · have kg2 := g2
        try simp only [bs] at kg2
        refine rw_gf 26 9 25 false rfl rfl rfl rfl rfl rfl (by rw [g2]; decide) ?_
        refine rw_gf 27 9 25 false rfl rfl rfl rfl rfl rfl (by rw [g2]; decide) ?_
        refine rw_gf 28 9 25 false rfl rfl rfl rfl rfl rfl (by rw [g2]; decide) ?_
        refine rw_gf 29 9 25 false rfl rfl rfl rfl rfl rfl (by rw [g2]; decide) ?_
        refine rw_gf 30 9 25 false rfl rfl rfl rfl rfl rfl (by rw [g2]; decide) ?_
        refine rw_t 31 rfl rfl rfl (do_pick_t rfl g2 rfl ?_)
        refine rw_nil ?_
        refine ⟨rfl, ⟨_, rfl, by first | (simp; done) | (simp only [bs]; omega) | (simp [*]; done) | (simp; omega) | (constructor <;> intro h <;> simp_all <;> omega)⟩, ?_⟩
        repeat (refine ⟨⟨_, rfl, rfl⟩, ?_⟩)
        exact trivial
      · have kg2 := g2
        try simp only [bs] at kg2
        refine rw_gt 26 9 25 false rfl rfl rfl rfl rfl rfl g2 (n_load_boxagg [_, _, _, _, _, _, _, _, _] rfl rfl (Nat.le_of_ble_eq_true rfl) rfl ?_)
        refine rw_gt 27 9 25 false rfl rfl rfl rfl rfl rfl g2 (do_fieldaddr rfl ?_)
        refine rw_gt 28 9 25 false rfl rfl rfl rfl rfl rfl g2 (do_load_box rfl rfl rfl ?_)
        refine rw_gt 29 9 25 false rfl rfl rfl rfl rfl rfl g2 (do_callR (X' := .val (.bool (decide (heiP c p.H)))) rfl rfl (t_heights (c := c) (hh := p.H) (h)) [0, 1, 2, 3, 4, 5, 8] ⟨.inr ⟨_, rfl, srv⟩, .inr ⟨_, rfl, srv⟩, .inr ⟨_, rfl, srv⟩, .inr ⟨_, rfl, srv⟩, .inr ⟨_, rfl, srv⟩, .inr ⟨_, rfl, srv⟩, .inr ⟨_, rfl, srv⟩, trivial⟩ rfl rfl rfl ?_)
        refine rw_gt 30 9 25 false rfl rfl rfl rfl rfl rfl g2 (do_not rfl ?_)
        refine rw_t 31 rfl rfl rfl (do_pick_f rfl g2 rfl ?_)
        refine rw_nil ?_
        refine ⟨rfl, ⟨_, rfl, by first | (simp; done) | (simp only [bs]; omega) | (simp [*]; done) | (simp; omega) | (constructor <;> intro h <;> simp_all <;> omega)⟩, ?_⟩
        repeat (refine ⟨⟨_, rfl, rfl⟩, ?_⟩)
        exact trivial
  intro b1 hb1
  refine w_condP hb1 rfl (fun hc1 => ?_) (fun hc1 => ?_)
  · refine w_seq ?_
    refine w_region ?_
    refine rw_u rfl rfl (n_store_box (f := 0) rfl rfl rfl (Nat.le_of_ble_eq_true rfl) rfl ?_)
    refine rw_nil ?_
    refine w_ret ?_
    exact ret_eq (.inl rfl) (.cons (res_one rfl rfl rfl) .nil) [0, 1, 2, 3, 4, 5, 6, 7, 8] (Eq.symm (bool_congr (decide_eq_false (fun q => by rcases hc1 with (w | w) | w; exact w q.1.1.1; exact w q.1.1.2; exact w q.1.2)))) ⟨shR rfl, shR rfl, shR rfl, shR rfl, shR rfl, shR rfl, shR rfl, shR rfl, shR rfl, trivial⟩ rfl (pre_ok rfl)
  refine w_skip ?_
  refine w_seq ?_
  refine w_seq ?_
  have hok1 : (broR c p.Res).2 = true := Decidable.byContradiction fun q => hc1 (.inl (.inl q))
  have hok2 : (broR c p.Res).1 = p.Ex := Decidable.byContradiction fun q => hc1 (.inl (.inr q))
  have hok3 : heiP c p.H := Decidable.byContradiction fun q => hc1 (.inr q)
  obtain ⟨⟨hr, hprs⟩, hbx⟩ := broR_ok hok1
  have hx : p.Ex.length = c.N.toNat := by rw [← hok2]; exact hbx
  have hh1 := hok3.1.1.1
  have hh2 := hok3.2
  refine w_region ?_
  refine rw_t 32 rfl rfl rfl (do_fieldaddr rfl ?_)
  refine rw_t 33 rfl rfl rfl (do_load_box rfl rfl rfl ?_)
  refine rw_t 34 rfl rfl rfl (do_move rfl ?_)
  refine rw_nil ?_
  refine w_block ?_
  refine w_loopS (ι := Nat) (fun v => [(2, .ptr 9 0 0), (3, .ptr 10 0 0), (4, .ptr 11 0 0), (33, .val (.int .i64 c.N)), (34, .val (.int .i64 ((v : Nat) : Int)))]) (fun v => [SO.ints false .i64 c.First, SO.ints false .i64 c.Head, SO.ints false .i64 c.Rev, SO.ints false .i64 c.Cap, SO.ints false .i64 c.Arc, SO.bools false c.Back, SO.ints false .i64 p.Res, SO.ints false .i64 p.Ex, SO.ints false .i64 p.H, .box [.val (.int .i64 c.N), .val (.int .i64 c.S), .val (.int .i64 c.T), .slc 0 0 c.First.length none, .slc 1 0 c.Head.length none, .slc 2 0 c.Rev.length none, .slc 3 0 c.Cap.length none, .slc 4 0 c.Arc.length none, .slc 5 0 c.Back.length none], .box [.slc 6 0 p.Res.length none, .slc 7 0 p.Ex.length none, .slc 8 0 p.H.length none], .box [.val (.bool false)], SO.ints true .i64 ((broR c p.Res).1)]) (fun v => c.N.toNat - v) (fun v => v ≤ c.N.toNat ∧ ∀ u : Nat, u < v → goodU c p u) (0) [0, 1, 2, 3, 4, 5, 6, 7, 8, 9, 10, 11, 12] (⟨by simp, fun u hu => by omega⟩) ⟨shR rfl, shR rfl, shR rfl, shR rfl, shR rfl, shR rfl, shR rfl, shR rfl, shR rfl, shR rfl, shR rfl, shR rfl, shR rfl, trivial⟩ rfl (pre_ok rfl) hρ ⟨⟨_, rfl, rfl⟩, ⟨_, rfl, rfl⟩, ⟨_, rfl, rfl⟩, ⟨_, rfl, rfl⟩, ⟨_, rfl, rfl⟩, trivial⟩ ?_
  rintro v ⟨hv, hgu⟩
  refine w_seq ?_
  refine w_region ?_
  refine rw_t 35 rfl rfl rfl (do_bin rfl rfl rfl ?_)
  refine rw_nil ?_
  refine w_seq ?_
  refine w_cond rfl (fun hc2 => ?_) (fun hc2 => ?_)
  all_goals try simp only [bs] at hc2
  rotate_left
  · refine w_exit ?_
    refine w_seq ?_
    refine w_region ?_
    refine rw_u rfl rfl (n_store_box (f := 0) rfl rfl rfl (Nat.le_of_ble_eq_true rfl) rfl ?_)
    refine rw_nil ?_
    refine w_ret ?_
    exact ret_eq (.inl rfl) (.cons (res_one rfl rfl rfl) .nil) [0, 1, 2, 3, 4, 5, 6, 7, 8] (Eq.symm (bool_congr (decide_eq_true ⟨⟨⟨hok1, hok2⟩, hok3⟩, fun u hu => hgu u (by omega)⟩))) ⟨shR rfl, shR rfl, shR rfl, shR rfl, shR rfl, shR rfl, shR rfl, shR rfl, shR rfl, trivial⟩ rfl (pre_ok rfl)
  refine w_skip ?_
  refine w_seq ?_
  refine w_block ?_
  refine w_seq ?_
  refine w_region ?_
  refine rw_t 36 rfl rfl rfl (do_move rfl ?_)
  refine rw_t 7 rfl rfl rfl (n_alloc (n := 13) rfl ?_)
  refine rw_u rfl rfl (n_store_box (f := 0) rfl rfl rfl (Nat.le_of_ble_eq_true rfl) rfl ?_)
  refine rw_nil ?_
  refine w_seq ?_
  have hv1 : ((v : Nat) : Int).toNat = v := Int.toNat_natCast v
  have hv2 : (((v : Nat) : Int) + 1).toNat = v + 1 := by omega
  have hm := h.mono v (by omega)
  refine w_seqB 48 ((((v : Nat) : Int) ≠ c.S ∧ (p.Ex.getD v 0) < 0)) ?_ ?_
  · -- region 7
    refine w_region ?_
    refine rw_t 37 rfl rfl rfl (do_load_box rfl rfl rfl ?_)
    refine rw_t 38 rfl rfl rfl (do_fieldaddr rfl ?_)
    refine rw_t 39 rfl rfl rfl (do_load_box rfl rfl rfl ?_)
    refine rw_t 40 rfl rfl rfl (do_bin rfl rfl rfl ?_)
    refine rw_t 41 rfl rfl rfl (do_move rfl ?_)
    refine rw_case 41 rfl (fun g3 => ?_) (fun g3 => ?_)
    · have kg3 := g3
      try simp only [bs] at kg3
      refine rw_gt 42 4 41 true rfl rfl rfl rfl rfl rfl g3 (do_fieldaddr rfl ?_)
      refine rw_gt 43 4 41 true rfl rfl rfl rfl rfl rfl g3 (do_load_box rfl rfl rfl ?_)
      refine rw_gt 44 4 41 true rfl rfl rfl rfl rfl rfl g3 (do_load_box rfl rfl rfl ?_)
      refine rw_gt 45 4 41 true rfl rfl rfl rfl rfl rfl g3 (do_ixn rfl rfl rfl (by first | omega | (simp only [ls] <;> omega)) ?_)
      refine rw_gt 46 4 41 true rfl rfl rfl rfl rfl rfl g3 (do_load_arr rfl rfl (by first | omega | (simp only [ls] <;> omega)) rfl ?_)
      refine rw_gt 47 4 41 true rfl rfl rfl rfl rfl rfl g3 (do_bin rfl rfl rfl ?_)
      refine rw_t 48 rfl rfl rfl (do_pick_t rfl g3 rfl ?_)
      refine rw_nil ?_
      refine ⟨rfl, ⟨_, rfl, by first | (simp; done) | (simp only [bs]; omega) | (simp [*]; done) | (simp; omega) | (constructor <;> intro h <;> simp_all <;> omega)⟩, ?_⟩
      repeat (refine ⟨⟨_, rfl, rfl⟩, ?_⟩)
      exact trivial
    · have kg3 := g3
      try simp only [bs] at kg3
      refine rw_gf 42 4 41 true rfl rfl rfl rfl rfl rfl (by rw [g3]; decide) ?_
      refine rw_gf 43 4 41 true rfl rfl rfl rfl rfl rfl (by rw [g3]; decide) ?_
      refine rw_gf 44 4 41 true rfl rfl rfl rfl rfl rfl (by rw [g3]; decide) ?_
      refine rw_gf 45 4 41 true rfl rfl rfl rfl rfl rfl (by rw [g3]; decide) ?_
      refine rw_gf 46 4 41 true rfl rfl rfl rfl rfl rfl (by rw [g3]; decide) ?_
      refine rw_gf 47 4 41 true rfl rfl rfl rfl rfl rfl (by rw [g3]; decide) ?_
      refine rw_t 48 rfl rfl rfl (do_pick_f rfl g3 rfl ?_)
      refine rw_nil ?_
      refine ⟨rfl, ⟨_, rfl, by first | (simp; done) | (simp only [bs]; omega) | (simp [*]; done) | (simp; omega) | (constructor <;> intro h <;> simp_all <;> omega)⟩, ?_⟩
      repeat (refine ⟨⟨_, rfl, rfl⟩, ?_⟩)
      exact trivial
  intro b2 hb2
  refine w_condP hb2 rfl (fun hc3 => ?_) (fun hc3 => ?_)
  · refine w_seq ?_
    refine w_region ?_
    refine rw_u rfl rfl (n_store_box (f := 0) rfl rfl rfl (Nat.le_of_ble_eq_true rfl) rfl ?_)
    refine rw_nil ?_
    refine w_ret ?_
    exact ret_eq (.inl rfl) (.cons (res_one rfl rfl rfl) .nil) [0, 1, 2, 3, 4, 5, 6, 7, 8] (Eq.symm (bool_congr (decide_eq_false (fun q => (q.2 v (by omega)).1 hc3)))) ⟨shR rfl, shR rfl, shR rfl, shR rfl, shR rfl, shR rfl, shR rfl, shR rfl, shR rfl, trivial⟩ rfl (pre_ok rfl)
  refine w_skip ?_
  refine w_seq ?_
  refine w_region ?_
  refine rw_t 49 rfl rfl rfl (n_load_boxagg [_, _, _, _, _, _, _, _, _] rfl rfl (Nat.le_of_ble_eq_true rfl) rfl ?_)
  refine rw_t 50 rfl rfl rfl (do_load_box rfl rfl rfl ?_)
  refine rw_t 51 rfl rfl rfl (n_callN (X' := .func 75 [] [.ptr 14 0 0, .ptr 15 0 0]) (N' := [.box [.val (.int .i64 c.N), .val (.int .i64 c.S), .val (.int .i64 c.T), .slc 0 0 c.First.length none, .slc 1 0 c.Head.length none, .slc 2 0 c.Rev.length none, .slc 3 0 c.Cap.length none, .slc 4 0 c.Arc.length none, .slc 5 0 c.Back.length none], .box [.val (.int .i64 ((v : Nat) : Int))]]) rfl rfl (t_arcs (c := c) (u := ((v : Nat) : Int))) [0, 1, 2, 3, 4, 5] ⟨.inr ⟨_, rfl, srv⟩, .inr ⟨_, rfl, srv⟩, .inr ⟨_, rfl, srv⟩, .inr ⟨_, rfl, srv⟩, .inr ⟨_, rfl, srv⟩, .inr ⟨_, rfl, srv⟩, trivial⟩ rfl rfl rfl rfl rfl ?_)
  refine rw_nil ?_
  refine w_block ?_
  refine w_rf [(2, .ptr 9 0 0), (3, .ptr 10 0 0), (4, .ptr 11 0 0), (7, .ptr 13 0 0), (33, .val (.int .i64 c.N)), (34, .val (.int .i64 ((v : Nat) : Int))), (35, .val (.bool (decide (((v : Nat) : Int) < c.N)))), (36, .val (.int .i64 ((v : Nat) : Int))), (48, .val (.bool b2)), (49, .agg [.val (.int .i64 c.N), .val (.int .i64 c.S), .val (.int .i64 c.T), .slc 0 0 c.First.length none, .slc 1 0 c.Head.length none, .slc 2 0 c.Rev.length none, .slc 3 0 c.Cap.length none, .slc 4 0 c.Arc.length none, .slc 5 0 c.Back.length none]), (50, .val (.int .i64 ((v : Nat) : Int))), (51, .func 75 [] [.ptr 14 0 0, .ptr 15 0 0])] 16 [.yield 16, .ptr 14 0 0, .ptr 15 0 0] (fun q1 => [SO.ints false .i64 c.First, SO.ints false .i64 c.Head, SO.ints false .i64 c.Rev, SO.ints false .i64 c.Cap, SO.ints false .i64 c.Arc, SO.bools false c.Back, SO.ints false .i64 p.Res, SO.ints false .i64 p.Ex, SO.ints false .i64 p.H, .box [.val (.int .i64 c.N), .val (.int .i64 c.S), .val (.int .i64 c.T), .slc 0 0 c.First.length none, .slc 1 0 c.Head.length none, .slc 2 0 c.Rev.length none, .slc 3 0 c.Cap.length none, .slc 4 0 c.Arc.length none, .slc 5 0 c.Back.length none], .box [.slc 6 0 p.Res.length none, .slc 7 0 p.Ex.length none, .slc 8 0 p.H.length none], .box [.val (.bool false)], SO.ints true .i64 ((broR c p.Res).1), .box [.val (.int .i64 ((v : Nat) : Int))], .box [.val (.int .i64 c.N), .val (.int .i64 c.S), .val (.int .i64 c.T), .slc 0 0 c.First.length none, .slc 1 0 c.Head.length none, .slc 2 0 c.Rev.length none, .slc 3 0 c.Cap.length none, .slc 4 0 c.Arc.length none, .slc 5 0 c.Back.length none], .box [.val (.int .i64 ((v : Nat) : Int))], .gen [.ptr 9 0 0, .ptr 10 0 0, .ptr 11 0 0, .ptr 13 0 0, .val (.int .i64 c.N), .val (.int .i64 ((v : Nat) : Int)), .val (.bool (decide (((v : Nat) : Int) < c.N))), .val (.int .i64 ((v : Nat) : Int)), .val (.bool b2), .agg [.val (.int .i64 c.N), .val (.int .i64 c.S), .val (.int .i64 c.T), .slc 0 0 c.First.length none, .slc 1 0 c.Head.length none, .slc 2 0 c.Rev.length none, .slc 3 0 c.Cap.length none, .slc 4 0 c.Arc.length none, .slc 5 0 c.Back.length none], .val (.int .i64 ((v : Nat) : Int)), .func 75 [] [.ptr 14 0 0, .ptr 15 0 0]] (q1 .ready none)]) rfl rfl rfl rfl (fun _ => rfl) ⟨⟨_, rfl, rfl⟩, ⟨_, rfl, rfl⟩, ⟨_, rfl, rfl⟩, ⟨_, rfl, rfl⟩, ⟨_, rfl, rfl⟩, ⟨_, rfl, rfl⟩, ⟨_, rfl, rfl⟩, ⟨_, rfl, rfl⟩, ⟨_, rfl, rfl⟩, ⟨_, rfl, rfl⟩, ⟨_, rfl, rfl⟩, ⟨_, rfl, rfl⟩, trivial⟩ (fun q1 hq1 => ?_)
  refine tri_of_w (fn := Try.f75) Try.func75 rfl (by simp [Try.f75]) ?_
  intro ρr1 wr1 hρ1
  refine w_seq ?_
  refine w_region ?_
  refine rw_t 5 rfl rfl rfl (do_fieldaddr rfl ?_)
  refine rw_t 6 rfl rfl rfl (do_load_box rfl rfl rfl ?_)
  refine rw_t 7 rfl rfl rfl (do_load_box rfl rfl rfl ?_)
  refine rw_t 8 rfl rfl rfl (do_ix0 rfl rfl rfl (by first | omega | (simp only [ls] <;> omega)) ?_)
  refine rw_t 9 rfl rfl rfl (do_load_arr rfl rfl (by first | omega | (simp only [ls] <;> omega)) rfl ?_)
  refine rw_t 4 rfl rfl rfl (do_assign rfl ?_)
  refine rw_nil ?_
  refine w_block ?_
  refine w_loopS (ι := Nat) (fun i => [(0, .yield 16), (1, .ptr 14 0 0), (2, .ptr 15 0 0), (4, .val (.int .i64 (c.First.getD ((v : Nat) : Int).toNat 0 + (i : Int))))]) (fun i => [SO.ints false .i64 c.First, SO.ints false .i64 c.Head, SO.ints false .i64 c.Rev, SO.ints false .i64 c.Cap, SO.ints false .i64 c.Arc, SO.bools false c.Back, SO.ints false .i64 p.Res, SO.ints false .i64 p.Ex, SO.ints false .i64 p.H, .box [.val (.int .i64 c.N), .val (.int .i64 c.S), .val (.int .i64 c.T), .slc 0 0 c.First.length none, .slc 1 0 c.Head.length none, .slc 2 0 c.Rev.length none, .slc 3 0 c.Cap.length none, .slc 4 0 c.Arc.length none, .slc 5 0 c.Back.length none], .box [.slc 6 0 p.Res.length none, .slc 7 0 p.Ex.length none, .slc 8 0 p.H.length none], .box [.val (.bool false)], SO.ints true .i64 ((broR c p.Res).1), .box [.val (.int .i64 ((v : Nat) : Int))], .box [.val (.int .i64 c.N), .val (.int .i64 c.S), .val (.int .i64 c.T), .slc 0 0 c.First.length none, .slc 1 0 c.Head.length none, .slc 2 0 c.Rev.length none, .slc 3 0 c.Cap.length none, .slc 4 0 c.Arc.length none, .slc 5 0 c.Back.length none], .box [.val (.int .i64 ((v : Nat) : Int))], .gen [.ptr 9 0 0, .ptr 10 0 0, .ptr 11 0 0, .ptr 13 0 0, .val (.int .i64 c.N), .val (.int .i64 ((v : Nat) : Int)), .val (.bool (decide (((v : Nat) : Int) < c.N))), .val (.int .i64 ((v : Nat) : Int)), .val (.bool b2), .agg [.val (.int .i64 c.N), .val (.int .i64 c.S), .val (.int .i64 c.T), .slc 0 0 c.First.length none, .slc 1 0 c.Head.length none, .slc 2 0 c.Rev.length none, .slc 3 0 c.Cap.length none, .slc 4 0 c.Arc.length none, .slc 5 0 c.Back.length none], .val (.int .i64 ((v : Nat) : Int)), .func 75 [] [.ptr 14 0 0, .ptr 15 0 0]] (q1 .ready none)]) (fun i => (c.First.getD (v + 1) 0 - c.First.getD v 0).toNat - i) (fun i => i ≤ (c.First.getD (v + 1) 0 - c.First.getD v 0).toNat ∧ ∀ j : Nat, j < i → ¬ steepA c p ((v : Nat) : Int) (c.First.getD ((v : Nat) : Int).toNat 0 + j)) (0) [0, 1, 2, 3, 4, 5, 6, 7, 8, 9, 10, 11, 12, 13, 14, 15, 16] (⟨by simp, fun j hj => by omega⟩) ⟨shR rfl, shR rfl, shR rfl, shR rfl, shR rfl, shR rfl, shR rfl, shR rfl, shR rfl, shR rfl, shR rfl, shR rfl, shR rfl, shR rfl, shR rfl, shR rfl, shR rfl, trivial⟩ rfl (pre_ok rfl) hρ1 ⟨⟨_, rfl, rfl⟩, ⟨_, rfl, rfl⟩, ⟨_, rfl, rfl⟩, ⟨_, rfl, Eq.symm (val_congr (by simp))⟩, trivial⟩ ?_
  rintro i ⟨g1, g2⟩
  refine w_seq ?_
  refine w_seq ?_
  refine w_region ?_
  refine rw_t 10 rfl rfl rfl (do_move rfl ?_)
  refine rw_t 11 rfl rfl rfl (do_fieldaddr rfl ?_)
  refine rw_t 12 rfl rfl rfl (do_load_box rfl rfl rfl ?_)
  refine rw_t 13 rfl rfl rfl (do_load_box rfl rfl rfl ?_)
  refine rw_t 14 rfl rfl rfl (do_add rfl rfl (by omega) ?_)
  refine rw_t 15 rfl rfl rfl (do_ix0 rfl rfl rfl (by first | omega | (simp only [ls] <;> omega)) ?_)
  refine rw_t 16 rfl rfl rfl (do_load_arr rfl rfl (by first | omega | (simp only [ls] <;> omega)) rfl ?_)
  refine rw_t 17 rfl rfl rfl (do_bin rfl rfl rfl ?_)
  refine rw_nil ?_
  refine w_cond rfl (fun hc4 => ?_) (fun hc4 => ?_)
  all_goals try simp only [bs] at hc4
  rotate_left
  · refine w_exit ?_
    refine ret_iter (.inr rfl) rfl (Y := [SO.ints false .i64 c.First, SO.ints false .i64 c.Head, SO.ints false .i64 c.Rev, SO.ints false .i64 c.Cap, SO.ints false .i64 c.Arc, SO.bools false c.Back, SO.ints false .i64 p.Res, SO.ints false .i64 p.Ex, SO.ints false .i64 p.H, .box [.val (.int .i64 c.N), .val (.int .i64 c.S), .val (.int .i64 c.T), .slc 0 0 c.First.length none, .slc 1 0 c.Head.length none, .slc 2 0 c.Rev.length none, .slc 3 0 c.Cap.length none, .slc 4 0 c.Arc.length none, .slc 5 0 c.Back.length none], .box [.slc 6 0 p.Res.length none, .slc 7 0 p.Ex.length none, .slc 8 0 p.H.length none], .box [.val (.bool false)], SO.ints true .i64 ((broR c p.Res).1), .box [.val (.int .i64 ((v : Nat) : Int))], .box [.val (.int .i64 c.N), .val (.int .i64 c.S), .val (.int .i64 c.T), .slc 0 0 c.First.length none, .slc 1 0 c.Head.length none, .slc 2 0 c.Rev.length none, .slc 3 0 c.Cap.length none, .slc 4 0 c.Arc.length none, .slc 5 0 c.Back.length none], .box [.val (.int .i64 ((v : Nat) : Int))], .gen [.ptr 9 0 0, .ptr 10 0 0, .ptr 11 0 0, .ptr 13 0 0, .val (.int .i64 c.N), .val (.int .i64 ((v : Nat) : Int)), .val (.bool (decide (((v : Nat) : Int) < c.N))), .val (.int .i64 ((v : Nat) : Int)), .val (.bool b2), .agg [.val (.int .i64 c.N), .val (.int .i64 c.S), .val (.int .i64 c.T), .slc 0 0 c.First.length none, .slc 1 0 c.Head.length none, .slc 2 0 c.Rev.length none, .slc 3 0 c.Cap.length none, .slc 4 0 c.Arc.length none, .slc 5 0 c.Back.length none], .val (.int .i64 ((v : Nat) : Int)), .func 75 [] [.ptr 14 0 0, .ptr 15 0 0]] (q1 .ready none)]) [0, 1, 2, 3, 4, 5, 6, 7, 8, 9, 10, 11, 12, 13, 14, 15, 16] ⟨shR rfl, shR rfl, shR rfl, shR rfl, shR rfl, shR rfl, shR rfl, shR rfl, shR rfl, shR rfl, shR rfl, shR rfl, shR rfl, shR rfl, shR rfl, shR rfl, shR rfl, trivial⟩ rfl (pre_ok rfl) ?_
    refine iter_none rfl ?_
    refine w_region ?_
    refine rw_t 77 rfl rfl rfl (do_add rfl rfl (by omega) ?_)
    refine rw_t 34 rfl rfl rfl (do_move rfl ?_)
    refine rw_nil ?_
    refine ⟨v + 1, [0, 1, 2, 3, 4, 5, 6, 7, 8, 9, 10, 11, 12], by dsimp only; omega, ⟨by omega, fun u hu => by rcases Nat.lt_or_ge u v with q | q; exact hgu u q; have : u = v := (by omega); subst this; exact ⟨hc3, fun j hj => g2 j (by unfold manyOf at hj; rw [hv1, hv2] at hj; rw [hv1, hv2] at hc4; omega)⟩⟩, ⟨shR rfl, shR rfl, shR rfl, shR rfl, shR rfl, shR rfl, shR rfl, shR rfl, shR rfl, shR rfl, shR rfl, shR rfl, shR rfl, trivial⟩, rfl, pre_ok rfl, ⟨⟨_, rfl, rfl⟩, ⟨_, rfl, rfl⟩, ⟨_, rfl, rfl⟩, ⟨_, rfl, rfl⟩, ⟨_, rfl, rfl⟩, trivial⟩⟩
  refine w_skip ?_
  refine w_seq ?_
  refine w_block ?_
  refine w_seq ?_
  refine w_region ?_
  refine rw_t 20 rfl rfl rfl (do_move rfl ?_)
  refine rw_t 21 rfl rfl rfl (do_move rfl ?_)
  refine rw_t 22 rfl rfl rfl (do_yieldQ [(52, .val (.int .i64 (c.First.getD ((v : Nat) : Int).toNat 0 + (i : Int)))), (2, .ptr 9 0 0), (3, .ptr 10 0 0), (4, .ptr 11 0 0), (7, .ptr 13 0 0), (33, .val (.int .i64 c.N)), (34, .val (.int .i64 ((v : Nat) : Int))), (35, .val (.bool (decide (((v : Nat) : Int) < c.N)))), (36, .val (.int .i64 ((v : Nat) : Int))), (48, .val (.bool b2)), (49, .agg [.val (.int .i64 c.N), .val (.int .i64 c.S), .val (.int .i64 c.T), .slc 0 0 c.First.length none, .slc 1 0 c.Head.length none, .slc 2 0 c.Rev.length none, .slc 3 0 c.Cap.length none, .slc 4 0 c.Arc.length none, .slc 5 0 c.Back.length none]), (50, .val (.int .i64 ((v : Nat) : Int))), (51, .func 75 [] [.ptr 14 0 0, .ptr 15 0 0])] hq1 rfl rfl rfl rfl rfl rfl (fun ρr2 wr2 lr2 hρ2 => ?_))
  refine w_region ?_
  refine rw_t 8 rfl rfl rfl (do_assign rfl ?_)
  refine rw_nil ?_
  refine asg_done rfl ?_
  refine w_block ?_
  rw [hv1, hv2] at hc4
  have hfv : c.First.getD ((v : Nat) : Int).toNat 0 = c.First.getD v 0 := by rw [hv1]
  have hd8 := h.hd (c.First.getD ((v : Nat) : Int).toNat 0 + (i : Int)).toNat (by rw [hv1]; omega)
  have hy8 := hh2 (c.Head.getD (c.First.getD ((v : Nat) : Int).toNat 0 + (i : Int)).toNat 0).toNat (by omega)
  have hy9 := hh2 v (by omega)
  refine w_seqB 76 (((p.Res.getD ((c.First.getD ((v : Nat) : Int).toNat 0 + (i : Int)).toNat) 0) > 0 ∧ (p.H.getD v 0) > ((p.H.getD ((c.Head.getD ((c.First.getD ((v : Nat) : Int).toNat 0 + (i : Int)).toNat) 0).toNat) 0) + 1))) ?_ ?_
  · -- region 11
    refine w_draw mixed [0, 1, 0, 7, 15, 31, 63, 127, 255, 127, 1023, 2047, 127, 4223, 127, 16511, 127, 114815, 245887, 520319, 1044607, 2093183] [4194303, 8388607] (by kernel_rfl) (by kernel_rfl) rfl rfl rfl (hle hρ2 rfl) ?_
    refine ra_q (j := 0) rfl rfl rfl rfl (do_fieldaddr rfl ⟨rfl, rfl⟩) (by rfl) ?_
    refine ra_q (j := 1) rfl rfl rfl rfl (do_load_box rfl rfl rfl ⟨rfl, rfl⟩) (by rfl) ?_
    refine ra_q (j := 2) rfl rfl rfl rfl (do_move rfl ⟨rfl, rfl⟩) (by rfl) ?_
    refine ra_q (j := 3) rfl rfl rfl rfl (do_ix0 rfl rfl rfl (by first | omega | (simp only [ls] <;> omega)) ⟨rfl, rfl⟩) (by rfl) ?_
    refine ra_q (j := 4) rfl rfl rfl rfl (do_load_arr rfl rfl (by first | omega | (simp only [ls] <;> omega)) rfl ⟨rfl, rfl⟩) (by rfl) ?_
    refine ra_q (j := 5) rfl rfl rfl rfl (do_bin rfl rfl rfl ⟨rfl, rfl⟩) (by rfl) ?_
    refine ra_q (j := 6) rfl rfl rfl rfl (do_move rfl ⟨rfl, rfl⟩) (by rfl) ?_
    refine ra_case 59 rfl (fun g4 => ?_) (fun g4 => ?_)
    · have kg4 := g4
      try simp only [bs] at kg4
      refine ra_gt (j := 7) rfl rfl rfl rfl g4 rfl rfl rfl (do_fieldaddr rfl ⟨rfl, rfl⟩) (by rfl) ?_
      refine ra_gt (j := 8) rfl rfl rfl rfl g4 rfl rfl rfl (do_load_box rfl rfl rfl ⟨rfl, rfl⟩) (by rfl) ?_
      refine ra_gt (j := 9) rfl rfl rfl rfl g4 rfl rfl rfl (do_load_box rfl rfl rfl ⟨rfl, rfl⟩) (by rfl) ?_
      refine ra_gt (j := 10) rfl rfl rfl rfl g4 rfl rfl rfl (do_ixn rfl rfl rfl (by first | omega | (simp only [ls] <;> omega)) ⟨rfl, rfl⟩) (by rfl) ?_
      refine ra_gt (j := 11) rfl rfl rfl rfl g4 rfl rfl rfl (do_load_arr rfl rfl (by first | omega | (simp only [ls] <;> omega)) rfl ⟨rfl, rfl⟩) (by rfl) ?_
      refine ra_gt (j := 12) rfl rfl rfl rfl g4 rfl rfl rfl (do_fieldaddr rfl ⟨rfl, rfl⟩) (by rfl) ?_
      refine ra_gt (j := 13) rfl rfl rfl rfl g4 rfl rfl rfl (do_load_box rfl rfl rfl ⟨rfl, rfl⟩) (by rfl) ?_
      refine ra_gt (j := 14) rfl rfl rfl rfl g4 rfl rfl rfl (do_fieldaddr rfl ⟨rfl, rfl⟩) (by rfl) ?_
      refine ra_gt (j := 15) rfl rfl rfl rfl g4 rfl rfl rfl (do_load_box rfl rfl rfl ⟨rfl, rfl⟩) (by rfl) ?_
      refine ra_gt (j := 16) rfl rfl rfl rfl g4 rfl rfl rfl (do_move rfl ⟨rfl, rfl⟩) (by rfl) ?_
      refine ra_gt (j := 17) rfl rfl rfl rfl g4 rfl rfl rfl (do_ix0 rfl rfl rfl (by first | omega | (simp only [ls] <;> omega)) ⟨rfl, rfl⟩) (by rfl) ?_
      refine ra_gt (j := 18) rfl rfl rfl rfl g4 rfl rfl rfl (do_load_arr rfl rfl (by first | omega | (simp only [ls] <;> omega)) rfl ⟨rfl, rfl⟩) (by rfl) ?_
      refine ra_gt (j := 19) rfl rfl rfl rfl g4 rfl rfl rfl (do_ix0 rfl rfl rfl (by first | omega | (simp only [ls] <;> omega)) ⟨rfl, rfl⟩) (by rfl) ?_
      refine ra_gt (j := 20) rfl rfl rfl rfl g4 rfl rfl rfl (do_load_arr rfl rfl (by first | omega | (simp only [ls] <;> omega)) rfl ⟨rfl, rfl⟩) (by rfl) ?_
      refine ra_gt (j := 21) rfl rfl rfl rfl g4 rfl rfl rfl (do_add rfl rfl (by omega) ⟨rfl, rfl⟩) (by rfl) ?_
      refine n_done ?_
      refine rw_gt 75 6 59 true rfl rfl rfl rfl rfl rfl g4 (do_bin rfl rfl rfl ?_)
      refine rw_t 76 rfl rfl rfl (do_pick_t rfl g4 rfl ?_)
      refine rw_nil ?_
      refine ⟨rfl, ⟨_, rfl, by first | (simp; done) | (simp only [bs]; omega) | (simp [*]; done) | (simp; omega) | (constructor <;> intro h <;> simp_all <;> omega)⟩, ?_⟩
      repeat (refine ⟨⟨_, rfl, rfl⟩, ?_⟩)
      exact trivial
    · have kg4 := g4
      try simp only [bs] at kg4
      refine ra_gf (j := 7) rfl rfl rfl rfl (by rw [g4]; decide) rfl rfl rfl ?_
      refine ra_gf (j := 8) rfl rfl rfl rfl (by rw [g4]; decide) rfl rfl rfl ?_
      refine ra_gf (j := 9) rfl rfl rfl rfl (by rw [g4]; decide) rfl rfl rfl ?_
      refine ra_gf (j := 10) rfl rfl rfl rfl (by rw [g4]; decide) rfl rfl rfl ?_
      refine ra_gf (j := 11) rfl rfl rfl rfl (by rw [g4]; decide) rfl rfl rfl ?_
      refine ra_gf (j := 12) rfl rfl rfl rfl (by rw [g4]; decide) rfl rfl rfl ?_
      refine ra_gf (j := 13) rfl rfl rfl rfl (by rw [g4]; decide) rfl rfl rfl ?_
      refine ra_gf (j := 14) rfl rfl rfl rfl (by rw [g4]; decide) rfl rfl rfl ?_
      refine ra_gf (j := 15) rfl rfl rfl rfl (by rw [g4]; decide) rfl rfl rfl ?_
      refine ra_gf (j := 16) rfl rfl rfl rfl (by rw [g4]; decide) rfl rfl rfl ?_
      refine ra_gf (j := 17) rfl rfl rfl rfl (by rw [g4]; decide) rfl rfl rfl ?_
      refine ra_gf (j := 18) rfl rfl rfl rfl (by rw [g4]; decide) rfl rfl rfl ?_
      refine ra_gf (j := 19) rfl rfl rfl rfl (by rw [g4]; decide) rfl rfl rfl ?_
      refine ra_gf (j := 20) rfl rfl rfl rfl (by rw [g4]; decide) rfl rfl rfl ?_
      refine ra_gf (j := 21) rfl rfl rfl rfl (by rw [g4]; decide) rfl rfl rfl ?_
      refine n_done ?_
      refine rw_gf 75 6 59 true rfl rfl rfl rfl rfl rfl (by rw [g4]; decide) ?_
      refine rw_t 76 rfl rfl rfl (do_pick_f rfl g4 rfl ?_)
      refine rw_nil ?_
      refine ⟨rfl, ⟨_, rfl, by first | (simp; done) | (simp only [bs]; omega) | (simp [*]; done) | (simp; omega) | (constructor <;> intro h <;> simp_all <;> omega)⟩, ?_⟩
      repeat (refine ⟨⟨_, rfl, rfl⟩, ?_⟩)
      exact trivial
  intro b3 hb3
  refine w_condP hb3 rfl (fun hc5 => ?_) (fun hc5 => ?_)
  · refine w_seq ?_
    refine w_region ?_
    refine rw_u rfl rfl (n_store_box (f := 0) rfl rfl rfl (Nat.le_of_ble_eq_true rfl) rfl ?_)
    refine rw_nil ?_
    refine w_ret ?_
    repeat (with_reducible first | refine bl_n ?_ | refine bl_r ?_ | refine nx_r ?_ | refine nx_e ?_ | refine bl_e rfl ?_)
    refine round_ret rfl ?_
    refine rw_t 23 rfl rfl rfl (do_not rfl ?_)
    refine rw_nil ?_
    refine w_cond rfl (fun hc6 => ?_) (fun hc6 => ?_)
    rotate_left
    · exfalso; first | (cases hc6; done) | exact (hc6 trivial) | (try simp only [bs] at hc6; first | omega | (simp_all; done) | (simp_all; omega))
    refine w_ret ?_
    refine ret_iter (.inl rfl) rfl (Y := [SO.ints false .i64 c.First, SO.ints false .i64 c.Head, SO.ints false .i64 c.Rev, SO.ints false .i64 c.Cap, SO.ints false .i64 c.Arc, SO.bools false c.Back, SO.ints false .i64 p.Res, SO.ints false .i64 p.Ex, SO.ints false .i64 p.H, .box [.val (.int .i64 c.N), .val (.int .i64 c.S), .val (.int .i64 c.T), .slc 0 0 c.First.length none, .slc 1 0 c.Head.length none, .slc 2 0 c.Rev.length none, .slc 3 0 c.Cap.length none, .slc 4 0 c.Arc.length none, .slc 5 0 c.Back.length none], .box [.slc 6 0 p.Res.length none, .slc 7 0 p.Ex.length none, .slc 8 0 p.H.length none], .box [.val (.bool false)], SO.ints true .i64 ((broR c p.Res).1), .box [.val (.int .i64 ((v : Nat) : Int))], .box [.val (.int .i64 c.N), .val (.int .i64 c.S), .val (.int .i64 c.T), .slc 0 0 c.First.length none, .slc 1 0 c.Head.length none, .slc 2 0 c.Rev.length none, .slc 3 0 c.Cap.length none, .slc 4 0 c.Arc.length none, .slc 5 0 c.Back.length none], .box [.val (.int .i64 ((v : Nat) : Int))], .gen [.ptr 9 0 0, .ptr 10 0 0, .ptr 11 0 0, .ptr 13 0 0, .val (.int .i64 c.N), .val (.int .i64 ((v : Nat) : Int)), .val (.bool (decide (((v : Nat) : Int) < c.N))), .val (.int .i64 ((v : Nat) : Int)), .val (.bool b2), .agg [.val (.int .i64 c.N), .val (.int .i64 c.S), .val (.int .i64 c.T), .slc 0 0 c.First.length none, .slc 1 0 c.Head.length none, .slc 2 0 c.Rev.length none, .slc 3 0 c.Cap.length none, .slc 4 0 c.Arc.length none, .slc 5 0 c.Back.length none], .val (.int .i64 ((v : Nat) : Int)), .func 75 [] [.ptr 14 0 0, .ptr 15 0 0]] (q1 .done (some .ret))]) [0, 1, 2, 3, 4, 5, 6, 7, 8, 9, 10, 11, 12, 13, 14, 15, 16] ⟨shR rfl, shR rfl, shR rfl, shR rfl, shR rfl, shR rfl, shR rfl, shR rfl, shR rfl, shR rfl, shR rfl, shR rfl, shR rfl, shR rfl, shR rfl, shR rfl, shR rfl, trivial⟩ rfl (pre_ok rfl) ?_
    refine iter_ret rfl ?_
    exact ret_eq (.inl rfl) (.cons (res_one rfl rfl rfl) .nil) [0, 1, 2, 3, 4, 5, 6, 7, 8] (Eq.symm (bool_congr (decide_eq_false (fun q => (q.2 v (by omega)).2 i (by unfold manyOf; rw [hv1, hv2]; omega) hc5)))) ⟨shR rfl, shR rfl, shR rfl, shR rfl, shR rfl, shR rfl, shR rfl, shR rfl, shR rfl, trivial⟩ rfl (pre_ok rfl)
  refine w_skip ?_
  repeat (with_reducible first | refine bl_n ?_ | refine bl_r ?_ | refine nx_r ?_ | refine nx_e ?_ | refine bl_e rfl ?_)
  refine round_normal rfl ?_
  refine rw_t 23 rfl rfl rfl (do_not rfl ?_)
  refine rw_nil ?_
  refine w_cond rfl (fun hc7 => ?_) (fun hc7 => ?_)
  · exfalso; first | (cases hc7; done) | exact (hc7 trivial) | (try simp only [bs] at hc7; first | omega | (simp_all; done) | (simp_all; omega))
  refine w_skip ?_
  refine w_region ?_
  refine rw_t 18 rfl rfl rfl (do_move rfl ?_)
  refine rw_t 19 rfl rfl rfl (do_add rfl rfl (by omega) ?_)
  refine rw_t 4 rfl rfl rfl (do_assign rfl ?_)
  refine rw_nil ?_
  refine ⟨i + 1, [0, 1, 2, 3, 4, 5, 6, 7, 8, 9, 10, 11, 12, 13, 14, 15, 16], by dsimp only; omega, ⟨by omega, fun j hj => by rcases Nat.lt_or_ge j i with q | q; exact g2 j q; have : j = i := (by omega); subst this; exact hc5⟩, ⟨shR rfl, shR rfl, shR rfl, shR rfl, shR rfl, shR rfl, shR rfl, shR rfl, shR rfl, shR rfl, shR rfl, shR rfl, shR rfl, shR rfl, shR rfl, shR rfl, shR rfl, trivial⟩, rfl, pre_ok rfl, ⟨⟨_, rfl, rfl⟩, ⟨_, rfl, rfl⟩, ⟨_, rfl, rfl⟩, ⟨_, rfl, Eq.symm (val_congr (by omega))⟩, trivial⟩⟩
end Go.Proofs

set_option linter.unusedVariables false
set_option linter.unusedSimpArgs false
namespace Go.Proofs
open Go Go.Sx Go.RowKit
/-- The excesses that what is left says, arc by arc. -/
def rK (c : Csr) (res : List Int) : Nat → List Int
  | 0 => List.replicate c.N.toNat 0
  | k + 1 => if c.Back.getD k false = true then addAt (subAt (rK c res k) (c.Head.getD k 0) (res.getD k 0)) (c.Head.getD (c.Rev.getD k 0).toNat 0) (res.getD k 0) else rK c res k
theorem rK_len (c : Csr) (f : List Int) : ∀ k, (rK c f k).length = c.N.toNat
  | 0 => by simp [rK]
  | k + 1 => by
    unfold rK
    split
    · simp only [subAt, addAt, List.length_set]; exact rK_len c f k
    · exact rK_len c f k
theorem rK_in {c : Csr} {f : List Int} : ∀ (k : Nat), (∀ j, j < k → 0 ≤ f.getD j 0 ∧ f.getD j 0 ≤ 1125899906842624) → ∀ v, -(k * 2251799813685248 : Int) ≤ (rK c f k).getD v 0 ∧ (rK c f k).getD v 0 ≤ k * 2251799813685248
  | 0, hf, v => by
    have : (rK c f 0).getD v 0 = 0 := by
      simp only [rK, List.getD, List.getElem?_replicate]
      split <;> rfl
    rw [this]; omega
  | k + 1, hf, v => by
    have h0 := hf k (by omega)
    have ih := rK_in (c := c) k (fun j hj => hf j (by omega))
    have i1 := ih v
    have i2 := ih (c.Head.getD k 0).toNat
    have i3 := ih (c.Head.getD (c.Rev.getD k 0).toNat 0).toNat
    unfold rK
    split
    · unfold subAt addAt
      rcases getD_set_le (rK c f k) (c.Head.getD k 0).toNat (c.Head.getD (c.Rev.getD k 0).toNat 0).toNat ((rK c f k).getD (c.Head.getD k 0).toNat 0 - f.getD k 0) with e1 | e1 <;>
      rcases getD_set_le ((rK c f k).set (c.Head.getD k 0).toNat ((rK c f k).getD (c.Head.getD k 0).toNat 0 - f.getD k 0)) (c.Head.getD (c.Rev.getD k 0).toNat 0).toNat v (((rK c f k).set (c.Head.getD k 0).toNat ((rK c f k).getD (c.Head.getD k 0).toNat 0 - f.getD k 0)).getD (c.Head.getD (c.Rev.getD k 0).toNat 0).toNat 0 + f.getD k 0) with e2 | e2 <;>
      rcases getD_set_le (rK c f k) (c.Head.getD k 0).toNat v ((rK c f k).getD (c.Head.getD k 0).toNat 0 - f.getD k 0) with e3 | e3 <;>
      rw [e2] <;> (try rw [e1]) <;> (try rw [e3]) <;> omega
    · omega
def okV (c : Csr) (p : Pre) (i v : Nat) : Prop := (((rK c p.Res i).getD v 0 = p.Ex.getD v 0 ∧ ¬ ((v : Int) ≠ c.S ∧ (rK c p.Res i).getD v 0 < 0)) ∧ ¬ p.H.getD v 0 < 0) ∧ ¬ p.H.getD v 0 ≥ 2 * c.N
instance (c : Csr) (p : Pre) (i v : Nat) : Decidable (okV c p i v) := by unfold okV; infer_instance
def lens3 (c : Csr) (p : Pre) : Prop := ((p.Res.length : Nat) : Int) = ((c.Head.length : Nat) : Int) ∧ ((p.Ex.length : Nat) : Int) = c.N ∧ ((p.H.length : Nat) : Int) = c.N
instance (c : Csr) (p : Pre) : Decidable (lens3 c p) := by unfold lens3; infer_instance
/-- P7.1: a state that may be, as the document has it. -/
def refR (c : Csr) (p : Pre) : Prop := (((lens3 c p ∧ pairsP c p.Res) ∧ ∀ v : Nat, v < c.N.toNat → okV c p c.Head.length v) ∧ ∀ a : Nat, a < c.Head.length → ¬ steepA c p (tailOf c a) a) ∧ (p.H.getD c.S.toNat 0 = c.N ∧ p.H.getD c.T.toNat 0 = 0)
instance (c : Csr) (p : Pre) : Decidable (refR c p) := by unfold refR; infer_instance
end Go.Proofs

set_option linter.unusedVariables false
set_option linter.unusedSimpArgs false
namespace Go.Proofs
open Go Go.Sx Go.RowKit
structure CsrP (c : Csr) : Prop extends CsrG c where
  one : CapOne c
  arcin : ArcIn c
  arcrev : ∀ a, a < c.Head.length → c.Arc.getD (c.Rev.getD a 0).toNat 0 = c.Arc.getD a 0
  arcinj : ∀ a b, a < c.Head.length → b < c.Head.length → c.Back.getD a false = true → c.Back.getD b false = true → c.Arc.getD a 0 = c.Arc.getD b 0 → a = b
theorem make_p {n : Net} (h : Small n) : CsrP (makeC n) where
  toCsrG := make_g h
  one := fun a ha => by
    rw [make_head] at ha
    obtain ⟨j, h1, h2, h3, h4, h5⟩ := rev_spec h.toNetOK ha
    rw [h3, Int.toNat_natCast]
    show ((rows n).map Row.cap).getD a 0 = 0 ∨ ((rows n).map Row.cap).getD j 0 = 0
    rw [getD_cap, getD_cap]
    obtain ⟨k, hk, hne, hc⟩ := row_cases h.toNetOK ha
    obtain ⟨k', hk', hne', hc'⟩ := row_cases h.toNetOK h1
    rcases hc with e | e <;> rcases hc' with e' | e' <;> rw [e, e'] at h5 ⊢ <;> simp at h5 ⊢
  arcin := fun a ha => by
    have hl : (makeC n).Arc.length = (rows n).length := by simp [makeC]
    rw [hl] at ha
    show 0 ≤ ((rows n).map Row.arc).getD a 0 ∧ ((rows n).map Row.arc).getD a 0 < 16384
    rw [getD_arc]
    obtain ⟨k, hk, hne, hc⟩ := row_cases h.toNetOK ha
    have := h.sz
    rcases hc with e | e <;> rw [e] <;> dsimp only <;> omega
  arcrev := fun a ha => by
    rw [make_head] at ha
    obtain ⟨j, h1, h2, h3, h4, h5⟩ := rev_spec h.toNetOK ha
    rw [h3, Int.toNat_natCast]
    show ((rows n).map Row.arc).getD j 0 = ((rows n).map Row.arc).getD a 0
    rw [getD_arc, getD_arc, h4]
  arcinj := fun a b ha hb h1 h2 h3 => by
    rw [make_head] at ha hb
    have h1' : ((rows n).map Row.back).getD a false = true := h1
    have h2' : ((rows n).map Row.back).getD b false = true := h2
    have h3' : ((rows n).map Row.arc).getD a 0 = ((rows n).map Row.arc).getD b 0 := h3
    rw [getD_back] at h1' h2'
    rw [getD_arc, getD_arc] at h3'
    exact key_inj ha hb (by unfold Row.key; rw [h1', h2', h3'])

theorem sumN_swap (f : Nat → Nat → Int) : ∀ n m, sumN (fun i => sumN (fun j => f i j) m) n = sumN (fun j => sumN (fun i => f i j) n) m
  | 0, m => by simp only [sumN]; rw [sumN_zero (fun i _ => rfl)]
  | n + 1, m => by
    simp only [sumN]
    rw [sumN_swap f n m, ← sumN_add]
theorem sumN_turn (G : Nat → Int) (σ : Nat → Nat) (m : Nat) (hs : ∀ k, k < m → σ k < m) (hi : ∀ k, k < m → σ (σ k) = k) : sumN (fun k => G (σ k)) m = sumN G m := by
  have e1 : sumN (fun k => G (σ k)) m = sumN (fun k => sumN (fun j => if j = σ k then G j else 0) m) m := by
    refine sumN_congr fun k hk => ?_
    rw [sumN_one (j := σ k) (hs k hk) (fun i hi hne => if_neg hne), if_pos rfl]
  have e2 : sumN (fun j => sumN (fun k => if j = σ k then G j else 0) m) m = sumN G m := by
    refine sumN_congr fun j hj => ?_
    rw [sumN_one (j := σ j) (hs j hj) (fun i hi' hne => if_neg (fun q => hne (by rw [q, hi i hi']))), if_pos (hi j hj).symm]
  rw [e1, sumN_swap, e2]

/-- What an arc's flow does to a vertex. -/
def gA (c : Csr) (d : Int) (b : Nat) (v : Nat) : Int := (if (c.Head.getD (c.Rev.getD b 0).toNat 0).toNat = v then d else 0) - (if (c.Head.getD b 0).toNat = v then d else 0)
theorem two_set {l : List Int} {x y : Nat} (hx : x < l.length) (hy : y < l.length) (d e : Int) (v : Nat) : ((l.set x (l.getD x 0 + d)).set y ((l.set x (l.getD x 0 + d)).getD y 0 + e)).getD v 0 = l.getD v 0 + (if x = v then d else 0) + (if y = v then e else 0) := by
  rw [getD_set _ _ _ _ (by rw [List.length_set]; exact hy), getD_set _ _ _ _ hx, getD_set _ _ _ _ hx]
  by_cases h1 : y = v
  · subst h1
    by_cases h2 : x = y
    · subst h2; simp
    · simp [h2]
  · by_cases h2 : x = v
    · subst h2; simp [h1]
    · simp [h1, h2]
theorem ifs_one (x y v : Nat) (A d : Int) : A + (if x = v then -d else 0) + (if y = v then d else 0) = A + ((if y = v then d else 0) - (if x = v then d else 0)) := by
  by_cases h1 : x = v
  · by_cases h2 : y = v
    · rw [if_pos h1, if_pos h2, if_pos h1]; omega
    · rw [if_pos h1, if_neg h2, if_pos h1]; omega
  · by_cases h2 : y = v
    · rw [if_neg h1, if_pos h2, if_neg h1]; omega
    · rw [if_neg h1, if_neg h2, if_neg h1]; omega
theorem ifs_two (x y v : Nat) (A d : Int) : A + (if x = v then d else 0) + (if y = v then -d else 0) = A + ((if x = v then d else 0) - (if y = v then d else 0)) := by
  by_cases h1 : x = v
  · by_cases h2 : y = v
    · rw [if_pos h1, if_pos h2, if_pos h2]; omega
    · rw [if_pos h1, if_neg h2, if_neg h2]; omega
  · by_cases h2 : y = v
    · rw [if_neg h1, if_pos h2, if_pos h2]; omega
    · rw [if_neg h1, if_neg h2, if_neg h2]; omega
theorem rK_get {c : Csr} (h : CsrG c) (res : List Int) : ∀ k, k ≤ c.Head.length → ∀ v, v < c.N.toNat → (rK c res k).getD v 0 = sumN (fun b => if c.Back.getD b false = true then gA c (res.getD b 0) b v else 0) k
  | 0, _, v, hv => by simp [rK, sumN, List.getD, hv]
  | k + 1, hk, v, hv => by
    have ih := rK_get h res k (by omega) v hv
    have hl := rK_len c res k
    have h1 := h.hd k (by omega)
    have hr := h.rv k (by omega)
    have h2 := h.hd (c.Rev.getD k 0).toNat (by omega)
    simp only [sumN, rK]
    rw [← ih]
    by_cases hb : c.Back.getD k false = true
    · rw [if_pos hb, if_pos hb]
      have := two_set (l := rK c res k) (x := (c.Head.getD k 0).toNat) (y := (c.Head.getD (c.Rev.getD k 0).toNat 0).toNat) (by omega) (by omega) (-(res.getD k 0)) (res.getD k 0) v
      simp only [addAt, subAt, gA]
      rw [show (rK c res k).getD (c.Head.getD k 0).toNat 0 - res.getD k 0 = (rK c res k).getD (c.Head.getD k 0).toNat 0 + -(res.getD k 0) by omega, this]
      exact ifs_one _ _ _ _ _
    · rw [if_neg hb, if_neg hb]; omega
theorem bK_get {c : Csr} (h : CsrG c) (f : List Int) : ∀ k, k ≤ c.Head.length → ∀ v, v < c.N.toNat → (bK c f k).getD v 0 = sumN (fun a => if c.Back.getD a false = true then 0 else gA c (f.getD (c.Arc.getD a 0).toNat 0) (c.Rev.getD a 0).toNat v) k
  | 0, _, v, hv => by simp [bK, sumN, List.getD, hv]
  | k + 1, hk, v, hv => by
    have ih := bK_get h f k (by omega) v hv
    have hl := bK_len c f k
    have h1 := h.hd k (by omega)
    have hr := h.rv k (by omega)
    have h2 := h.hd (c.Rev.getD k 0).toNat (by omega)
    have hrr := h.rrv k (by omega)
    simp only [sumN, bK]
    rw [← ih]
    by_cases hb : c.Back.getD k false = true
    · rw [if_pos hb, if_pos hb]; omega
    · rw [if_neg hb, if_neg hb]
      have := two_set (l := bK c f k) (x := (c.Head.getD k 0).toNat) (y := (c.Head.getD (c.Rev.getD k 0).toNat 0).toNat) (by omega) (by omega) (f.getD (c.Arc.getD k 0).toNat 0) (-(f.getD (c.Arc.getD k 0).toNat 0)) v
      simp only [addAt, subAt, gA]
      rw [hrr, Int.toNat_natCast, show ∀ A d : Int, A - d = A + -d from fun A d => by omega, this]
      exact ifs_two _ _ _ _ _
theorem flow_back {c : Csr} (h : CsrP c) (res : List Int) {m : Int} (hm : ∀ k, k < c.Head.length → 0 ≤ c.Arc.getD k 0 ∧ c.Arc.getD k 0 < m) {b : Nat} (hb : b < c.Head.length) (hB : c.Back.getD b false = true) : ∀ k, k ≤ c.Head.length → (flowL c res m k).getD (c.Arc.getD b 0).toNat 0 = if b < k then res.getD b 0 else 0
  | 0, _ => by
    rw [if_neg (by omega)]
    simp only [flowL, List.getD, List.getElem?_replicate]
    split <;> rfl
  | k + 1, hk => by
    have ih := flow_back h res hm hb hB k (by omega)
    have hl := flowL_len c res m k
    have h1 := hm k (by omega)
    have h2 := hm b hb
    unfold flowL
    by_cases hq : c.Back.getD k false = true
    · rw [if_pos hq, getD_set _ _ _ _ (by omega)]
      by_cases hbk : b = k
      · subst hbk; rw [if_pos rfl, if_pos (by omega)]
      · rw [if_neg (fun e => hbk (h.arcinj b k hb (by omega) hB hq (by omega))), ih]
        by_cases q : b < k
        · rw [if_pos q, if_pos (by omega)]
        · rw [if_neg q, if_neg (by omega)]
    · rw [if_neg hq, ih]
      have : b ≠ k := fun e => hq (e ▸ hB)
      by_cases q : b < k
      · rw [if_pos q, if_pos (by omega)]
      · rw [if_neg q, if_neg (by omega)]
/-- Both reckon the same excesses. -/
theorem ex_same {c : Csr} (h : CsrP c) {res : List Int} {m : Int} (hm : ∀ k, k < c.Head.length → 0 ≤ c.Arc.getD k 0 ∧ c.Arc.getD k 0 < m) {v : Nat} (hv : v < c.N.toNat) : (bK c (flowL c res m c.Head.length) c.Head.length).getD v 0 = (rK c res c.Head.length).getD v 0 := by
  rw [bK_get h.toCsrG _ _ (Nat.le_refl _) v hv, rK_get h.toCsrG _ _ (Nat.le_refl _) v hv]
  rw [← sumN_turn (fun b => if c.Back.getD b false = true then gA c (res.getD b 0) b v else 0) (fun a => (c.Rev.getD a 0).toNat) c.Head.length (fun k hk => by have := h.rv k hk; omega) (fun k hk => by rw [h.rrv k hk]; exact Int.toNat_natCast k)]
  refine sumN_congr fun a ha => ?_
  have hr := h.rv a ha
  have hbk := h.rbk a ha
  by_cases hb : c.Back.getD a false = true
  · rw [if_pos hb, hbk, hb, if_neg (by decide)]
  · have hb' : c.Back.getD a false = false := by simpa using hb
    rw [if_neg hb, hbk, hb', if_pos (show (!false) = true from rfl), ← h.arcrev a ha, flow_back h res hm (b := (c.Rev.getD a 0).toNat) (by omega) (by rw [hbk, hb']; rfl) _ (Nat.le_refl _), if_pos (by omega)]
theorem steep_iff {c : Csr} (h : CsrT c) (p : Pre) : (∀ u : Nat, u < c.N.toNat → ∀ j : Nat, j < manyOf c u → ¬ steepA c p u (c.First.getD (u : Int).toNat 0 + j)) ↔ ∀ a : Nat, a < c.Head.length → ¬ steepA c p (tailOf c a) a := by
  constructor
  · intro hq a ha hs
    obtain ⟨v, hv, ⟨q1, q2⟩, q3, -⟩ := h.tail_at (a := (a : Int)) (by omega) (by omega)
    rw [q3] at hs
    have hm := h.mono v hv
    refine hq v hv ((a : Int) - c.First.getD v 0).toNat ?_ ?_
    · unfold manyOf; rw [show ((v : Int) + 1).toNat = v + 1 by omega, Int.toNat_natCast]; omega
    · rw [Int.toNat_natCast, show c.First.getD v 0 + (((a : Int) - c.First.getD v 0).toNat : Int) = (a : Int) by omega]; exact hs
  · intro hq u hu j hj hs
    have hm := h.mono u hu
    unfold manyOf at hj
    rw [show ((u : Int) + 1).toNat = u + 1 by omega, Int.toNat_natCast] at hj
    rw [Int.toNat_natCast] at hs
    obtain ⟨t1, t2, t3⟩ := tail_of_arc h (u := (u : Int)) (a := c.First.getD u 0 + j) (by omega) (by rw [Int.toNat_natCast]; omega) (by rw [Int.toNat_natCast]; omega)
    refine hq (c.First.getD u 0 + j).toNat (by omega) ?_
    rw [show ((c.First.getD u 0 + (j : Int)).toNat : Int) = c.First.getD u 0 + j by omega, t3]
    exact hs
theorem list_ext {a b : List Int} {n : Nat} (ha : a.length = n) (hb : b.length = n) (h : ∀ v, v < n → a.getD v 0 = b.getD v 0) : a = b := by
  refine List.ext_getElem (ha.trans hb.symm) fun i h1 h2 => ?_
  have := h i (by omega)
  simpa [List.getD, h1, h2] using this
/-- The program's and the document's notion of a state that may be are one. -/
theorem preR_iff {c : Csr} (h : CsrP c) (p : Pre) : preR c p ↔ refR c p := by
  have hn := h.n
  have hS := h.s
  have hal := h.arc
  have hbl := h.back
  obtain ⟨ht1, ht2⟩ := topK_in h.arcin c.Arc.length (Nat.le_refl _)
  have hm : ∀ k, k < c.Head.length → 0 ≤ c.Arc.getD k 0 ∧ c.Arc.getD k 0 < topA c := fun k hk => ⟨(h.arcin k (by omega)).1, ht2 k (by omega)⟩
  have hbr : ∀ (hq : p.Res.length = c.Head.length ∧ pairsP c p.Res), broR c p.Res = (bK c (flowL c p.Res (topA c) c.Head.length) c.Head.length, true) := fun hq => by
    unfold broR flowR; rw [if_pos hq, if_pos hq.1, if_pos hq.2, hbl]
  constructor
  · rintro ⟨⟨⟨q1, q2⟩, q3⟩, q4⟩
    obtain ⟨hq, hl⟩ := broR_ok q1
    rw [hbr hq] at q2
    have hx : p.Ex.length = c.N.toNat := by rw [← q2]; exact bK_len _ _ _
    obtain ⟨⟨⟨r1, r2⟩, r3⟩, r4⟩ := q3
    have hv : ∀ v : Nat, v < c.N.toNat → (rK c p.Res c.Head.length).getD v 0 = p.Ex.getD v 0 := fun v hv => by rw [← ex_same h hm hv, ← q2]
    refine ⟨⟨⟨⟨⟨by omega, by omega, r1⟩, hq.2⟩, fun v hvn => ?_⟩, (steep_iff h.toCsrT p).1 fun u hu => (q4 u hu).2⟩, r2, r3⟩
    have g := (q4 v hvn).1
    rw [Int.toNat_natCast] at g
    have g2 := r4 v (by omega)
    exact ⟨⟨⟨hv v hvn, by rw [hv v hvn]; exact g⟩, by omega⟩, by omega⟩
  · rintro ⟨⟨⟨⟨⟨l1, l2, l3⟩, q2⟩, q3⟩, q4⟩, q5, q6⟩
    have hq : p.Res.length = c.Head.length ∧ pairsP c p.Res := ⟨by omega, q2⟩
    have hs := (steep_iff h.toCsrT p).2 q4
    have hx : (broR c p.Res).1 = p.Ex := by
      rw [hbr hq]
      refine list_ext (n := c.N.toNat) (bK_len _ _ _) (by omega) fun v hv => ?_
      rw [ex_same h hm hv]
      exact (q3 v hv).1.1.1
    refine ⟨⟨⟨by rw [hbr hq], hx⟩, ⟨⟨l3, q5⟩, q6⟩, fun v hv => ?_⟩, fun u hu => ⟨?_, hs u hu⟩⟩
    · have g := q3 v (by omega); unfold okV at g; omega
    · have g := (q3 u hu).1.1
      rw [Int.toNat_natCast, ← g.1]; exact g.2
end Go.Proofs

set_option linter.unusedVariables false
set_option linter.unusedSimpArgs false
namespace Go.Proofs
open Go Go.Sx Go.RowKit
theorem rK_ex {c : Csr} (h : CsrG c) (res : List Int) {v : Nat} (hv : v < c.N.toNat) : ∀ k, k ≤ c.Head.length → (rK c res k).getD v 0 = exK c res k v := by
  intro k hk
  rw [rK_get h res k hk v hv]
  induction k with
  | zero => rfl
  | succ k ih =>
    have hr := h.rv k (by omega)
    have ht := h.rtl k (by omega)
    have h1 := h.hd k (by omega)
    have h2 := h.hd (c.Rev.getD k 0).toNat (by omega)
    simp only [sumN, exK]
    rw [ih (by omega)]
    by_cases hb : c.Back.getD k false = true
    · rw [if_pos hb, if_pos hb]
      unfold gA
      have e1 : ((c.Head.getD (c.Rev.getD k 0).toNat 0).toNat = v) ↔ (tailOf c k = (v : Int)) := by omega
      have e2 : ((c.Head.getD k 0).toNat = v) ↔ (c.Head.getD k 0 = (v : Int)) := by omega
      simp only [e1, e2]
    · rw [if_neg hb, if_neg hb]
def tightP (c : Csr) (p : Pre) : Prop := (∀ v : Nat, v < c.N.toNat → p.H.getD v 0 < 2 * c.N) ∧ ∀ a : Nat, a < c.Head.length → ¬ steepA c p (tailOf c a) a
/-- P7's states are P9's that are tight. -/
theorem refR_iff {c : Csr} (h : CsrG c) (p : Pre) : refR c p ↔ rightP c p ∧ tightP c p := by
  have hn := h.n
  have hS := h.s
  constructor
  · rintro ⟨⟨⟨⟨⟨l1, l2, l3⟩, q2⟩, q3⟩, q4⟩, q5, q6⟩
    refine ⟨⟨⟨by omega, by omega, by omega⟩, ⟨fun v hv => ?_, q5, q6⟩, q2, fun v hv => ?_⟩, fun v hv => ?_, q4⟩
    · have g := q3 v hv; unfold okV at g; omega
    · have g := q3 v hv; unfold okV at g
      have e := rK_ex h p.Res hv c.Head.length (Nat.le_refl _)
      refine ⟨by show _ = exK c p.Res c.Head.length v; omega, fun hne => ?_⟩
      have := g.1.1.2
      omega
    · have g := q3 v hv; unfold okV at g; omega
  · rintro ⟨⟨⟨l1, l2, l3⟩, ⟨k1, k2, k3⟩, q2, q3⟩, t1, t2⟩
    refine ⟨⟨⟨⟨⟨by omega, by omega, by omega⟩, q2⟩, fun v hv => ?_⟩, t2⟩, k2, k3⟩
    have e := rK_ex h p.Res hv c.Head.length (Nat.le_refl _)
    obtain ⟨g1, g2⟩ := q3 v hv
    have g1' : p.Ex.getD v 0 = exK c p.Res c.Head.length v := g1
    have a1 := k1 v hv
    have a2 := t1 v hv
    refine ⟨⟨⟨by omega, fun w => ?_⟩, by omega⟩, by omega⟩
    have := g2 w.1
    omega
theorem refR_in {c : Csr} (h : CsrG c) {p : Pre} (hp : refR c p) : PreIn c p where
  res := by have := hp.1.1.1.1.1; omega
  ex := by have := hp.1.1.1.1.2.1; have := h.n; omega
  h := by have := hp.1.1.1.1.2.2; have := h.n; omega
  hi := fun v => by
    have hn := h.n
    have l3 := hp.1.1.1.1.2.2
    rcases Nat.lt_or_ge v c.N.toNat with hv | hv
    · have g := hp.1.1.2 v hv; unfold okV at g; omega
    · have : p.H.getD v 0 = 0 := by simp only [List.getD, List.getElem?_eq_none (show p.H.length ≤ v by omega)]; rfl
      omega
theorem ex_bound {c : Csr} (h : CsrG c) {p : Pre} (hp : refR c p) (v : Nat) : -4611686018427387904 ≤ p.Ex.getD v 0 ∧ p.Ex.getD v 0 ≤ 4611686018427387904 := by
  have hn := h.n
  have hsm := h.small
  rcases Nat.lt_or_ge v c.N.toNat with hv | hv
  · have g := hp.1.1.2 v hv; unfold okV at g
    have b := rK_in (c := c) (f := p.Res) c.Head.length (fun j hj => by have := hp.1.1.1.2 j hj; have := h.capv j hj; omega) v
    omega
  · have l2 := (refR_in h hp).ex
    have : p.Ex.getD v 0 = 0 := by simp only [List.getD, List.getElem?_eq_none (show p.Ex.length ≤ v by omega)]; rfl
    omega
theorem refR_push {c : Csr} (h : CsrG c) {p : Pre} (hp : refR c p) : PushIn c p := fun a ha hq => by
  have hi := refR_in h hp
  have l1 := hi.res
  have l2 := hi.ex
  have hrv := h.rv a.toNat (by omega)
  have hne := h.rne a.toNat (by omega)
  have hpr := hp.1.1.1.2 a.toNat (by omega)
  have hpr2 := hp.1.1.1.2 (c.Rev.getD a.toNat 0).toNat (by omega)
  have hc1 := h.capv a.toNat (by omega)
  have hc2 := h.capv (c.Rev.getD a.toNat 0).toNat (by omega)
  have htl := G_tail h ha
  obtain ⟨⟨q1, q2⟩, q3, q4⟩ := hq
  have hd : 0 < pushD c p a ∧ pushD c p a ≤ p.Res.getD a.toNat 0 ∧ pushD c p a ≤ p.Ex.getD (tailOf c a).toNat 0 := by unfold pushD; split <;> omega
  have hx := ex_bound h hp
  have hx1 := hx (tailOf c a).toNat
  have hx2 := hx (c.Head.getD a.toNat 0).toNat
  refine ⟨?_, ?_, ?_, ?_⟩
  · unfold In1; omega
  · unfold In1 subAt
    rcases getD_set_le p.Res a.toNat (c.Rev.getD a.toNat 0).toNat (p.Res.getD a.toNat 0 - pushD c p a) with e | e <;> rw [e] <;> omega
  · unfold In1; rw [← htl]; omega
  · unfold In1 subAt; rw [← htl]
    rcases getD_set_le p.Ex (tailOf c a).toNat (c.Head.getD a.toNat 0).toNat (p.Ex.getD (tailOf c a).toNat 0 - pushD c p a) with e | e <;> rw [e] <;> omega
end Go.Proofs

set_option linter.unusedVariables false
set_option linter.unusedSimpArgs false
namespace Go.Proofs
open Go Go.Sx Go.RowKit
theorem sumN_le {F G : Nat → Int} : ∀ {k : Nat}, (∀ i, i < k → F i ≤ G i) → sumN F k ≤ sumN G k
  | 0, _ => Int.le_refl _
  | k + 1, h => by
    have := sumN_le (fun i hi => h i (by omega) : ∀ i, i < k → F i ≤ G i)
    have := h k (by omega)
    simp only [sumN]; omega
theorem sumN_const (x : Int) : ∀ k : Nat, sumN (fun _ => x) k = k * x
  | 0 => by simp [sumN]
  | k + 1 => by simp only [sumN]; rw [sumN_const x k, Int.natCast_add, Int.add_mul]; simp
theorem sumN_at (j : Nat) (x : Int) {k : Nat} (hj : j < k) : sumN (fun i => if i = j then x else 0) k = x := by
  rw [sumN_one (j := j) hj (fun i hi hne => if_neg hne), if_pos rfl]
/-- Of N - 1 levels one is nobody's. -/
theorem free_level {H : Nat → Int} {N u t : Nat} (hu : u < N) (ht : t < N) (hut : u ≠ t) (h0 : H t = 0) (hN : 2 ≤ N) : ∃ i : Nat, i < N - 1 ∧ ∀ v, v < N → v ≠ u → H v ≠ (N : Int) + i := by
  refine Decidable.byContradiction fun hno => ?_
  have hocc : ∀ i : Nat, i < N - 1 → ∃ v, v < N ∧ v ≠ u ∧ H v = (N : Int) + i := fun i hi => by
    refine Classical.byContradiction fun hq => hno ⟨i, hi, fun v hv hne he => hq ⟨v, hv, hne, he⟩⟩
  have h1 : ((N - 1 : Nat) : Int) ≤ sumN (fun i => sumN (fun v => if v ≠ u ∧ H v = (N : Int) + i then 1 else 0) N) (N - 1) := by
    have e : sumN (fun _ => (1 : Int)) (N - 1) = ((N - 1 : Nat) : Int) := by rw [sumN_const]; omega
    rw [← e]
    refine sumN_le fun i hi => ?_
    obtain ⟨v, hv, hne, he⟩ := hocc i hi
    have e2 : sumN (fun w => if w = v then (1 : Int) else 0) N = 1 := sumN_at v 1 hv
    rw [← e2]
    refine sumN_le fun w hw => ?_
    by_cases hwv : w = v
    · subst hwv; rw [if_pos rfl, if_pos ⟨hne, he⟩]; omega
    · rw [if_neg hwv]; split <;> omega
  have h2 : sumN (fun i => sumN (fun v => if v ≠ u ∧ H v = (N : Int) + i then 1 else 0) N) (N - 1) ≤ (N : Int) - 2 := by
    rw [sumN_swap]
    have e : sumN (fun v => (1 : Int) + ((if v = u then -1 else 0) + (if v = t then -1 else 0))) N = (N : Int) - 2 := by
      rw [sumN_add, sumN_add, sumN_const, sumN_at u _ hu, sumN_at t _ ht]; omega
    rw [← e]
    refine sumN_le fun v hv => ?_
    by_cases hvu : v = u
    · subst hvu
      rw [sumN_zero (fun i _ => if_neg (fun q => q.1 rfl)), if_pos rfl, if_neg hut]; omega
    · by_cases hvt : v = t
      · subst hvt
        rw [sumN_zero (fun i _ => if_neg (fun q => by have := q.2; omega)), if_neg hvu, if_pos rfl]; omega
      · rw [if_neg hvu, if_neg hvt]
        by_cases hex : ∃ i : Nat, i < N - 1 ∧ H v = (N : Int) + i
        · obtain ⟨i, hi, he⟩ := hex
          rw [sumN_one (j := i) hi (fun k hk hne => if_neg (fun q => hne (by have := q.2; omega))), if_pos ⟨hvu, he⟩]; omega
        · rw [sumN_zero (fun i hi => if_neg (fun q => hex ⟨i, hi, q.2⟩))]; omega
  omega
theorem two_pts (x y v : Nat) (X : Nat → Bool) (d : Int) : (if X v = true then ((if x = v then d else 0) - (if y = v then d else 0)) else 0) = (if v = x then (if X x = true then d else 0) else 0) + (if v = y then (if X y = true then -d else 0) else 0) := by
  by_cases h1 : x = v
  · subst h1
    by_cases h2 : y = x
    · subst h2
      by_cases hx : X y = true
      · simp [hx]; omega
      · simp [hx]
    · by_cases hx : X x = true
      · simp [hx, h2, Ne.symm h2]
      · simp [hx, h2, Ne.symm h2]
  · by_cases h2 : y = v
    · subst h2
      by_cases hx : X y = true
      · simp [hx, h1, Ne.symm h1]
      · simp [hx, h1, Ne.symm h1]
    · by_cases hx : X v = true
      · simp [hx, h1, h2, Ne.symm h1, Ne.symm h2]
      · simp [hx, h1, h2, Ne.symm h1, Ne.symm h2]
/-- No flow comes out of nothing: vertices out of which no arc is left have no excess together. -/
theorem no_excess {c : Csr} (h : CsrG c) {p : Pre} (hp : refR c p) (X : Nat → Bool) (hX : ∀ a : Nat, a < c.Head.length → X (tailOf c a).toNat = true → X (c.Head.getD a 0).toNat = false → p.Res.getD a 0 = 0) :
    sumN (fun v => if X v = true then p.Ex.getD v 0 else 0) c.N.toNat ≤ 0 := by
  have e1 : sumN (fun v => if X v = true then p.Ex.getD v 0 else 0) c.N.toNat = sumN (fun v => sumN (fun b => if X v = true then (if c.Back.getD b false = true then gA c (p.Res.getD b 0) b v else 0) else 0) c.Head.length) c.N.toNat := by
    refine sumN_congr fun v hv => ?_
    have g := hp.1.1.2 v hv; unfold okV at g
    by_cases hx : X v = true
    · rw [if_pos hx, ← g.1.1.1, rK_get h _ _ (Nat.le_refl _) v hv]
      exact sumN_congr fun b _ => by rw [if_pos hx]
    · rw [if_neg hx, sumN_zero (fun b _ => if_neg hx)]
  rw [e1, sumN_swap]
  have e0 : sumN (fun _ => (0 : Int)) c.Head.length = 0 := sumN_zero fun _ _ => rfl
  refine Int.le_trans (sumN_le (G := fun _ => 0) fun b hb => ?_) (Int.le_of_eq e0)
  have hr := h.rv b hb
  have h1 := h.hd b hb
  have h2 := h.hd (c.Rev.getD b 0).toNat (by omega)
  have htl := h.rtl b hb
  have hpr := hp.1.1.1.2 b hb
  by_cases hB : c.Back.getD b false = true
  · have e2 : sumN (fun v => if X v = true then (if c.Back.getD b false = true then gA c (p.Res.getD b 0) b v else 0) else 0) c.N.toNat = (if X (c.Head.getD (c.Rev.getD b 0).toNat 0).toNat = true then p.Res.getD b 0 else 0) + (if X (c.Head.getD b 0).toNat = true then -(p.Res.getD b 0) else 0) := by
      have e3 : sumN (fun v => if X v = true then (if c.Back.getD b false = true then gA c (p.Res.getD b 0) b v else 0) else 0) c.N.toNat = sumN (fun v => (if v = (c.Head.getD (c.Rev.getD b 0).toNat 0).toNat then (if X (c.Head.getD (c.Rev.getD b 0).toNat 0).toNat = true then p.Res.getD b 0 else 0) else 0) + (if v = (c.Head.getD b 0).toNat then (if X (c.Head.getD b 0).toNat = true then -(p.Res.getD b 0) else 0) else 0)) c.N.toNat := by
        refine sumN_congr fun v hv => ?_
        rw [if_pos hB]
        unfold gA
        exact two_pts _ _ _ _ _
      rw [e3, sumN_add, sumN_at _ _ (by omega), sumN_at _ _ (by omega)]
    rw [e2]
    have hx := hX b hb
    rw [htl] at hx
    by_cases x1 : X (c.Head.getD (c.Rev.getD b 0).toNat 0).toNat = true
    · by_cases x2 : X (c.Head.getD b 0).toNat = true
      · rw [if_pos x1, if_pos x2]; omega
      · rw [if_pos x1, if_neg x2]
        have := hx x1 (by simpa using x2)
        omega
    · rw [if_neg x1]; split <;> omega
  · rw [sumN_zero (fun v _ => by rw [if_neg hB]; split <;> rfl)]; omega
end Go.Proofs

set_option linter.unusedVariables false
set_option linter.unusedSimpArgs false
namespace Go.Proofs
open Go Go.Sx Go.RowKit
theorem lowL_le {c : Csr} {p : Pre} {a0 m : Int} : ∀ {k j : Nat}, j < k → p.Res.getD (a0 + j).toNat 0 > 0 → lowL c p a0 m k ≤ p.H.getD (c.Head.getD (a0 + j).toNat 0).toNat 0
  | k + 1, j, hj, hr => by
    simp only [lowL]
    rcases Nat.lt_or_ge j k with q | q
    · have ih := lowL_le (c := c) (p := p) (a0 := a0) (m := m) q hr
      split
      · split <;> omega
      · exact ih
    · have : j = k := by omega
      subst this
      rw [if_pos hr]; split <;> omega
theorem lowL_at {c : Csr} {p : Pre} {a0 m : Int} : ∀ k : Nat, lowL c p a0 m k = m ∨ ∃ j, j < k ∧ p.Res.getD (a0 + j).toNat 0 > 0 ∧ lowL c p a0 m k = p.H.getD (c.Head.getD (a0 + j).toNat 0).toNat 0
  | 0 => .inl rfl
  | k + 1 => by
    simp only [lowL]
    have ih := lowL_at (c := c) (p := p) (a0 := a0) (m := m) k
    have old : lowL c p a0 m k = m ∨ ∃ j, j < k + 1 ∧ p.Res.getD (a0 + j).toNat 0 > 0 ∧ lowL c p a0 m k = p.H.getD (c.Head.getD (a0 + j).toNat 0).toNat 0 := by
      rcases ih with q | ⟨j, q1, q2, q3⟩
      · exact .inl q
      · exact .inr ⟨j, by omega, q2, q3⟩
    split
    · rename_i h1
      split
      · exact .inr ⟨k, by omega, h1, rfl⟩
      · exact old
    · exact old
theorem many_arc {c : Csr} (h : CsrT c) {u : Int} (hu : 0 ≤ u ∧ u < c.N) {j : Nat} (hj : j < manyOf c u) : 0 ≤ c.First.getD u.toNat 0 + (j : Int) ∧ c.First.getD u.toNat 0 + (j : Int) < c.Head.length ∧ tailOf c (c.First.getD u.toNat 0 + j) = u := by
  have hm := h.mono u.toNat (by omega)
  unfold manyOf at hj
  rw [show (u + 1).toNat = u.toNat + 1 by omega] at hj
  exact tail_of_arc h hu (by omega) (by omega)
theorem arc_many {c : Csr} (h : CsrT c) {a : Nat} (ha : a < c.Head.length) {u : Int} (ht : tailOf c a = u) : ∃ j, j < manyOf c u ∧ (a : Int) = c.First.getD u.toNat 0 + j := by
  obtain ⟨v, hv, ⟨q1, q2⟩, q3, -⟩ := h.tail_at (a := (a : Int)) (by omega) (by omega)
  have hvu : u = (v : Int) := by omega
  subst hvu
  refine ⟨((a : Int) - c.First.getD v 0).toNat, ?_, ?_⟩
  · unfold manyOf; rw [show ((v : Int) + 1).toNat = v + 1 by omega, Int.toNat_natCast]; omega
  · rw [Int.toNat_natCast]; omega
theorem lift_high {c : Csr} (h : CsrG c) {p : Pre} (hp : refR c p) {u : Int} (hu : 0 ≤ u ∧ u < c.N) (hs : stuckP c p u) : p.H.getD u.toNat 0 ≤ leastL c p u := by
  have hn := h.n
  unfold leastL
  have g := hp.1.1.2 u.toNat (by omega); unfold okV at g
  rcases lowL_at (c := c) (p := p) (a0 := c.First.getD u.toNat 0) (m := 2 * c.N) (manyOf c u) with q | ⟨j, q1, q2, q3⟩
  · rw [q]; omega
  · rw [q3]
    obtain ⟨t1, t2, t3⟩ := many_arc h.toCsrT hu q1
    have h1 := hs.1 j q1
    have h2 := hp.1.2 (c.First.getD u.toNat 0 + (j : Int)).toNat (by omega)
    rw [show (((c.First.getD u.toNat 0 + (j : Int)).toNat : Nat) : Int) = c.First.getD u.toNat 0 + j by omega, t3] at h2
    unfold admP at h1
    unfold steepA at h2
    omega
theorem lift_low {c : Csr} (h : CsrG c) {p : Pre} (hp : refR c p) {u : Int} (hu : 0 ≤ u ∧ u < c.N) (hs : stuckP c p u) : leastL c p u ≤ 2 * c.N - 2 := by
  have hn := h.n
  have hS := h.s
  have hT := h.t
  obtain ⟨hs1, ⟨hs2, hs3⟩, hs4⟩ := hs
  refine Decidable.byContradiction fun hno => ?_
  have hHT := hp.2.2
  have hHS := hp.2.1
  obtain ⟨i, hi, hfree⟩ := free_level (H := fun v => p.H.getD v 0) (N := c.N.toNat) (u := u.toNat) (t := c.T.toNat) (by omega) (by omega) (by omega) hHT (by omega)
  have hX := no_excess h hp (fun v => decide (v = u.toNat ∨ p.H.getD v 0 > (c.N.toNat : Int) + i)) (fun a ha h1 h2 => ?_)
  · have e : sumN (fun v => if v = u.toNat then p.Ex.getD u.toNat 0 else 0) c.N.toNat = p.Ex.getD u.toNat 0 := sumN_at _ _ (by omega)
    have hle : sumN (fun v => if v = u.toNat then p.Ex.getD u.toNat 0 else 0) c.N.toNat ≤ sumN (fun v => if decide (v = u.toNat ∨ p.H.getD v 0 > (c.N.toNat : Int) + i) = true then p.Ex.getD v 0 else 0) c.N.toNat := by
      refine sumN_le fun v hv => ?_
      by_cases hvu : v = u.toNat
      · subst hvu; rw [if_pos rfl, if_pos (by simp)]; omega
      · rw [if_neg hvu]
        split
        · rename_i hx
          have hx' := of_decide_eq_true hx
          have g := hp.1.1.2 v hv; unfold okV at g
          have hvS : (v : Int) ≠ c.S := fun q => by
            have : v = c.S.toNat := by omega
            subst this; omega
          have := g.1.1.2
          omega
        · exact Int.le_refl _
    omega
  · have h1' := of_decide_eq_true h1
    have h2' := of_decide_eq_false h2
    obtain ⟨v, hv, -, ht, -⟩ := h.toCsrT.tail_at (a := (a : Int)) (by omega) (by omega)
    have hhd := h.hd a ha
    have hpr := hp.1.1.1.2 a ha
    refine Decidable.byContradiction fun hres => ?_
    have hpos : p.Res.getD a 0 > 0 := by omega
    rcases h1' with q | q
    · have htu : tailOf c (a : Int) = u := by omega
      obtain ⟨j, j1, j2⟩ := arc_many h.toCsrT ha htu
      have := lowL_le (c := c) (p := p) (a0 := c.First.getD u.toNat 0) (m := 2 * c.N) j1 (by rw [← j2, Int.toNat_natCast]; exact hpos)
      rw [← j2, Int.toNat_natCast] at this
      have hl : leastL c p u = lowL c p (c.First.getD u.toNat 0) (2 * c.N) (manyOf c u) := rfl
      omega
    · have hf := hfree (c.Head.getD a 0).toNat (by omega) (fun w => h2' (.inl w))
      have hst := hp.1.2 a ha
      unfold steepA at hst
      rw [Int.toNat_natCast] at hst
      omega
end Go.Proofs

set_option linter.unusedVariables false
set_option linter.unusedSimpArgs false
namespace Go.Proofs
open Go Go.Sx Go.RowKit
/-- A push of a state that may be comes to one. -/
theorem push_right {c : Csr} (h : CsrG c) {p : Pre} (hp : refR c p) {a : Int} (ha : 0 ≤ a ∧ a < c.Head.length) (hq : pushesP c p a) : refR c (moveP c p a (pushD c p a)) := by
  have hR := (refR_iff h p).1 hp
  have hq' := hq
  obtain ⟨⟨⟨q1, q2⟩, q3⟩, q4, q5⟩ := hq'
  have htl := G_tail h ha
  obtain ⟨v, hv, ⟨t1, t2⟩, t3, -⟩ := h.toCsrT.tail_at ha.1 ha.2
  have hd : 1 ≤ pushD c p a ∧ pushD c p a ≤ p.Res.getD a.toNat 0 ∧ pushD c p a ≤ p.Ex.getD (tailOf c a).toNat 0 := by unfold pushD; split <;> omega
  have hlegal : legalE c p ⟨0, 1, tailOf c a, a, pushD c p a, p.H.getD (tailOf c a).toNat 0, p.H.getD (tailOf c a).toNat 0 - 1⟩ = 0 := by
    unfold legalE
    dsimp only
    rw [if_neg (by omega), if_neg (by omega)]
    unfold pushE
    dsimp only
    rw [t3, Int.toNat_natCast, show ((v : Int) + 1).toNat = v + 1 by omega]
    rw [t3, Int.toNat_natCast] at hd
    rw [if_neg (by omega), if_neg (by omega)]
  have hmv : doesP c p ⟨0, 1, tailOf c a, a, pushD c p a, p.H.getD (tailOf c a).toNat 0, p.H.getD (tailOf c a).toNat 0 - 1⟩ = moveP c p a (pushD c p a) := by
    unfold doesP moveP
    dsimp only
    rw [if_neg (by decide), ← htl]
  have hr := right_does h hR.1 hlegal
  rw [hmv] at hr
  refine (refR_iff h _).2 ⟨hr, hR.2.1, fun b hb hs => ?_⟩
  have hrv := h.rv a.toNat (by omega)
  have hne := h.rne a.toNat (by omega)
  have hl := hR.1.1.1
  obtain ⟨s1, s2⟩ := hs
  rw [Int.toNat_natCast] at s1 s2
  have hres : (moveP c p a (pushD c p a)).Res.getD b 0 = p.Res.getD b 0 + (if (c.Rev.getD a.toNat 0).toNat = b then pushD c p a else 0) - (if a.toNat = b then pushD c p a else 0) := by
    unfold moveP addAt subAt
    dsimp only
    rw [show ∀ A d : Int, A - d = A + -d from fun A d => by omega, two_set (by omega) (by omega)]
    split <;> split <;> omega
  have hHs : (moveP c p a (pushD c p a)).H = p.H := rfl
  rw [hHs] at s2
  by_cases hrb : (c.Rev.getD a.toNat 0).toNat = b
  · have r1 := h.rtl a.toNat (by omega)
    have r2 := h.rtl b hb
    have r3 := h.rrv a.toNat (by omega)
    rw [show ((a.toNat : Nat) : Int) = a by omega] at r1 r3
    rw [hrb] at r1 r3
    rw [r3] at r2
    rw [r2, ← r1] at s2
    omega
  · rw [hres, if_neg hrb] at s1
    refine hR.2.2 b hb ⟨?_, ?_⟩
    · rw [Int.toNat_natCast]; split at s1 <;> omega
    · rw [Int.toNat_natCast]; exact s2
/-- A lift of a state that may be comes to one. -/
theorem lift_right {c : Csr} (h : CsrG c) {p : Pre} (hp : refR c p) {u : Int} (hu : 0 ≤ u ∧ u < c.N) (hs : stuckP c p u) : refR c ⟨p.Res, p.Ex, p.H.set u.toNat (leastL c p u + 1)⟩ := by
  have hR := (refR_iff h p).1 hp
  have h1 := lift_high h hp hu hs
  have h2 := lift_low h hp hu hs
  obtain ⟨-, ⟨hs2, hs3⟩, hs4⟩ := hs
  have hl3 := hR.1.1.2.2
  have hn := h.n
  have hlegal : legalE c p ⟨0, 2, u, 0, 0, leastL c p u + 1, 0⟩ = 0 := by
    unfold legalE
    dsimp only
    rw [if_neg (by omega), if_pos rfl]
    unfold liftE
    dsimp only
    rw [if_neg (by omega)]
  have hr := right_does h hR.1 hlegal
  have hmv : doesP c p ⟨0, 2, u, 0, 0, leastL c p u + 1, 0⟩ = ⟨p.Res, p.Ex, p.H.set u.toNat (leastL c p u + 1)⟩ := by
    unfold doesP; dsimp only; rw [if_pos rfl]
  rw [hmv] at hr
  have hg : ∀ v : Nat, (p.H.set u.toNat (leastL c p u + 1)).getD v 0 = if u.toNat = v then leastL c p u + 1 else p.H.getD v 0 := fun v => getD_set _ _ _ _ (by omega)
  refine (refR_iff h _).2 ⟨hr, fun v hv => ?_, fun a ha hst => ?_⟩
  · show (p.H.set u.toNat (leastL c p u + 1)).getD v 0 < _
    rw [hg]
    have := hR.2.1 v hv
    split <;> omega
  · obtain ⟨s1, s2⟩ := hst
    have s1' : p.Res.getD a 0 > 0 := by rw [Int.toNat_natCast] at s1; exact s1
    have s2' : (p.H.set u.toNat (leastL c p u + 1)).getD (tailOf c (a : Int)).toNat 0 > (p.H.set u.toNat (leastL c p u + 1)).getD (c.Head.getD a 0).toNat 0 + 1 := by rw [Int.toNat_natCast] at s2; exact s2
    rw [hg, hg] at s2'
    have hno := hR.2.2 a ha
    unfold steepA at hno
    rw [Int.toNat_natCast] at hno
    obtain ⟨v, hv, -, ht, -⟩ := h.toCsrT.tail_at (a := (a : Int)) (by omega) (by omega)
    have hhd := h.hd a ha
    by_cases w1 : u.toNat = (tailOf c (a : Int)).toNat
    · rw [if_pos w1] at s2'
      by_cases w2 : u.toNat = (c.Head.getD a 0).toNat
      · rw [if_pos w2] at s2'; omega
      · rw [if_neg w2] at s2'
        obtain ⟨j, j1, j2⟩ := arc_many h.toCsrT ha (u := u) (by omega)
        have := lowL_le (c := c) (p := p) (a0 := c.First.getD u.toNat 0) (m := 2 * c.N) j1 (by rw [← j2, Int.toNat_natCast]; exact s1')
        rw [← j2, Int.toNat_natCast] at this
        have hl : leastL c p u = lowL c p (c.First.getD u.toNat 0) (2 * c.N) (manyOf c u) := rfl
        omega
    · rw [if_neg w1] at s2'
      by_cases w2 : u.toNat = (c.Head.getD a 0).toNat
      · rw [if_pos w2] at s2'
        rw [← w2] at hno
        omega
      · rw [if_neg w2] at s2'
        omega
end Go.Proofs

set_option linter.unusedVariables false
set_option linter.unusedSimpArgs false
namespace Go.Proofs
open Go Go.Sx Go.RowKit
structure CsrQ (c : Csr) : Prop extends CsrP c where
  capb : ∀ a, a < c.Head.length → c.Back.getD a false = true → c.Cap.getD a 0 = 0
  noself : ∀ a : Nat, a < c.Head.length → tailOf c a ≠ c.Head.getD a 0
theorem make_q {n : Net} (h : Small n) : CsrQ (makeC n) where
  toCsrP := make_p h
  capb := fun a ha hb => by
    rw [make_head] at ha
    have hb' : ((rows n).map Row.back).getD a false = true := hb
    rw [getD_back] at hb'
    show ((rows n).map Row.cap).getD a 0 = 0
    rw [getD_cap]
    obtain ⟨k, hk, hne, hc⟩ := row_cases h.toNetOK ha
    rcases hc with e | e <;> rw [e] at hb' ⊢
    cases hb'
  noself := fun a ha => by
    rw [make_head] at ha
    rw [tail_end h ha]
    show _ ≠ ((rows n).map Row.hd).getD a 0
    rw [getD_hd]
    obtain ⟨k, hk, hne, hc⟩ := row_cases h.toNetOK ha
    rcases hc with e | e <;> rw [e] <;> simp [endOf, Row.key] <;> simp [List.getD] at hne <;> first | exact hne | exact fun q => hne q.symm
structure BegS (c : Csr) (k : Nat) : Prop where
  pairs : pairsP c (begK c k).Res
  ex : ∀ v : Nat, v < c.N.toNat → (begK c k).Ex.getD v 0 = exOf c (begK c k).Res v
  pos : ∀ v : Nat, v < c.N.toNat → (v : Int) ≠ c.S → 0 ≤ (begK c k).Ex.getD v 0
  hh : (begK c k).H = (begK c 0).H
  full : ∀ a : Nat, a < c.Head.length → tailOf c a = c.S → (a : Int) < c.First.getD c.S.toNat 0 + k → (begK c k).Res.getD a 0 = 0
theorem exK_zero {c : Csr} (hb : ∀ a, a < c.Head.length → c.Back.getD a false = true → c.Cap.getD a 0 = 0) (v : Int) : ∀ k, k ≤ c.Head.length → exK c c.Cap k v = 0
  | 0, _ => rfl
  | k + 1, hk => by
    simp only [exK]
    rw [exK_zero hb v k (by omega)]
    by_cases q : c.Back.getD k false = true
    · rw [if_pos q, hb k (by omega) q]; split <;> split <;> rfl
    · rw [if_neg q]; rfl
theorem beg_step {c : Csr} (h : CsrQ c) {k : Nat} (hk : k < manyOf c c.S) (hI : BegS c k) : MoveIn c (begK c k) (c.First.getD c.S.toNat 0 + k) ((begK c k).Res.getD (c.First.getD c.S.toNat 0 + k).toNat 0) ∧ BegS c (k + 1) := by
  have hn := h.n
  have hS := h.s
  have hl := begK_len h.toCsrLen k
  obtain ⟨t1, t2, t3⟩ := many_arc h.toCsrT hS hk
  obtain ⟨A, hA⟩ : ∃ A : Nat, c.First.getD c.S.toNat 0 + (k : Int) = (A : Int) := ⟨_, (Int.toNat_of_nonneg t1).symm⟩
  rw [hA] at t1 t2 t3
  have hAl : A < c.Head.length := by omega
  have hr := h.rv A hAl
  have hne := h.rne A hAl
  have hrr := h.rrv A hAl
  have htl := h.rtl A hAl
  have hns := h.noself A hAl
  have hd1 := h.hd A hAl
  have hpr := hI.pairs A hAl
  have hpr2 := hI.pairs (c.Rev.getD A 0).toNat (by omega)
  have hcv := h.capv A hAl
  have hcv2 := h.capv (c.Rev.getD A 0).toNat (by omega)
  have hl1 := hl.res
  have hl2 := hl.ex
  have hex : ∀ v : Nat, v < c.N.toNat → -2305843009213693952 ≤ (begK c k).Ex.getD v 0 ∧ (begK c k).Ex.getD v 0 ≤ 2305843009213693952 := fun v hv => by
    rw [hI.ex v hv]
    exact exK_in h.toCsrT (fun a ha => ⟨(hI.pairs a ha).1, (hI.pairs a ha).2.1⟩) (Nat.le_refl _) v
  have hxS := hex c.S.toNat (by omega)
  have hxH := hex (c.Head.getD A 0).toNat (by omega)
  rw [t3] at htl hns
  rw [hA, Int.toNat_natCast]
  have hres : ∀ b : Nat, (moveP c (begK c k) A ((begK c k).Res.getD A 0)).Res.getD b 0 = (begK c k).Res.getD b 0 + (if (c.Rev.getD A 0).toNat = b then (begK c k).Res.getD A 0 else 0) - (if A = b then (begK c k).Res.getD A 0 else 0) := fun b => by
    unfold moveP addAt subAt
    dsimp only
    rw [Int.toNat_natCast, show ∀ A d : Int, A - d = A + -d from fun A d => by omega, two_set (by omega) (by omega)]
    split <;> split <;> omega
  have hexm : ∀ v : Nat, v < c.N.toNat → (moveP c (begK c k) A ((begK c k).Res.getD A 0)).Ex.getD v 0 = (begK c k).Ex.getD v 0 - (if c.S = (v : Int) then (begK c k).Res.getD A 0 else 0) + (if c.Head.getD A 0 = (v : Int) then (begK c k).Res.getD A 0 else 0) := fun v hv => by
    unfold moveP addAt subAt
    dsimp only
    rw [Int.toNat_natCast, ← htl, show ∀ A d : Int, A - d = A + -d from fun A d => by omega, two_set (by omega) (by omega)]
    have e1 : (c.S.toNat = v) ↔ (c.S = (v : Int)) := by omega
    have e2 : ((c.Head.getD A 0).toNat = v) ↔ (c.Head.getD A 0 = (v : Int)) := by omega
    simp only [e1, e2]
    split <;> split <;> omega
  have hbk : begK c (k + 1) = moveP c (begK c k) A ((begK c k).Res.getD A 0) := by
    show moveP c (begK c k) (c.First.getD c.S.toNat 0 + k) ((begK c k).Res.getD (c.First.getD c.S.toNat 0 + k).toNat 0) = _
    rw [hA, Int.toNat_natCast]
  constructor
  · refine ⟨?_, ?_, ?_, ?_⟩
    · unfold In1; rw [Int.toNat_natCast]; omega
    · unfold In1 subAt; rw [Int.toNat_natCast]
      rcases getD_set_le (begK c k).Res A (c.Rev.getD A 0).toNat ((begK c k).Res.getD A 0 - (begK c k).Res.getD A 0) with e | e <;> rw [e] <;> omega
    · unfold In1; rw [Int.toNat_natCast, ← htl]; omega
    · unfold In1 subAt; rw [Int.toNat_natCast, ← htl]
      rcases getD_set_le (begK c k).Ex c.S.toNat (c.Head.getD A 0).toNat ((begK c k).Ex.getD c.S.toNat 0 - (begK c k).Res.getD A 0) with e | e <;> rw [e] <;> omega
  · refine ⟨fun b hb => ?_, fun v hv => ?_, fun v hv hvS => ?_, ?_, fun b hb hbt hlt => ?_⟩
    · rw [hbk]
      have hq := hI.pairs b hb
      have hrb := h.rrv b hb
      have hrvb := h.rv b hb
      have hmr := most_rev h.toCsrG hAl
      rw [hres, hres]
      by_cases h1 : (c.Rev.getD A 0).toNat = b
      · have hb2 : (c.Rev.getD b 0).toNat = A := by rw [← h1, hrr, Int.toNat_natCast]
        rw [h1] at hmr
        rw [hb2] at hq ⊢
        rw [if_pos h1, if_neg (show ¬ A = b by omega), if_neg hne, if_pos rfl]
        omega
      · by_cases h2 : A = b
        · subst h2
          rw [if_neg hne, if_pos rfl, if_pos rfl, if_neg (Ne.symm hne)]
          omega
        · rw [if_neg h1, if_neg h2, if_neg (fun q => ?_), if_neg (fun q => ?_)]
          · omega
          · rw [← q] at hrb; exact h1 (by omega)
          · rw [← q, hrr] at hrb; omega
    · rw [hbk, hexm v hv]
      have := ex_push h.toCsrG hl1 (a := (A : Int)) ⟨t1, t2⟩ ((begK c k).Res.getD A 0) (v : Int)
      have hR : (moveP c (begK c k) A ((begK c k).Res.getD A 0)).Res = addAt (subAt (begK c k).Res A ((begK c k).Res.getD A 0)) (c.Rev.getD ((A : Int)).toNat 0) ((begK c k).Res.getD A 0) := rfl
      rw [hR, this, t3, Int.toNat_natCast, ← hI.ex v hv]
    · rw [hbk, hexm v hv, if_neg (fun q => hvS q.symm)]
      have := hI.pos v hv hvS
      split <;> omega
    · rw [hbk]; exact hI.hh
    · rw [hbk, hres]
      have hrb : (c.Rev.getD A 0).toNat ≠ b := fun q => by
        have := h.rtl b hb
        rw [hbt, ← q, hrr, Int.toNat_natCast] at this
        exact hns this
      rw [if_neg hrb]
      by_cases h2 : A = b
      · subst h2; rw [if_pos rfl]; omega
      · rw [if_neg h2]
        have := hI.full b hb hbt (by omega)
        omega
theorem beg_all {c : Csr} (h : CsrQ c) : ∀ k, k ≤ manyOf c c.S → BegS c k
  | 0, _ => by
    have hn := h.n
    have hx0 : ∀ v : Nat, v < c.N.toNat → (begK c 0).Ex.getD v 0 = 0 := fun v hv => by simp [begK, List.getD, hv]
    refine ⟨fun a ha => ?_, fun v hv => ?_, fun v hv _ => by rw [hx0 v hv]; omega, rfl, fun a ha ht hlt => ?_⟩
    · have h1 := h.cp a ha
      have hr := h.rv a ha
      have h2 := h.cp (c.Rev.getD a 0).toNat (by omega)
      have hm : mostOf c a = c.Cap.getD a 0 + c.Cap.getD (c.Rev.getD a 0).toNat 0 := rfl
      show 0 ≤ c.Cap.getD a 0 ∧ c.Cap.getD a 0 ≤ mostOf c a ∧ c.Cap.getD (c.Rev.getD a 0).toNat 0 = mostOf c a - c.Cap.getD a 0
      omega
    · rw [hx0 v hv]; exact (exK_zero h.capb v _ (Nat.le_refl _)).symm
    · exfalso
      have hS := h.s
      obtain ⟨j, j1, j2⟩ := arc_many h.toCsrT ha ht
      omega
  | k + 1, hk => (beg_step h (by omega) (beg_all h k (by omega))).2
theorem beg_in_all {c : Csr} (h : CsrQ c) : BegIn c := fun k hk => (beg_step h hk (beg_all h k (by have : manyOf c c.S = (c.First.getD (c.S + 1).toNat 0 - c.First.getD c.S.toNat 0).toNat := rfl; omega))).1
/-- The first state may be. -/
theorem beg_ref {c : Csr} (h : CsrQ c) : refR c (begC c) := by
  have hn := h.n
  have hS := h.s
  have hT := h.t
  have hst := h.st
  have hI : BegS c (manyOf c c.S) := beg_all h _ (Nat.le_refl _)
  have hl := begK_len h.toCsrLen (manyOf c c.S)
  have hbc : begC c = begK c (manyOf c c.S) := rfl
  rw [hbc]
  have hH : ∀ v : Nat, v < c.N.toNat → (begK c (manyOf c c.S)).H.getD v 0 = if c.S.toNat = v then c.N else 0 := fun v hv => by
    rw [hI.hh]
    show ((List.replicate c.N.toNat (0 : Int)).set c.S.toNat c.N).getD v 0 = _
    rw [getD_set _ _ _ _ (by simp; omega)]
    split
    · rfl
    · simp [List.getD, hv]
  refine (refR_iff h.toCsrG _).2 ⟨⟨⟨hl.res, hl.ex, hl.h⟩, ⟨fun v hv => ?_, ?_, ?_⟩, hI.pairs, fun v hv => ⟨hI.ex v hv, hI.pos v hv⟩⟩, fun v hv => ?_, fun a ha hs => ?_⟩
  · rw [hH v hv]; split <;> omega
  · rw [hH _ (by omega), if_pos rfl]
  · rw [hH _ (by omega), if_neg (by omega)]
  · rw [hH v hv]; split <;> omega
  · obtain ⟨s1, s2⟩ := hs
    rw [Int.toNat_natCast] at s1 s2
    obtain ⟨v, hv, -, ht, -⟩ := h.toCsrT.tail_at (a := (a : Int)) (by omega) (by omega)
    have hd := h.hd a ha
    by_cases q : tailOf c (a : Int) = c.S
    · obtain ⟨j, j1, j2⟩ := arc_many h.toCsrT ha q
      have := hI.full a ha q (by omega)
      omega
    · rw [hH _ (by omega), hH _ (by omega), if_neg (by omega)] at s2
      split at s2 <;> omega
end Go.Proofs

set_option linter.unusedVariables false
set_option linter.unusedSimpArgs false
namespace Go.Proofs
open Go Go.Sx Go.RowKit
abbrev aw0 : Net := ⟨4, 0, 3, [⟨0, 1, 5⟩, ⟨0, 2, 4⟩, ⟨1, 3, 3⟩, ⟨2, 3, 6⟩, ⟨1, 2, 2⟩]⟩
theorem aw0_small : Small aw0 := by
  refine ⟨⟨by decide, by decide, by decide, by decide, by decide, by decide, by decide, by decide⟩, by decide, by decide, by decide⟩
theorem aw0_q : CsrQ (makeC aw0) := make_q aw0_small
abbrev awQ : Pre := begC (makeC aw0)
theorem awQ_ref : refR (makeC aw0) awQ := beg_ref aw0_q
abbrev awR : Pre := (liftR (makeC aw0) awQ 1).1
abbrev awS : Pre := (pushR (makeC aw0) awR 3).1
theorem aw_stuck : stuckP (makeC aw0) awQ 1 := by decide +kernel
theorem awR_ref : refR (makeC aw0) awR := by
  have := lift_right aw0_q.toCsrG awQ_ref (u := 1) (by decide) aw_stuck
  have e : awR = ⟨awQ.Res, awQ.Ex, awQ.H.set (1 : Int).toNat (leastL (makeC aw0) awQ 1 + 1)⟩ := by
    show (liftR (makeC aw0) awQ 1).1 = _
    unfold liftR; rw [if_pos (by decide), if_pos aw_stuck]
  rw [e]; exact this
theorem aw_push : pushesP (makeC aw0) awR 3 := by decide +kernel
theorem awS_ref : refR (makeC aw0) awS := by
  have hl : (3 : Int) < (makeC aw0).Head.length := by decide +kernel
  have := push_right aw0_q.toCsrG awR_ref (a := 3) ⟨by decide, hl⟩ aw_push
  have e : awS = moveP (makeC aw0) awR 3 (pushD (makeC aw0) awR 3) := by
    show (pushR (makeC aw0) awR 3).1 = _
    unfold pushR; rw [if_pos ⟨by decide, hl⟩, if_pos aw_push]
  rw [e]; exact this
theorem aw_lens : awQ.Ex.length = 4 ∧ (stuckL (makeC aw0) awQ).length = 2 ∧ (activeL (makeC aw0) awQ).length = 2 ∧ (pushL (makeC aw0) awR).length = 2 ∧ awR.H.length = 4 := by decide +kernel
set_option maxHeartbeats 8000000 in
set_option synthInstance.maxHeartbeats 400000 in
set_option synthInstance.maxSize 2000 in
theorem t_Four  : Tri Try.prog 59 [] [] (fun s H => s = .agg [.val (.int .i64 aw0.N), .val (.int .i64 aw0.S), .val (.int .i64 aw0.T), .slc 0 0 aw0.arcs.length none] ∧ H = [SO.arcs true aw0.arcs]) := by
  refine tri_of_w (fn := Try.f59) Try.func59 rfl (by simp [Try.f59]) ?_
  intro ρ w hρ
  refine w_seq ?_
  refine w_region ?_
  refine rw_t 0 rfl rfl rfl (n_alloc (n := 0) rfl ?_)
  refine rw_nil ?_
  refine w_seq ?_
  refine w_region ?_
  refine rw_t 1 rfl rfl rfl (do_build (out := [_, _, _]) rfl rfl ?_)
  refine rw_t 2 rfl rfl rfl (do_build (out := [_, _, _]) rfl rfl ?_)
  refine rw_t 3 rfl rfl rfl (do_build (out := [_, _, _]) rfl rfl ?_)
  refine rw_t 4 rfl rfl rfl (do_build (out := [_, _, _]) rfl rfl ?_)
  refine rw_t 5 rfl rfl rfl (do_build (out := [_, _, _]) rfl rfl ?_)
  refine rw_t 6 rfl rfl rfl (n_bs (nm := 1) Arc encArc Arc.none [(⟨0, 1, 5⟩ : Arc), (⟨0, 2, 4⟩ : Arc), (⟨1, 3, 3⟩ : Arc), (⟨2, 3, 6⟩ : Arc), (⟨1, 2, 2⟩ : Arc)] rfl rfl rfl rfl rfl (fun _ => rfl) (fun _ _ h => by simp [encArc] at h; rcases h with rfl | rfl | rfl <;> rfl) rfl ?_)
  refine rw_cap 6 rfl ?_
  refine rw_t 7 rfl rfl rfl (do_build (out := [_, _, _, _]) rfl rfl ?_)
  refine rw_u rfl rfl (n_store_whole rfl rfl rfl rfl rfl rfl ?_)
  refine rw_nil ?_
  refine w_ret ?_
  exact ret_eq (.inl rfl) (.cons (res_agg rfl rfl (Nat.le_of_ble_eq_true rfl)) .nil) [1] (rfl) ⟨shR rfl, trivial⟩ rfl (pre_ok rfl)
set_option maxHeartbeats 8000000 in
set_option synthInstance.maxHeartbeats 400000 in
set_option synthInstance.maxSize 2000 in
theorem t_awake  : Tri Try.prog 27 [] [] (fun s H => s = .val (.bool true) ∧ H = []) := by
  refine tri_of_w (fn := Try.f27) Try.func27 rfl (by simp [Try.f27]) ?_
  intro ρ w hρ
  refine w_seq ?_
  refine w_region ?_
  refine rw_t 0 rfl rfl rfl (do_assign rfl ?_)
  refine rw_nil ?_
  refine w_seq ?_
  refine w_region ?_
  refine rw_t 17 rfl rfl rfl (n_callN (X' := .agg [.val (.int .i64 aw0.N), .val (.int .i64 aw0.S), .val (.int .i64 aw0.T), .slc 0 0 aw0.arcs.length none]) (N' := [SO.arcs true aw0.arcs]) rfl rfl (t_Four) [] trivial rfl rfl rfl rfl rfl ?_)
  refine rw_t 18 rfl rfl rfl (n_callN (X' := .tup [.agg [.val (.int .i64 ((makeC aw0).N)), .val (.int .i64 ((makeC aw0).S)), .val (.int .i64 ((makeC aw0).T)), .slc 1 0 ((makeC aw0).First.length) none, .slc 2 0 ((makeC aw0).Head.length) none, .slc 3 0 ((makeC aw0).Rev.length) none, .slc 4 0 ((makeC aw0).Cap.length) none, .slc 5 0 ((makeC aw0).Arc.length) none, .slc 6 0 ((makeC aw0).Back.length) none], .val (.int .i64 0)]) (N' := [SO.ints true .i64 ((makeC aw0).First), SO.ints true .i64 ((makeC aw0).Head), SO.ints true .i64 ((makeC aw0).Rev), SO.ints true .i64 ((makeC aw0).Cap), SO.ints true .i64 ((makeC aw0).Arc), SO.bools true ((makeC aw0).Back)]) rfl rfl (t_Make (n := aw0) (aw0_small.toNetOK) (aw0_small.sz)) [0] ⟨.inr ⟨_, rfl, srv⟩, trivial⟩ rfl rfl rfl rfl rfl ?_)
  refine rw_t 16 rfl rfl rfl (do_move rfl ?_)
  refine rw_t 19 rfl rfl rfl (do_extract rfl rfl ?_)
  refine rw_t 20 rfl rfl rfl (do_extract rfl rfl ?_)
  refine rw_t 1 rfl rfl rfl (n_alloc (n := 7) rfl ?_)
  refine rw_u rfl rfl (n_store_whole rfl rfl rfl rfl rfl rfl ?_)
  refine rw_t 2 rfl rfl rfl (do_assign rfl ?_)
  refine rw_nil ?_
  refine w_seq ?_
  refine w_region ?_
  refine rw_t 21 rfl rfl rfl (n_load_boxagg [_, _, _, _, _, _, _, _, _] rfl rfl (Nat.le_of_ble_eq_true rfl) rfl ?_)
  refine rw_t 22 rfl rfl rfl (n_callN (X' := .agg [.slc 8 0 ((begC (makeC aw0)).Res.length) none, .slc 9 0 ((begC (makeC aw0)).Ex.length) none, .slc 10 0 ((begC (makeC aw0)).H.length) none]) (N' := [SO.ints true .i64 ((begC (makeC aw0)).Res), SO.ints true .i64 ((begC (makeC aw0)).Ex), SO.ints true .i64 ((begC (makeC aw0)).H)]) rfl rfl (t_Begin (c := (makeC aw0)) (aw0_q.toCsrT) ((beg_in_all aw0_q))) [1, 2, 3, 4, 5, 6] ⟨.inr ⟨_, rfl, srv⟩, .inr ⟨_, rfl, srv⟩, .inr ⟨_, rfl, srv⟩, .inr ⟨_, rfl, srv⟩, .inr ⟨_, rfl, srv⟩, .inr ⟨_, rfl, srv⟩, trivial⟩ rfl rfl rfl rfl rfl ?_)
  refine rw_t 3 rfl rfl rfl (n_alloc (n := 11) rfl ?_)
  refine rw_u rfl rfl (n_store_whole rfl rfl rfl rfl rfl rfl ?_)
  refine rw_nil ?_
  refine w_seq ?_
  refine w_region ?_
  refine rw_t 24 rfl rfl rfl (n_load_boxagg [_, _, _, _, _, _, _, _, _] rfl rfl (Nat.le_of_ble_eq_true rfl) rfl ?_)
  refine rw_t 25 rfl rfl rfl (n_load_boxagg [_, _, _] rfl rfl (Nat.le_of_ble_eq_true rfl) rfl ?_)
  refine rw_t 26 rfl rfl rfl (n_callN (X' := .tup [.slc 12 0 ((pushL (makeC aw0) awQ).length) none, .slc 13 0 ((stuckL (makeC aw0) awQ).length) none]) (N' := [SO.ints true .i64 (pushL (makeC aw0) awQ), SO.ints true .i64 (stuckL (makeC aw0) awQ)]) rfl rfl (t_May (c := (makeC aw0)) (p := awQ) (aw0_q.toCsrT) ((refR_in aw0_q.toCsrG awQ_ref))) [1, 2, 3, 4, 5, 6, 8, 9, 10] ⟨.inr ⟨_, rfl, srv⟩, .inr ⟨_, rfl, srv⟩, .inr ⟨_, rfl, srv⟩, .inr ⟨_, rfl, srv⟩, .inr ⟨_, rfl, srv⟩, .inr ⟨_, rfl, srv⟩, .inr ⟨_, rfl, srv⟩, .inr ⟨_, rfl, srv⟩, .inr ⟨_, rfl, srv⟩, trivial⟩ rfl rfl rfl rfl rfl ?_)
  refine rw_t 23 rfl rfl rfl (do_move rfl ?_)
  refine rw_t 27 rfl rfl rfl (do_extract rfl rfl ?_)
  refine rw_t 28 rfl rfl rfl (do_extract rfl rfl ?_)
  refine rw_t 4 rfl rfl rfl (do_assign rfl ?_)
  refine rw_t 5 rfl rfl rfl (do_assign rfl ?_)
  refine rw_nil ?_
  refine w_seq ?_
  refine w_seq ?_
  refine w_region ?_
  refine rw_t 29 rfl rfl rfl (do_move rfl ?_)
  refine rw_t 30 rfl rfl rfl (do_bin rfl rfl rfl ?_)
  refine rw_as (.val (.bool false)) (bool_congr (rfl)) ?_
  refine rw_t 31 rfl rfl rfl (do_move rfl ?_)
  refine rw_gt 32 2 31 false rfl rfl rfl rfl rfl rfl rfl (do_fieldaddr rfl ?_)
  refine rw_gt 33 2 31 false rfl rfl rfl rfl rfl rfl rfl (do_load_box rfl rfl rfl ?_)
  refine rw_gt 34 2 31 false rfl rfl rfl rfl rfl rfl rfl (n_bs (nm := 14) Int (encI .i64) 0 [(-9), 5, 4, 0] rfl rfl rfl rfl rfl (fun _ => rfl) (fun _ _ h => by simp [encI] at h; subst h; rfl) rfl ?_)
  refine rw_cap 34 rfl ?_
  refine rw_gt 35 2 31 false rfl rfl rfl rfl rfl rfl rfl (do_callR (X' := .val (.bool (decide (awQ.Ex = [(-9), 5, 4, 0])))) rfl rfl (t_Longs (a := awQ.Ex) (b := [(-9), 5, 4, 0]) (by rw [aw_lens.1]; decide)) [9, 14] ⟨.inr ⟨_, rfl, srv⟩, .inr ⟨_, rfl, srv⟩, trivial⟩ rfl rfl rfl ?_)
  refine rw_as (.val (.bool true)) (bool_congr (decide_eq_true (by decide +kernel))) ?_
  refine rw_gt 36 2 31 false rfl rfl rfl rfl rfl rfl rfl (do_not rfl ?_)
  refine rw_t 37 rfl rfl rfl (do_pick_f rfl rfl rfl ?_)
  refine rw_t 38 rfl rfl rfl (do_move rfl ?_)
  refine rw_gt 39 9 38 false rfl rfl rfl rfl rfl rfl rfl (do_move rfl ?_)
  refine rw_gt 40 9 38 false rfl rfl rfl rfl rfl rfl rfl (do_len rfl ?_)
  refine rw_gt 41 9 38 false rfl rfl rfl rfl rfl rfl rfl (do_bin rfl rfl rfl ?_)
  refine rw_as (.val (.bool false)) (bool_congr (by decide +kernel)) ?_
  refine rw_t 42 rfl rfl rfl (do_pick_f rfl rfl rfl ?_)
  refine rw_t 43 rfl rfl rfl (do_move rfl ?_)
  refine rw_gt 44 14 43 false rfl rfl rfl rfl rfl rfl rfl (do_move rfl ?_)
  refine rw_gt 45 14 43 false rfl rfl rfl rfl rfl rfl rfl (n_bs (nm := 15) Int (encI .i64) 0 [1, 2] rfl rfl rfl rfl rfl (fun _ => rfl) (fun _ _ h => by simp [encI] at h; subst h; rfl) rfl ?_)
  refine rw_cap 45 rfl ?_
  refine rw_gt 46 14 43 false rfl rfl rfl rfl rfl rfl rfl (do_callR (X' := .val (.bool (decide ((stuckL (makeC aw0) awQ) = [1, 2])))) rfl rfl (t_Ints (a := (stuckL (makeC aw0) awQ)) (b := [1, 2]) (by rw [aw_lens.2.1]; decide)) [13, 15] ⟨.inr ⟨_, rfl, srv⟩, .inr ⟨_, rfl, srv⟩, trivial⟩ rfl rfl rfl ?_)
  refine rw_as (.val (.bool true)) (bool_congr (decide_eq_true (by decide +kernel))) ?_
  refine rw_gt 47 14 43 false rfl rfl rfl rfl rfl rfl rfl (do_not rfl ?_)
  refine rw_t 48 rfl rfl rfl (do_pick_f rfl rfl rfl ?_)
  refine rw_t 49 rfl rfl rfl (do_move rfl ?_)
  refine rw_gt 50 20 49 false rfl rfl rfl rfl rfl rfl rfl (n_load_boxagg [_, _, _, _, _, _, _, _, _] rfl rfl (Nat.le_of_ble_eq_true rfl) rfl ?_)
  refine rw_gt 51 20 49 false rfl rfl rfl rfl rfl rfl rfl (n_load_boxagg [_, _, _] rfl rfl (Nat.le_of_ble_eq_true rfl) rfl ?_)
  refine rw_gt 52 20 49 false rfl rfl rfl rfl rfl rfl rfl (n_callN (X' := .slc 16 0 ((activeL (makeC aw0) awQ).length) none) (N' := [SO.ints true .i64 (activeL (makeC aw0) awQ)]) rfl rfl (t_Active (c := (makeC aw0)) (p := awQ) (aw0_q.toCsrT) ((refR_in aw0_q.toCsrG awQ_ref))) [1, 2, 3, 4, 5, 6, 8, 9, 10] ⟨.inr ⟨_, rfl, srv⟩, .inr ⟨_, rfl, srv⟩, .inr ⟨_, rfl, srv⟩, .inr ⟨_, rfl, srv⟩, .inr ⟨_, rfl, srv⟩, .inr ⟨_, rfl, srv⟩, .inr ⟨_, rfl, srv⟩, .inr ⟨_, rfl, srv⟩, .inr ⟨_, rfl, srv⟩, trivial⟩ rfl rfl rfl rfl rfl ?_)
  refine rw_gt 53 20 49 false rfl rfl rfl rfl rfl rfl rfl (do_move rfl ?_)
  refine rw_gt 54 20 49 false rfl rfl rfl rfl rfl rfl rfl (do_callR (X' := .val (.bool (decide ((activeL (makeC aw0) awQ) = (stuckL (makeC aw0) awQ))))) rfl rfl (t_Ints (a := (activeL (makeC aw0) awQ)) (b := (stuckL (makeC aw0) awQ)) (by rw [aw_lens.2.2.1]; decide)) [16, 13] ⟨.inr ⟨_, rfl, srv⟩, .inr ⟨_, rfl, srv⟩, trivial⟩ rfl rfl rfl ?_)
  refine rw_as (.val (.bool true)) (bool_congr (decide_eq_true (by decide +kernel))) ?_
  refine rw_gt 55 20 49 false rfl rfl rfl rfl rfl rfl rfl (do_not rfl ?_)
  refine rw_t 56 rfl rfl rfl (do_pick_f rfl rfl rfl ?_)
  refine rw_t 57 rfl rfl rfl (do_move rfl ?_)
  refine rw_gt 58 28 57 false rfl rfl rfl rfl rfl rfl rfl (n_load_boxagg [_, _, _, _, _, _, _, _, _] rfl rfl (Nat.le_of_ble_eq_true rfl) rfl ?_)
  refine rw_gt 59 28 57 false rfl rfl rfl rfl rfl rfl rfl (n_load_boxagg [_, _, _] rfl rfl (Nat.le_of_ble_eq_true rfl) rfl ?_)
  refine rw_gt 60 28 57 false rfl rfl rfl rfl rfl rfl rfl (do_callR (X' := .val (.bool (decide (preR (makeC aw0) awQ)))) rfl rfl (t_Right (c := (makeC aw0)) (p := awQ) (aw0_q.toCsrT) (aw0_q.one) (aw0_q.arcin)) [1, 2, 3, 4, 5, 6, 8, 9, 10] ⟨.inr ⟨_, rfl, srv⟩, .inr ⟨_, rfl, srv⟩, .inr ⟨_, rfl, srv⟩, .inr ⟨_, rfl, srv⟩, .inr ⟨_, rfl, srv⟩, .inr ⟨_, rfl, srv⟩, .inr ⟨_, rfl, srv⟩, .inr ⟨_, rfl, srv⟩, .inr ⟨_, rfl, srv⟩, trivial⟩ rfl rfl rfl ?_)
  refine rw_as (.val (.bool true)) (bool_congr (decide_eq_true ((preR_iff aw0_q.toCsrP _).2 awQ_ref))) ?_
  refine rw_gt 61 28 57 false rfl rfl rfl rfl rfl rfl rfl (do_not rfl ?_)
  refine rw_t 62 rfl rfl rfl (do_pick_f rfl rfl rfl ?_)
  refine rw_nil ?_
  refine w_cond rfl (fun hc1 => ?_) (fun hc1 => ?_)
  · exfalso; first | (cases hc1; done) | exact (hc1 trivial) | (try simp only [bs] at hc1; first | omega | (simp_all; done) | (simp_all; omega))
  refine w_skip ?_
  refine w_seq ?_
  refine w_region ?_
  refine rw_t 64 rfl rfl rfl (n_load_boxagg [_, _, _, _, _, _, _, _, _] rfl rfl (Nat.le_of_ble_eq_true rfl) rfl ?_)
  refine rw_t 65 rfl rfl rfl (n_load_boxagg [_, _, _] rfl rfl (Nat.le_of_ble_eq_true rfl) rfl ?_)
  refine rw_t 66 rfl rfl rfl (n_callN (X' := .tup [.agg [.slc 17 0 ((liftR (makeC aw0) awQ 1).1.Res.length) none, .slc 18 0 ((liftR (makeC aw0) awQ 1).1.Ex.length) none, .slc 19 0 ((liftR (makeC aw0) awQ 1).1.H.length) none], .val (.int .i64 ((liftR (makeC aw0) awQ 1).2))]) (N' := [SO.ints true .i64 ((liftR (makeC aw0) awQ 1).1.Res), SO.ints true .i64 ((liftR (makeC aw0) awQ 1).1.Ex), SO.ints true .i64 ((liftR (makeC aw0) awQ 1).1.H)]) rfl rfl (t_Lift (c := (makeC aw0)) (p := awQ) (u := 1) (aw0_q.toCsrT) ((refR_in aw0_q.toCsrG awQ_ref))) [1, 2, 3, 4, 5, 6, 8, 9, 10] ⟨.inr ⟨_, rfl, srv⟩, .inr ⟨_, rfl, srv⟩, .inr ⟨_, rfl, srv⟩, .inr ⟨_, rfl, srv⟩, .inr ⟨_, rfl, srv⟩, .inr ⟨_, rfl, srv⟩, .inr ⟨_, rfl, srv⟩, .inr ⟨_, rfl, srv⟩, .inr ⟨_, rfl, srv⟩, trivial⟩ rfl rfl rfl rfl rfl ?_)
  refine rw_t 63 rfl rfl rfl (do_move rfl ?_)
  refine rw_t 67 rfl rfl rfl (do_extract rfl rfl ?_)
  refine rw_t 68 rfl rfl rfl (do_extract rfl rfl ?_)
  refine rw_t 6 rfl rfl rfl (n_alloc (n := 20) rfl ?_)
  refine rw_u rfl rfl (n_store_whole rfl rfl rfl rfl rfl rfl ?_)
  refine rw_t 7 rfl rfl rfl (do_assign rfl ?_)
  refine rw_nil ?_
  refine w_seq ?_
  refine w_region ?_
  refine rw_t 70 rfl rfl rfl (n_load_boxagg [_, _, _, _, _, _, _, _, _] rfl rfl (Nat.le_of_ble_eq_true rfl) rfl ?_)
  refine rw_t 71 rfl rfl rfl (n_load_boxagg [_, _, _] rfl rfl (Nat.le_of_ble_eq_true rfl) rfl ?_)
  refine rw_t 72 rfl rfl rfl (n_callN (X' := .tup [.slc 21 0 ((pushL (makeC aw0) awR).length) none, .slc 22 0 ((stuckL (makeC aw0) awR).length) none]) (N' := [SO.ints true .i64 (pushL (makeC aw0) awR), SO.ints true .i64 (stuckL (makeC aw0) awR)]) rfl rfl (t_May (c := (makeC aw0)) (p := awR) (aw0_q.toCsrT) ((refR_in aw0_q.toCsrG awR_ref))) [1, 2, 3, 4, 5, 6, 17, 18, 19] ⟨.inr ⟨_, rfl, srv⟩, .inr ⟨_, rfl, srv⟩, .inr ⟨_, rfl, srv⟩, .inr ⟨_, rfl, srv⟩, .inr ⟨_, rfl, srv⟩, .inr ⟨_, rfl, srv⟩, .inr ⟨_, rfl, srv⟩, .inr ⟨_, rfl, srv⟩, .inr ⟨_, rfl, srv⟩, trivial⟩ rfl rfl rfl rfl rfl ?_)
  refine rw_t 69 rfl rfl rfl (do_move rfl ?_)
  refine rw_t 73 rfl rfl rfl (do_extract rfl rfl ?_)
  refine rw_t 74 rfl rfl rfl (do_extract rfl rfl ?_)
  refine rw_t 8 rfl rfl rfl (do_assign rfl ?_)
  refine rw_t 9 rfl rfl rfl (do_assign rfl ?_)
  refine rw_nil ?_
  refine w_seq ?_
  refine w_seq ?_
  have hal8 : (liftR (makeC aw0) awQ 1).1.H.length = 4 := aw_lens.2.2.2.2
  refine w_region ?_
  refine rw_t 75 rfl rfl rfl (do_move rfl ?_)
  refine rw_t 76 rfl rfl rfl (do_bin rfl rfl rfl ?_)
  refine rw_as (.val (.bool false)) (bool_congr (by decide +kernel)) ?_
  refine rw_t 77 rfl rfl rfl (do_move rfl ?_)
  refine rw_gt 78 2 77 false rfl rfl rfl rfl rfl rfl rfl (do_fieldaddr rfl ?_)
  refine rw_gt 79 2 77 false rfl rfl rfl rfl rfl rfl rfl (do_load_box rfl rfl rfl ?_)
  refine rw_gt 80 2 77 false rfl rfl rfl rfl rfl rfl rfl (do_ix0 rfl rfl rfl (by first | omega | (simp only [ls] <;> omega)) ?_)
  refine rw_gt 81 2 77 false rfl rfl rfl rfl rfl rfl rfl (do_load_arr rfl rfl (by first | omega | (simp only [ls] <;> omega)) rfl ?_)
  refine rw_gt 82 2 77 false rfl rfl rfl rfl rfl rfl rfl (do_bin rfl rfl rfl ?_)
  refine rw_as (.val (.bool false)) (bool_congr (by decide +kernel)) ?_
  refine rw_t 83 rfl rfl rfl (do_pick_f rfl rfl rfl ?_)
  refine rw_t 84 rfl rfl rfl (do_move rfl ?_)
  refine rw_gt 85 9 84 false rfl rfl rfl rfl rfl rfl rfl (do_move rfl ?_)
  refine rw_gt 86 9 84 false rfl rfl rfl rfl rfl rfl rfl (n_bs (nm := 23) Int (encI .i64) 0 [3, 4] rfl rfl rfl rfl rfl (fun _ => rfl) (fun _ _ h => by simp [encI] at h; subst h; rfl) rfl ?_)
  refine rw_cap 86 rfl ?_
  refine rw_gt 87 9 84 false rfl rfl rfl rfl rfl rfl rfl (do_callR (X' := .val (.bool (decide ((pushL (makeC aw0) awR) = [3, 4])))) rfl rfl (t_Ints (a := (pushL (makeC aw0) awR)) (b := [3, 4]) (by rw [aw_lens.2.2.2.1]; decide)) [21, 23] ⟨.inr ⟨_, rfl, srv⟩, .inr ⟨_, rfl, srv⟩, trivial⟩ rfl rfl rfl ?_)
  refine rw_as (.val (.bool true)) (bool_congr (decide_eq_true (by decide +kernel))) ?_
  refine rw_gt 88 9 84 false rfl rfl rfl rfl rfl rfl rfl (do_not rfl ?_)
  refine rw_t 89 rfl rfl rfl (do_pick_f rfl rfl rfl ?_)
  refine rw_nil ?_
  refine w_cond rfl (fun hc2 => ?_) (fun hc2 => ?_)
  · exfalso; first | (cases hc2; done) | exact (hc2 trivial) | (try simp only [bs] at hc2; first | omega | (simp_all; done) | (simp_all; omega))
  refine w_skip ?_
  refine w_seq ?_
  refine w_region ?_
  refine rw_t 91 rfl rfl rfl (n_load_boxagg [_, _, _, _, _, _, _, _, _] rfl rfl (Nat.le_of_ble_eq_true rfl) rfl ?_)
  refine rw_t 92 rfl rfl rfl (n_load_boxagg [_, _, _] rfl rfl (Nat.le_of_ble_eq_true rfl) rfl ?_)
  refine rw_t 93 rfl rfl rfl (n_callN (X' := .tup [.agg [.slc 24 0 ((pushR (makeC aw0) awR 3).1.Res.length) none, .slc 25 0 ((pushR (makeC aw0) awR 3).1.Ex.length) none, .slc 26 0 ((pushR (makeC aw0) awR 3).1.H.length) none], .val (.int .i64 ((pushR (makeC aw0) awR 3).2.1)), .val (.int .i64 ((pushR (makeC aw0) awR 3).2.2))]) (N' := [SO.ints true .i64 ((pushR (makeC aw0) awR 3).1.Res), SO.ints true .i64 ((pushR (makeC aw0) awR 3).1.Ex), SO.ints true .i64 ((pushR (makeC aw0) awR 3).1.H)]) rfl rfl (t_Push (c := (makeC aw0)) (p := awR) (a := 3) (aw0_q.toCsrT) ((refR_in aw0_q.toCsrG awR_ref)) ((refR_push aw0_q.toCsrG awR_ref))) [1, 2, 3, 4, 5, 6, 17, 18, 19] ⟨.inr ⟨_, rfl, srv⟩, .inr ⟨_, rfl, srv⟩, .inr ⟨_, rfl, srv⟩, .inr ⟨_, rfl, srv⟩, .inr ⟨_, rfl, srv⟩, .inr ⟨_, rfl, srv⟩, .inr ⟨_, rfl, srv⟩, .inr ⟨_, rfl, srv⟩, .inr ⟨_, rfl, srv⟩, trivial⟩ rfl rfl rfl rfl rfl ?_)
  refine rw_t 90 rfl rfl rfl (do_move rfl ?_)
  refine rw_t 94 rfl rfl rfl (do_extract rfl rfl ?_)
  refine rw_t 95 rfl rfl rfl (do_extract rfl rfl ?_)
  refine rw_t 96 rfl rfl rfl (do_extract rfl rfl ?_)
  refine rw_t 10 rfl rfl rfl (n_alloc (n := 27) rfl ?_)
  refine rw_u rfl rfl (n_store_whole rfl rfl rfl rfl rfl rfl ?_)
  refine rw_t 11 rfl rfl rfl (do_assign rfl ?_)
  refine rw_t 12 rfl rfl rfl (do_assign rfl ?_)
  refine rw_nil ?_
  refine w_seq ?_
  refine w_region ?_
  refine rw_t 98 rfl rfl rfl (n_load_boxagg [_, _, _, _, _, _, _, _, _] rfl rfl (Nat.le_of_ble_eq_true rfl) rfl ?_)
  refine rw_t 99 rfl rfl rfl (n_load_boxagg [_, _, _] rfl rfl (Nat.le_of_ble_eq_true rfl) rfl ?_)
  refine rw_t 100 rfl rfl rfl (n_callN (X' := .tup [.agg [.slc 28 0 ((pushR (makeC aw0) awS 4).1.Res.length) none, .slc 29 0 ((pushR (makeC aw0) awS 4).1.Ex.length) none, .slc 30 0 ((pushR (makeC aw0) awS 4).1.H.length) none], .val (.int .i64 ((pushR (makeC aw0) awS 4).2.1)), .val (.int .i64 ((pushR (makeC aw0) awS 4).2.2))]) (N' := [SO.ints true .i64 ((pushR (makeC aw0) awS 4).1.Res), SO.ints true .i64 ((pushR (makeC aw0) awS 4).1.Ex), SO.ints true .i64 ((pushR (makeC aw0) awS 4).1.H)]) rfl rfl (t_Push (c := (makeC aw0)) (p := awS) (a := 4) (aw0_q.toCsrT) ((refR_in aw0_q.toCsrG awS_ref)) ((refR_push aw0_q.toCsrG awS_ref))) [1, 2, 3, 4, 5, 6, 24, 25, 26] ⟨.inr ⟨_, rfl, srv⟩, .inr ⟨_, rfl, srv⟩, .inr ⟨_, rfl, srv⟩, .inr ⟨_, rfl, srv⟩, .inr ⟨_, rfl, srv⟩, .inr ⟨_, rfl, srv⟩, .inr ⟨_, rfl, srv⟩, .inr ⟨_, rfl, srv⟩, .inr ⟨_, rfl, srv⟩, trivial⟩ rfl rfl rfl rfl rfl ?_)
  refine rw_t 97 rfl rfl rfl (do_move rfl ?_)
  refine rw_t 101 rfl rfl rfl (do_extract rfl rfl ?_)
  refine rw_t 102 rfl rfl rfl (do_extract rfl rfl ?_)
  refine rw_t 103 rfl rfl rfl (do_extract rfl rfl ?_)
  refine rw_t 13 rfl rfl rfl (n_alloc (n := 31) rfl ?_)
  refine rw_u rfl rfl (n_store_whole rfl rfl rfl rfl rfl rfl ?_)
  refine rw_t 14 rfl rfl rfl (do_assign rfl ?_)
  refine rw_t 15 rfl rfl rfl (do_assign rfl ?_)
  refine rw_nil ?_
  refine w_seq ?_
  refine w_region ?_
  refine rw_t 104 rfl rfl rfl (do_move rfl ?_)
  refine rw_t 105 rfl rfl rfl (do_bin rfl rfl rfl ?_)
  refine rw_as (.val (.bool true)) (bool_congr (by decide +kernel)) ?_
  refine rw_t 106 rfl rfl rfl (do_move rfl ?_)
  refine rw_gt 107 2 106 true rfl rfl rfl rfl rfl rfl rfl (do_move rfl ?_)
  refine rw_gt 108 2 106 true rfl rfl rfl rfl rfl rfl rfl (do_bin rfl rfl rfl ?_)
  refine rw_as (.val (.bool true)) (bool_congr (by decide +kernel)) ?_
  refine rw_t 109 rfl rfl rfl (do_pick_t rfl rfl rfl ?_)
  refine rw_t 110 rfl rfl rfl (do_move rfl ?_)
  refine rw_gt 111 6 110 true rfl rfl rfl rfl rfl rfl rfl (do_move rfl ?_)
  refine rw_gt 112 6 110 true rfl rfl rfl rfl rfl rfl rfl (do_bin rfl rfl rfl ?_)
  refine rw_as (.val (.bool true)) (bool_congr (by decide +kernel)) ?_
  refine rw_t 113 rfl rfl rfl (do_pick_t rfl rfl rfl ?_)
  refine rw_t 114 rfl rfl rfl (do_move rfl ?_)
  refine rw_gt 115 10 114 true rfl rfl rfl rfl rfl rfl rfl (do_move rfl ?_)
  refine rw_gt 116 10 114 true rfl rfl rfl rfl rfl rfl rfl (do_bin rfl rfl rfl ?_)
  refine rw_as (.val (.bool true)) (bool_congr (by decide +kernel)) ?_
  refine rw_t 117 rfl rfl rfl (do_pick_t rfl rfl rfl ?_)
  refine rw_t 0 rfl rfl rfl (do_assign rfl ?_)
  refine rw_nil ?_
  refine w_ret ?_
  exact ret_eq (.inl rfl) (.cons (res_tmp rfl) .nil) [] (rfl) trivial rfl (pre_ok rfl)
end Go.Proofs

set_option linter.unusedVariables false
set_option linter.unusedSimpArgs false
namespace Go.Proofs
open Go Go.Sx Go.RowKit
instance : TyAgg Try.prog 114 12 := ⟨.inr ⟨6, 113, u114⟩, ⟨_, i114, rfl⟩⟩
instance : TyBuildA Try.prog 114 [(0, 2), (2, 2), (4, 2), (6, 2), (8, 2), (10, 2)] [Value.nilFunc, (Value.int IntKind.i64 0), Value.nilFunc, (Value.int IntKind.i64 0), Value.nilFunc, (Value.int IntKind.i64 0), Value.nilFunc, (Value.int IntKind.i64 0), Value.nilFunc, (Value.int IntKind.i64 0), Value.nilFunc, (Value.int IntKind.i64 0)] :=
  ⟨fun w => ⟨6, 113, 2, u114, run_zero i114 rfl, run_size i113, fun i x h => by
    match i, h with
    | 0, h => simp at h; exact h.symm
    | 1, h => simp at h; exact h.symm
    | 2, h => simp at h; exact h.symm
    | 3, h => simp at h; exact h.symm
    | 4, h => simp at h; exact h.symm
    | 5, h => simp at h; exact h.symm
    | k + 6, h => simp at h⟩⟩
instance : TyIdxA Try.prog 114 6 113 2 := ⟨u114, .inl ⟨_, u113⟩, _, i113, rfl⟩
theorem take_capSum {l : List Arc} {i : Nat} (h : i < l.length) : capSum (l.take (i + 1)) = capSum (l.take i) + (l.getD i Arc.none).cap := by
  rw [take_snoc Arc.none h, capSum_append]; simp [capSum]
set_option maxHeartbeats 8000000 in
set_option synthInstance.maxHeartbeats 400000 in
set_option synthInstance.maxSize 2000 in
theorem t_pvertex (n : Net) (v : Int) (h : 0 ≤ v ∧ v < n.N) : Tri Try.prog 94 [.agg [.val (.int .i64 n.N), .val (.int .i64 n.S), .val (.int .i64 n.T), .slc 0 0 n.arcs.length none], .val (.int .i64 v)] [SO.arcs false n.arcs] (fun s H => s = .val (.bool true) ∧ H = [SO.arcs false n.arcs]) := by
  refine tri_of_w (fn := Try.f94) Try.func94 rfl (by simp [Try.f94]) ?_
  intro ρ w hρ
  refine w_seq ?_
  refine w_region ?_
  refine rw_t 2 rfl rfl rfl (n_box_agg (n := 1) rfl rfl ?_)
  refine rw_t 4 rfl rfl rfl (do_assign rfl ?_)
  refine rw_nil ?_
  refine w_env [(1, .val (.int .i64 v)), (2, .ptr 1 0 0)] ⟨⟨_, rfl, rfl⟩, ⟨_, rfl, rfl⟩, trivial⟩ ?_
  refine w_seqB 4 ((v ≥ 0 ∧ v < n.N)) ?_ ?_
  · -- region 1
    refine w_region ?_
    refine rw_t 5 rfl rfl rfl (do_move rfl ?_)
    refine rw_t 6 rfl rfl rfl (do_bin rfl rfl rfl ?_)
    refine rw_t 7 rfl rfl rfl (do_move rfl ?_)
    refine rw_case 7 rfl (fun g1 => ?_) (fun g1 => ?_)
    · have kg1 := g1
      try simp only [bs] at kg1
      refine rw_gt 8 2 7 true rfl rfl rfl rfl rfl rfl g1 (do_move rfl ?_)
      refine rw_gt 9 2 7 true rfl rfl rfl rfl rfl rfl g1 (do_fieldaddr rfl ?_)
      refine rw_gt 10 2 7 true rfl rfl rfl rfl rfl rfl g1 (do_load_box rfl rfl rfl ?_)
      refine rw_gt 11 2 7 true rfl rfl rfl rfl rfl rfl g1 (do_bin rfl rfl rfl ?_)
      refine rw_t 12 rfl rfl rfl (do_pick_t rfl g1 rfl ?_)
      refine rw_t 4 rfl rfl rfl (do_assign rfl ?_)
      refine rw_nil ?_
      refine ⟨rfl, ⟨_, rfl, by first | (simp; done) | (simp only [bs]; omega) | (simp [*]; done) | (simp; omega) | (constructor <;> intro h <;> simp_all <;> omega)⟩, ?_⟩
      repeat (refine ⟨⟨_, rfl, rfl⟩, ?_⟩)
      exact trivial
    · have kg1 := g1
      try simp only [bs] at kg1
      refine rw_gf 8 2 7 true rfl rfl rfl rfl rfl rfl (by rw [g1]; decide) ?_
      refine rw_gf 9 2 7 true rfl rfl rfl rfl rfl rfl (by rw [g1]; decide) ?_
      refine rw_gf 10 2 7 true rfl rfl rfl rfl rfl rfl (by rw [g1]; decide) ?_
      refine rw_gf 11 2 7 true rfl rfl rfl rfl rfl rfl (by rw [g1]; decide) ?_
      refine rw_t 12 rfl rfl rfl (do_pick_f rfl g1 rfl ?_)
      refine rw_t 4 rfl rfl rfl (do_assign rfl ?_)
      refine rw_nil ?_
      refine ⟨rfl, ⟨_, rfl, by first | (simp; done) | (simp only [bs]; omega) | (simp [*]; done) | (simp; omega) | (constructor <;> intro h <;> simp_all <;> omega)⟩, ?_⟩
      repeat (refine ⟨⟨_, rfl, rfl⟩, ?_⟩)
      exact trivial
  intro b1 hb1
  refine w_ret ?_
  exact ret_eq (.inl rfl) (.cons (res_tmp rfl) .nil) [0] (Eq.symm (bool_congr ((hb1.2 (by omega)).symm))) ⟨shR rfl, trivial⟩ rfl (pre_ok rfl)
set_option maxHeartbeats 8000000 in
set_option synthInstance.maxHeartbeats 400000 in
set_option synthInstance.maxSize 2000 in
theorem t_rule1 (n : Net) (h : NetOK n) : Tri Try.prog 91 [.agg [.val (.int .i64 n.N), .val (.int .i64 n.S), .val (.int .i64 n.T), .slc 0 0 n.arcs.length none]] [SO.arcs false n.arcs] (fun s H => s = .val (.bool true) ∧ H = [SO.arcs false n.arcs]) := by
  refine tri_of_w (fn := Try.f91) Try.func91 rfl (by simp [Try.f91]) ?_
  intro ρ w hρ
  refine w_seq ?_
  have h1 := h.lo
  have h2 := h.hi
  refine w_region ?_
  refine rw_t 1 rfl rfl rfl (n_box_agg (n := 1) rfl rfl ?_)
  refine rw_t 2 rfl rfl rfl (do_assign rfl ?_)
  refine rw_nil ?_
  refine w_env [(1, .ptr 1 0 0)] ⟨⟨_, rfl, rfl⟩, trivial⟩ ?_
  refine w_seqB 2 ((n.N ≥ 2 ∧ n.N ≤ 4096)) ?_ ?_
  · -- region 1
    refine w_region ?_
    refine rw_t 3 rfl rfl rfl (do_fieldaddr rfl ?_)
    refine rw_t 4 rfl rfl rfl (do_load_box rfl rfl rfl ?_)
    refine rw_t 5 rfl rfl rfl (do_bin rfl rfl rfl ?_)
    refine rw_t 6 rfl rfl rfl (do_move rfl ?_)
    refine rw_case 6 rfl (fun g1 => ?_) (fun g1 => ?_)
    · have kg1 := g1
      try simp only [bs] at kg1
      refine rw_gt 7 3 6 true rfl rfl rfl rfl rfl rfl g1 (do_fieldaddr rfl ?_)
      refine rw_gt 8 3 6 true rfl rfl rfl rfl rfl rfl g1 (do_load_box rfl rfl rfl ?_)
      refine rw_gt 9 3 6 true rfl rfl rfl rfl rfl rfl g1 (do_bin rfl rfl rfl ?_)
      refine rw_t 10 rfl rfl rfl (do_pick_t rfl g1 rfl ?_)
      refine rw_t 2 rfl rfl rfl (do_assign rfl ?_)
      refine rw_nil ?_
      refine ⟨rfl, ⟨_, rfl, by first | (simp; done) | (simp only [bs]; omega) | (simp [*]; done) | (simp; omega) | (constructor <;> intro h <;> simp_all <;> omega)⟩, ?_⟩
      repeat (refine ⟨⟨_, rfl, rfl⟩, ?_⟩)
      exact trivial
    · have kg1 := g1
      try simp only [bs] at kg1
      refine rw_gf 7 3 6 true rfl rfl rfl rfl rfl rfl (by rw [g1]; decide) ?_
      refine rw_gf 8 3 6 true rfl rfl rfl rfl rfl rfl (by rw [g1]; decide) ?_
      refine rw_gf 9 3 6 true rfl rfl rfl rfl rfl rfl (by rw [g1]; decide) ?_
      refine rw_t 10 rfl rfl rfl (do_pick_f rfl g1 rfl ?_)
      refine rw_t 2 rfl rfl rfl (do_assign rfl ?_)
      refine rw_nil ?_
      refine ⟨rfl, ⟨_, rfl, by first | (simp; done) | (simp only [bs]; omega) | (simp [*]; done) | (simp; omega) | (constructor <;> intro h <;> simp_all <;> omega)⟩, ?_⟩
      repeat (refine ⟨⟨_, rfl, rfl⟩, ?_⟩)
      exact trivial
  intro b1 hb1
  refine w_ret ?_
  exact ret_eq (.inl rfl) (.cons (res_tmp rfl) .nil) [0] (Eq.symm (bool_congr ((hb1.2 (by omega)).symm))) ⟨shR rfl, trivial⟩ rfl (pre_ok rfl)
set_option maxHeartbeats 8000000 in
set_option synthInstance.maxHeartbeats 400000 in
set_option synthInstance.maxSize 2000 in
theorem t_rule2 (n : Net) (h : NetOK n) : Tri Try.prog 92 [.agg [.val (.int .i64 n.N), .val (.int .i64 n.S), .val (.int .i64 n.T), .slc 0 0 n.arcs.length none]] [SO.arcs false n.arcs] (fun s H => s = .val (.bool true) ∧ H = [SO.arcs false n.arcs]) := by
  refine tri_of_w (fn := Try.f92) Try.func92 rfl (by simp [Try.f92]) ?_
  intro ρ w hρ
  refine w_seq ?_
  have h1 := h.many
  refine w_region ?_
  refine rw_t 1 rfl rfl rfl (n_box_agg (n := 1) rfl rfl ?_)
  refine rw_t 2 rfl rfl rfl (do_assign rfl ?_)
  refine rw_nil ?_
  refine w_seq ?_
  refine w_region ?_
  refine rw_t 3 rfl rfl rfl (do_fieldaddr rfl ?_)
  refine rw_t 4 rfl rfl rfl (do_load_box rfl rfl rfl ?_)
  refine rw_t 5 rfl rfl rfl (do_len rfl ?_)
  refine rw_t 6 rfl rfl rfl (do_bin rfl rfl rfl ?_)
  refine rw_t 2 rfl rfl rfl (do_assign rfl ?_)
  refine rw_nil ?_
  refine w_ret ?_
  exact ret_eq (.inl rfl) (.cons (res_tmp rfl) .nil) [0] (Eq.symm (bool_congr ((decide_eq_true (by omega)).symm))) ⟨shR rfl, trivial⟩ rfl (pre_ok rfl)
set_option maxHeartbeats 8000000 in
set_option synthInstance.maxHeartbeats 400000 in
set_option synthInstance.maxSize 2000 in
theorem t_rule3 (n : Net) (h : NetOK n) : Tri Try.prog 93 [.agg [.val (.int .i64 n.N), .val (.int .i64 n.S), .val (.int .i64 n.T), .slc 0 0 n.arcs.length none]] [SO.arcs false n.arcs] (fun s H => s = .val (.bool true) ∧ H = [SO.arcs false n.arcs]) := by
  refine tri_of_w (fn := Try.f93) Try.func93 rfl (by simp [Try.f93]) ?_
  intro ρ w hρ
  refine w_seq ?_
  have h1 := h.s
  have h2 := h.t
  have h3 := h.st
  refine w_region ?_
  refine rw_t 1 rfl rfl rfl (n_box_agg (n := 1) rfl rfl ?_)
  refine rw_t 2 rfl rfl rfl (do_assign rfl ?_)
  refine rw_nil ?_
  refine w_seq ?_
  refine w_region ?_
  refine rw_t 3 rfl rfl rfl (n_load_boxagg [_, _, _, _] rfl rfl (Nat.le_of_ble_eq_true rfl) rfl ?_)
  refine rw_t 4 rfl rfl rfl (do_fieldaddr rfl ?_)
  refine rw_t 5 rfl rfl rfl (do_load_box rfl rfl rfl ?_)
  refine rw_t 6 rfl rfl rfl (do_callR (X' := .val (.bool true)) rfl rfl (t_pvertex (n := n) (v := n.S) (by omega)) [0] ⟨.inr ⟨_, rfl, srv⟩, trivial⟩ rfl rfl rfl ?_)
  refine rw_t 7 rfl rfl rfl (do_move rfl ?_)
  refine rw_gt 8 4 7 true rfl rfl rfl rfl rfl rfl rfl (n_load_boxagg [_, _, _, _] rfl rfl (Nat.le_of_ble_eq_true rfl) rfl ?_)
  refine rw_gt 9 4 7 true rfl rfl rfl rfl rfl rfl rfl (do_fieldaddr rfl ?_)
  refine rw_gt 10 4 7 true rfl rfl rfl rfl rfl rfl rfl (do_load_box rfl rfl rfl ?_)
  refine rw_gt 11 4 7 true rfl rfl rfl rfl rfl rfl rfl (do_callR (X' := .val (.bool true)) rfl rfl (t_pvertex (n := n) (v := n.T) (by omega)) [0] ⟨.inr ⟨_, rfl, srv⟩, trivial⟩ rfl rfl rfl ?_)
  refine rw_t 12 rfl rfl rfl (do_pick_t rfl rfl rfl ?_)
  refine rw_t 13 rfl rfl rfl (do_move rfl ?_)
  refine rw_gt 14 10 13 true rfl rfl rfl rfl rfl rfl rfl (do_fieldaddr rfl ?_)
  refine rw_gt 15 10 13 true rfl rfl rfl rfl rfl rfl rfl (do_load_box rfl rfl rfl ?_)
  refine rw_gt 16 10 13 true rfl rfl rfl rfl rfl rfl rfl (do_fieldaddr rfl ?_)
  refine rw_gt 17 10 13 true rfl rfl rfl rfl rfl rfl rfl (do_load_box rfl rfl rfl ?_)
  refine rw_gt 18 10 13 true rfl rfl rfl rfl rfl rfl rfl (do_bin rfl rfl rfl ?_)
  refine rw_t 19 rfl rfl rfl (do_pick_t rfl rfl rfl ?_)
  refine rw_t 2 rfl rfl rfl (do_assign rfl ?_)
  refine rw_nil ?_
  refine w_ret ?_
  exact ret_eq (.inl rfl) (.cons (res_tmp rfl) .nil) [0] (Eq.symm (bool_congr ((by simpa using h3)))) ⟨shR rfl, trivial⟩ rfl (pre_ok rfl)
set_option maxHeartbeats 8000000 in
set_option synthInstance.maxHeartbeats 400000 in
set_option synthInstance.maxSize 2000 in
theorem t_rule4 (n : Net) (h : NetOK n) (a : Arc) (ha : a ∈ n.arcs) : Tri Try.prog 96 [.agg [.val (.int .i64 n.N), .val (.int .i64 n.S), .val (.int .i64 n.T), .slc 0 0 n.arcs.length none], .agg [.val (.int .i64 a.frm), .val (.int .i64 a.to), .val (.int .i64 a.cap)]] [SO.arcs false n.arcs] (fun s H => s = .val (.bool true) ∧ H = [SO.arcs false n.arcs]) := by
  refine tri_of_w (fn := Try.f96) Try.func96 rfl (by simp [Try.f96]) ?_
  intro ρ w hρ
  refine w_seq ?_
  have he := h.ends a ha
  refine w_region ?_
  refine rw_t 2 rfl rfl rfl (n_box_agg (n := 1) rfl rfl ?_)
  refine rw_t 3 rfl rfl rfl (n_box_agg (n := 2) rfl rfl ?_)
  refine rw_t 4 rfl rfl rfl (do_assign rfl ?_)
  refine rw_nil ?_
  refine w_seq ?_
  refine w_region ?_
  refine rw_t 5 rfl rfl rfl (n_load_boxagg [_, _, _, _] rfl rfl (Nat.le_of_ble_eq_true rfl) rfl ?_)
  refine rw_t 6 rfl rfl rfl (do_fieldaddr rfl ?_)
  refine rw_t 7 rfl rfl rfl (do_load_box rfl rfl rfl ?_)
  refine rw_t 8 rfl rfl rfl (do_callR (X' := .val (.bool true)) rfl rfl (t_pvertex (n := n) (v := a.frm) (by omega)) [0] ⟨.inr ⟨_, rfl, srv⟩, trivial⟩ rfl rfl rfl ?_)
  refine rw_t 9 rfl rfl rfl (do_move rfl ?_)
  refine rw_gt 10 4 9 true rfl rfl rfl rfl rfl rfl rfl (n_load_boxagg [_, _, _, _] rfl rfl (Nat.le_of_ble_eq_true rfl) rfl ?_)
  refine rw_gt 11 4 9 true rfl rfl rfl rfl rfl rfl rfl (do_fieldaddr rfl ?_)
  refine rw_gt 12 4 9 true rfl rfl rfl rfl rfl rfl rfl (do_load_box rfl rfl rfl ?_)
  refine rw_gt 13 4 9 true rfl rfl rfl rfl rfl rfl rfl (do_callR (X' := .val (.bool true)) rfl rfl (t_pvertex (n := n) (v := a.to) (by omega)) [0] ⟨.inr ⟨_, rfl, srv⟩, trivial⟩ rfl rfl rfl ?_)
  refine rw_t 14 rfl rfl rfl (do_pick_t rfl rfl rfl ?_)
  refine rw_t 4 rfl rfl rfl (do_assign rfl ?_)
  refine rw_nil ?_
  refine w_ret ?_
  exact ret_eq (.inl rfl) (.cons (res_tmp rfl) .nil) [0] (rfl) ⟨shR rfl, trivial⟩ rfl (pre_ok rfl)
set_option maxHeartbeats 8000000 in
set_option synthInstance.maxHeartbeats 400000 in
set_option synthInstance.maxSize 2000 in
theorem t_rule5 (n : Net) (h : NetOK n) (a : Arc) (ha : a ∈ n.arcs) : Tri Try.prog 97 [.agg [.val (.int .i64 n.N), .val (.int .i64 n.S), .val (.int .i64 n.T), .slc 0 0 n.arcs.length none], .agg [.val (.int .i64 a.frm), .val (.int .i64 a.to), .val (.int .i64 a.cap)]] [SO.arcs false n.arcs] (fun s H => s = .val (.bool true) ∧ H = [SO.arcs false n.arcs]) := by
  refine tri_of_w (fn := Try.f97) Try.func97 rfl (by simp [Try.f97]) ?_
  intro ρ w hρ
  refine w_seq ?_
  have he := h.ends a ha
  refine w_region ?_
  refine rw_t 2 rfl rfl rfl (n_box_agg (n := 1) rfl rfl ?_)
  refine rw_t 3 rfl rfl rfl (n_box_agg (n := 2) rfl rfl ?_)
  refine rw_t 4 rfl rfl rfl (do_assign rfl ?_)
  refine rw_nil ?_
  refine w_seq ?_
  refine w_region ?_
  refine rw_t 5 rfl rfl rfl (do_fieldaddr rfl ?_)
  refine rw_t 6 rfl rfl rfl (do_load_box rfl rfl rfl ?_)
  refine rw_t 7 rfl rfl rfl (do_bin rfl rfl rfl ?_)
  refine rw_t 4 rfl rfl rfl (do_assign rfl ?_)
  refine rw_nil ?_
  refine w_ret ?_
  exact ret_eq (.inl rfl) (.cons (res_tmp rfl) .nil) [0] (Eq.symm (bool_congr ((decide_eq_true (by omega)).symm))) ⟨shR rfl, trivial⟩ rfl (pre_ok rfl)
set_option maxHeartbeats 8000000 in
set_option synthInstance.maxHeartbeats 400000 in
set_option synthInstance.maxSize 2000 in
theorem t_pSum (n : Net) (h : NetOK n) : Tri Try.prog 99 [.agg [.val (.int .i64 n.N), .val (.int .i64 n.S), .val (.int .i64 n.T), .slc 0 0 n.arcs.length none]] [SO.arcs false n.arcs] (fun s H => s = .tup [.val (.int .i64 (capSum n.arcs)), .val (.bool true)] ∧ H = [SO.arcs false n.arcs]) := by
  refine tri_of_w (fn := Try.f99) Try.func99 rfl (by simp [Try.f99]) ?_
  intro ρ w hρ
  refine w_seq ?_
  have hm := h.many
  refine w_region ?_
  refine rw_t 1 rfl rfl rfl (n_box_agg (n := 1) rfl rfl ?_)
  refine rw_t 2 rfl rfl rfl (do_assign rfl ?_)
  refine rw_t 3 rfl rfl rfl (do_assign rfl ?_)
  refine rw_nil ?_
  refine w_seq ?_
  refine w_region ?_
  refine rw_t 4 rfl rfl rfl (do_assign rfl ?_)
  refine rw_nil ?_
  refine w_seq ?_
  refine w_seq ?_
  refine w_region ?_
  refine rw_t 7 rfl rfl rfl (do_fieldaddr rfl ?_)
  refine rw_t 8 rfl rfl rfl (do_load_box rfl rfl rfl ?_)
  refine rw_t 9 rfl rfl rfl (do_len rfl ?_)
  refine rw_t 10 rfl rfl rfl (do_move rfl ?_)
  refine rw_nil ?_
  refine w_block ?_
  refine w_loopS (ι := Nat) (fun i => [(4, .val (.int .i64 (4611686018427387904 - capSum (n.arcs.take i)))), (8, .slc 0 0 n.arcs.length none), (9, .val (.int .i64 ((n.arcs.length : Nat) : Int))), (10, .val (.int .i64 ((i : Nat) : Int)))]) (fun i => [SO.arcs false n.arcs, .box [.val (.int .i64 n.N), .val (.int .i64 n.S), .val (.int .i64 n.T), .slc 0 0 n.arcs.length none]]) (fun i => n.arcs.length - i) (fun i => i ≤ n.arcs.length) (0) [0, 1] (by simp) ⟨shR rfl, shR rfl, trivial⟩ rfl (pre_ok rfl) hρ ⟨⟨_, rfl, Eq.symm (val_congr (by simp [capSum]))⟩, ⟨_, rfl, rfl⟩, ⟨_, rfl, rfl⟩, ⟨_, rfl, rfl⟩, trivial⟩ ?_
  intro i hi
  refine w_seq ?_
  refine w_region ?_
  refine rw_t 11 rfl rfl rfl (do_bin rfl rfl rfl ?_)
  refine rw_nil ?_
  refine w_seq ?_
  refine w_cond rfl (fun hc1 => ?_) (fun hc1 => ?_)
  all_goals try simp only [bs] at hc1
  rotate_left
  · refine w_exit ?_
    refine w_seq ?_
    have hi' : i = n.arcs.length := by omega
    subst hi'
    have hps : capSum (n.arcs.take n.arcs.length) = capSum n.arcs := by rw [List.take_length]
    have hs := h.sum
    have hs0 := h.part n.arcs.length
    refine w_region ?_
    refine rw_t 28 rfl rfl rfl (do_move rfl ?_)
    refine rw_t 29 rfl rfl rfl (do_sub rfl rfl (by omega) ?_)
    refine rw_t 2 rfl rfl rfl (do_assign rfl ?_)
    refine rw_t 3 rfl rfl rfl (do_assign rfl ?_)
    refine rw_nil ?_
    refine w_ret ?_
    exact ret_eq (.inl rfl) (.cons (res_tmp rfl) (.cons (res_tmp rfl) .nil)) [0] (by rw [show (4611686018427387904 - (4611686018427387904 - capSum (n.arcs.take n.arcs.length))) = capSum n.arcs by omega]; rfl) ⟨shR rfl, trivial⟩ rfl (pre_ok rfl)
  refine w_skip ?_
  refine w_seq ?_
  refine w_block ?_
  refine w_seq ?_
  refine w_region ?_
  refine rw_t 12 rfl rfl rfl (do_ixn rfl rfl rfl (by first | omega | (simp only [ls] <;> omega)) ?_)
  refine rw_t 13 rfl rfl rfl (n_load_arragg [_, _, _] rfl rfl rfl (by first | omega | (simp only [ls] <;> omega)) rfl ?_)
  refine rw_t 6 rfl rfl rfl (n_alloc (n := 2) rfl ?_)
  refine rw_u rfl rfl (n_store_whole rfl rfl rfl rfl rfl rfl ?_)
  refine rw_nil ?_
  refine w_seq ?_
  have he := h.arc (show i < n.arcs.length by omega)
  have hp1 := h.part i
  have hp2 := h.part (i + 1)
  have hps := take_capSum (show i < n.arcs.length by omega)
  refine w_seqB 22 (((n.arcs.getD i Arc.none).cap < 0 ∨ (n.arcs.getD i Arc.none).cap > (4611686018427387904 - capSum (n.arcs.take i)))) ?_ ?_
  · -- region 5
    refine w_region ?_
    refine rw_t 14 rfl rfl rfl (do_fieldaddr rfl ?_)
    refine rw_t 15 rfl rfl rfl (do_load_box rfl rfl rfl ?_)
    refine rw_t 16 rfl rfl rfl (do_bin rfl rfl rfl ?_)
    refine rw_t 17 rfl rfl rfl (do_move rfl ?_)
    refine rw_case 17 rfl (fun g1 => ?_) (fun g1 => ?_)
    · have kg1 := g1
      try simp only [bs] at kg1
      refine rw_gf 18 3 17 false rfl rfl rfl rfl rfl rfl (by rw [g1]; decide) ?_
      refine rw_gf 19 3 17 false rfl rfl rfl rfl rfl rfl (by rw [g1]; decide) ?_
      refine rw_gf 20 3 17 false rfl rfl rfl rfl rfl rfl (by rw [g1]; decide) ?_
      refine rw_gf 21 3 17 false rfl rfl rfl rfl rfl rfl (by rw [g1]; decide) ?_
      refine rw_t 22 rfl rfl rfl (do_pick_t rfl g1 rfl ?_)
      refine rw_nil ?_
      refine ⟨rfl, ⟨_, rfl, by first | (simp; done) | (simp only [bs]; omega) | (simp [*]; done) | (simp; omega) | (constructor <;> intro h <;> simp_all <;> omega)⟩, ?_⟩
      repeat (refine ⟨⟨_, rfl, rfl⟩, ?_⟩)
      exact trivial
    · have kg1 := g1
      try simp only [bs] at kg1
      refine rw_gt 18 3 17 false rfl rfl rfl rfl rfl rfl g1 (do_fieldaddr rfl ?_)
      refine rw_gt 19 3 17 false rfl rfl rfl rfl rfl rfl g1 (do_load_box rfl rfl rfl ?_)
      refine rw_gt 20 3 17 false rfl rfl rfl rfl rfl rfl g1 (do_move rfl ?_)
      refine rw_gt 21 3 17 false rfl rfl rfl rfl rfl rfl g1 (do_bin rfl rfl rfl ?_)
      refine rw_t 22 rfl rfl rfl (do_pick_f rfl g1 rfl ?_)
      refine rw_nil ?_
      refine ⟨rfl, ⟨_, rfl, by first | (simp; done) | (simp only [bs]; omega) | (simp [*]; done) | (simp; omega) | (constructor <;> intro h <;> simp_all <;> omega)⟩, ?_⟩
      repeat (refine ⟨⟨_, rfl, rfl⟩, ?_⟩)
      exact trivial
  intro b1 hb1
  refine w_condP hb1 rfl (fun hc2 => ?_) (fun hc2 => ?_)
  · exfalso; omega
  refine w_skip ?_
  refine w_region ?_
  refine rw_t 23 rfl rfl rfl (do_move rfl ?_)
  refine rw_t 24 rfl rfl rfl (do_fieldaddr rfl ?_)
  refine rw_t 25 rfl rfl rfl (do_load_box rfl rfl rfl ?_)
  refine rw_t 26 rfl rfl rfl (do_sub rfl rfl (by omega) ?_)
  refine rw_t 4 rfl rfl rfl (do_assign rfl ?_)
  refine rw_nil ?_
  refine w_region ?_
  refine rw_t 27 rfl rfl rfl (do_add rfl rfl (by omega) ?_)
  refine rw_t 10 rfl rfl rfl (do_move rfl ?_)
  refine rw_nil ?_
  refine ⟨i + 1, [0, 1], by dsimp only; omega, by omega, ⟨shR rfl, shR rfl, trivial⟩, rfl, pre_ok rfl, ⟨⟨_, rfl, Eq.symm (val_congr (by omega))⟩, ⟨_, rfl, rfl⟩, ⟨_, rfl, rfl⟩, ⟨_, rfl, rfl⟩, trivial⟩⟩
set_option maxHeartbeats 8000000 in
set_option synthInstance.maxHeartbeats 400000 in
set_option synthInstance.maxSize 2000 in
theorem t_rule6 (n : Net) (h : NetOK n) : Tri Try.prog 98 [.agg [.val (.int .i64 n.N), .val (.int .i64 n.S), .val (.int .i64 n.T), .slc 0 0 n.arcs.length none]] [SO.arcs false n.arcs] (fun s H => s = .val (.bool true) ∧ H = [SO.arcs false n.arcs]) := by
  refine tri_of_w (fn := Try.f98) Try.func98 rfl (by simp [Try.f98]) ?_
  intro ρ w hρ
  refine w_seq ?_
  refine w_region ?_
  refine rw_t 1 rfl rfl rfl (n_box_agg (n := 1) rfl rfl ?_)
  refine rw_t 2 rfl rfl rfl (do_assign rfl ?_)
  refine rw_nil ?_
  refine w_seq ?_
  refine w_region ?_
  refine rw_t 6 rfl rfl rfl (n_load_boxagg [_, _, _, _] rfl rfl (Nat.le_of_ble_eq_true rfl) rfl ?_)
  refine rw_t 7 rfl rfl rfl (do_callR (X' := .tup [.val (.int .i64 (capSum n.arcs)), .val (.bool true)]) rfl rfl (t_pSum (n := n) (h)) [0] ⟨.inr ⟨_, rfl, srv⟩, trivial⟩ rfl rfl rfl ?_)
  refine rw_t 5 rfl rfl rfl (do_move rfl ?_)
  refine rw_t 8 rfl rfl rfl (do_extract rfl rfl ?_)
  refine rw_t 9 rfl rfl rfl (do_extract rfl rfl ?_)
  refine rw_t 3 rfl rfl rfl (do_assign rfl ?_)
  refine rw_t 4 rfl rfl rfl (do_assign rfl ?_)
  refine rw_nil ?_
  refine w_seq ?_
  refine w_region ?_
  refine rw_t 10 rfl rfl rfl (do_move rfl ?_)
  refine rw_t 2 rfl rfl rfl (do_assign rfl ?_)
  refine rw_nil ?_
  refine w_ret ?_
  exact ret_eq (.inl rfl) (.cons (res_tmp rfl) .nil) [0] (rfl) ⟨shR rfl, trivial⟩ rfl (pre_ok rfl)
set_option maxHeartbeats 8000000 in
set_option synthInstance.maxHeartbeats 400000 in
set_option synthInstance.maxSize 2000 in
theorem t_so4 (n : Net) (h : NetOK n) (a : Arc) (ha : a ∈ n.arcs) : Tri Try.prog 103 [.agg [.val (.int .i64 a.frm), .val (.int .i64 a.to), .val (.int .i64 a.cap)], .ptr 1 0 0, .ptr 2 0 0] [SO.arcs false n.arcs, .box [.func 96 [] []], .box [.val (.int .i64 n.N), .val (.int .i64 n.S), .val (.int .i64 n.T), .slc 0 0 n.arcs.length none]] (fun s H => s = .val (.bool false) ∧ H = [SO.arcs false n.arcs, .box [.func 96 [] []], .box [.val (.int .i64 n.N), .val (.int .i64 n.S), .val (.int .i64 n.T), .slc 0 0 n.arcs.length none]]) := by
  refine tri_of_w (fn := Try.f103) Try.func103 rfl (by simp [Try.f103]) ?_
  intro ρ w hρ
  refine w_seq ?_
  refine w_region ?_
  refine rw_t 3 rfl rfl rfl (n_box_agg (n := 3) rfl rfl ?_)
  refine rw_t 4 rfl rfl rfl (do_assign rfl ?_)
  refine rw_nil ?_
  refine w_seq ?_
  refine w_region ?_
  refine rw_t 5 rfl rfl rfl (do_load_box rfl rfl rfl ?_)
  refine rw_t 6 rfl rfl rfl (n_load_boxagg [_, _, _, _] rfl rfl (Nat.le_of_ble_eq_true rfl) rfl ?_)
  refine rw_t 7 rfl rfl rfl (n_load_boxagg [_, _, _] rfl rfl (Nat.le_of_ble_eq_true rfl) rfl ?_)
  refine rw_t 8 rfl rfl rfl (do_callR (X' := .val (.bool true)) rfl rfl (t_rule4 (n := n) (a := a) (h) (by assumption)) [0] ⟨.inr ⟨_, rfl, srv⟩, trivial⟩ rfl rfl rfl ?_)
  refine rw_t 9 rfl rfl rfl (do_not rfl ?_)
  refine rw_t 4 rfl rfl rfl (do_assign rfl ?_)
  refine rw_nil ?_
  refine w_ret ?_
  exact ret_eq (.inl rfl) (.cons (res_tmp rfl) .nil) [0, 1, 2] (rfl) ⟨shR rfl, shR rfl, shR rfl, trivial⟩ rfl (pre_ok rfl)
set_option maxHeartbeats 8000000 in
set_option synthInstance.maxHeartbeats 400000 in
set_option synthInstance.maxSize 2000 in
theorem t_aIndex4 (n : Net) (h : NetOK n) : Tri Try.prog 104 [.slc 0 0 n.arcs.length none, .func 103 [] [.ptr 1 0 0, .ptr 2 0 0]] [SO.arcs false n.arcs, .box [.func 96 [] []], .box [.val (.int .i64 n.N), .val (.int .i64 n.S), .val (.int .i64 n.T), .slc 0 0 n.arcs.length none]] (fun s H => s = .val (.int .i64 (-1)) ∧ H = [SO.arcs false n.arcs, .box [.func 96 [] []], .box [.val (.int .i64 n.N), .val (.int .i64 n.S), .val (.int .i64 n.T), .slc 0 0 n.arcs.length none]]) := by
  refine tri_of_w (fn := Try.f104) Try.func104 rfl (by simp [Try.f104]) ?_
  intro ρ w hρ
  refine w_seq ?_
  have hm := h.many
  refine w_region ?_
  refine rw_t 4 rfl rfl rfl (do_assign rfl ?_)
  refine rw_nil ?_
  refine w_seq ?_
  refine w_seq ?_
  refine w_region ?_
  refine rw_t 6 rfl rfl rfl (do_move rfl ?_)
  refine rw_t 7 rfl rfl rfl (do_len rfl ?_)
  refine rw_t 8 rfl rfl rfl (do_move rfl ?_)
  refine rw_nil ?_
  refine w_block ?_
  refine w_loopS (ι := Nat) (fun i => [(0, .slc 0 0 n.arcs.length none), (1, .func 103 [] [.ptr 1 0 0, .ptr 2 0 0]), (7, .val (.int .i64 ((n.arcs.length : Nat) : Int))), (8, .val (.int .i64 ((i : Nat) : Int)))]) (fun i => [SO.arcs false n.arcs, .box [.func 96 [] []], .box [.val (.int .i64 n.N), .val (.int .i64 n.S), .val (.int .i64 n.T), .slc 0 0 n.arcs.length none]]) (fun i => n.arcs.length - i) (fun i => i ≤ n.arcs.length) (0) [0, 1, 2] (by simp) ⟨shR rfl, shR rfl, shR rfl, trivial⟩ rfl (pre_ok rfl) hρ ⟨⟨_, rfl, rfl⟩, ⟨_, rfl, rfl⟩, ⟨_, rfl, rfl⟩, ⟨_, rfl, rfl⟩, trivial⟩ ?_
  intro i hi
  refine w_seq ?_
  refine w_region ?_
  refine rw_t 9 rfl rfl rfl (do_bin rfl rfl rfl ?_)
  refine rw_nil ?_
  refine w_seq ?_
  refine w_cond rfl (fun hc1 => ?_) (fun hc1 => ?_)
  all_goals try simp only [bs] at hc1
  rotate_left
  · refine w_exit ?_
    refine w_seq ?_
    refine w_region ?_
    refine rw_t 4 rfl rfl rfl (do_assign rfl ?_)
    refine rw_nil ?_
    refine w_ret ?_
    exact ret_eq (.inl rfl) (.cons (res_tmp rfl) .nil) [0, 1, 2] (rfl) ⟨shR rfl, shR rfl, shR rfl, trivial⟩ rfl (pre_ok rfl)
  refine w_skip ?_
  refine w_seq ?_
  refine w_block ?_
  refine w_seq ?_
  refine w_region ?_
  refine rw_t 10 rfl rfl rfl (do_move rfl ?_)
  refine rw_t 5 rfl rfl rfl (do_assign rfl ?_)
  refine rw_nil ?_
  refine w_seq ?_
  refine w_region ?_
  refine rw_t 11 rfl rfl rfl (do_move rfl ?_)
  refine rw_t 12 rfl rfl rfl (do_move rfl ?_)
  refine rw_t 13 rfl rfl rfl (do_move rfl ?_)
  refine rw_t 14 rfl rfl rfl (do_ixn rfl rfl rfl (by first | omega | (simp only [ls] <;> omega)) ?_)
  refine rw_t 15 rfl rfl rfl (n_load_arragg [_, _, _] rfl rfl rfl (by first | omega | (simp only [ls] <;> omega)) rfl ?_)
  refine rw_t 16 rfl rfl rfl (n_callW (X' := .val (.bool false)) (H' := [SO.arcs false n.arcs, .box [.func 96 [] []], .box [.val (.int .i64 n.N), .val (.int .i64 n.S), .val (.int .i64 n.T), .slc 0 0 n.arcs.length none]]) rfl rfl (t_so4 (n := n) (a := (n.arcs.getD i Arc.none)) (h) (getD_mem _ (by omega))) [0, 1, 2] ⟨.inr ⟨_, rfl, srv⟩, shR rfl, shR rfl, trivial⟩ rfl rfl ⟨fun h => (by cases h), ⟨fun h => .inl rfl, ⟨fun h => .inl rfl, (fun y hy => by simp at hy)⟩⟩⟩ rfl rfl ?_)
  refine rw_nil ?_
  refine w_cond rfl (fun hc2 => ?_) (fun hc2 => ?_)
  · exfalso; first | (cases hc2; done) | exact (hc2 trivial) | (try simp only [bs] at hc2; first | omega | (simp_all; done) | (simp_all; omega))
  refine w_skip ?_
  refine w_region ?_
  refine rw_t 18 rfl rfl rfl (do_add rfl rfl (by omega) ?_)
  refine rw_t 8 rfl rfl rfl (do_move rfl ?_)
  refine rw_nil ?_
  refine ⟨i + 1, [0, 1, 2], by dsimp only; omega, by omega, ⟨shR rfl, shR rfl, shR rfl, trivial⟩, rfl, pre_ok rfl, ⟨⟨_, rfl, rfl⟩, ⟨_, rfl, rfl⟩, ⟨_, rfl, rfl⟩, ⟨_, rfl, rfl⟩, trivial⟩⟩
set_option maxHeartbeats 8000000 in
set_option synthInstance.maxHeartbeats 400000 in
set_option synthInstance.maxSize 2000 in
theorem t_aContains4 (n : Net) (h : NetOK n) : Tri Try.prog 102 [.slc 0 0 n.arcs.length none, .func 103 [] [.ptr 1 0 0, .ptr 2 0 0]] [SO.arcs false n.arcs, .box [.func 96 [] []], .box [.val (.int .i64 n.N), .val (.int .i64 n.S), .val (.int .i64 n.T), .slc 0 0 n.arcs.length none]] (fun s H => s = .val (.bool false) ∧ H = [SO.arcs false n.arcs, .box [.func 96 [] []], .box [.val (.int .i64 n.N), .val (.int .i64 n.S), .val (.int .i64 n.T), .slc 0 0 n.arcs.length none]]) := by
  refine tri_of_w (fn := Try.f102) Try.func102 rfl (by simp [Try.f102]) ?_
  intro ρ w hρ
  refine w_seq ?_
  refine w_region ?_
  refine rw_t 4 rfl rfl rfl (do_assign rfl ?_)
  refine rw_nil ?_
  refine w_seq ?_
  refine w_region ?_
  refine rw_t 5 rfl rfl rfl (do_move rfl ?_)
  refine rw_t 6 rfl rfl rfl (do_move rfl ?_)
  refine rw_t 7 rfl rfl rfl (n_callW (X' := .val (.int .i64 (-1))) (H' := [SO.arcs false n.arcs, .box [.func 96 [] []], .box [.val (.int .i64 n.N), .val (.int .i64 n.S), .val (.int .i64 n.T), .slc 0 0 n.arcs.length none]]) rfl rfl (t_aIndex4 (n := n) (h)) [0, 1, 2] ⟨.inr ⟨_, rfl, srv⟩, shR rfl, shR rfl, trivial⟩ rfl rfl ⟨fun h => (by cases h), ⟨fun h => .inl rfl, ⟨fun h => .inl rfl, (fun y hy => by simp at hy)⟩⟩⟩ rfl rfl ?_)
  refine rw_t 8 rfl rfl rfl (do_bin rfl rfl rfl ?_)
  refine rw_t 4 rfl rfl rfl (do_assign rfl ?_)
  refine rw_nil ?_
  refine w_ret ?_
  exact ret_eq (.inl rfl) (.cons (res_tmp rfl) .nil) [0, 1, 2] (Eq.symm (bool_congr (by decide))) ⟨shR rfl, shR rfl, shR rfl, trivial⟩ rfl (pre_ok rfl)
set_option maxHeartbeats 8000000 in
set_option synthInstance.maxHeartbeats 400000 in
set_option synthInstance.maxSize 2000 in
theorem t_of14 (n : Net) (h : NetOK n) : Tri Try.prog 101 [.agg [.val (.int .i64 n.N), .val (.int .i64 n.S), .val (.int .i64 n.T), .slc 0 0 n.arcs.length none], .ptr 1 0 0] [SO.arcs false n.arcs, .box [.func 96 [] []]] (fun s H => s = .val (.bool true) ∧ H = [SO.arcs false n.arcs, .box [.func 96 [] []]]) := by
  refine tri_of_w (fn := Try.f101) Try.func101 rfl (by simp [Try.f101]) ?_
  intro ρ w hρ
  refine w_seq ?_
  refine w_region ?_
  refine rw_t 2 rfl rfl rfl (n_box_agg (n := 2) rfl rfl ?_)
  refine rw_t 3 rfl rfl rfl (do_assign rfl ?_)
  refine rw_nil ?_
  refine w_seq ?_
  refine w_region ?_
  refine rw_t 4 rfl rfl rfl (do_fieldaddr rfl ?_)
  refine rw_t 5 rfl rfl rfl (do_load_box rfl rfl rfl ?_)
  refine rw_t 6 rfl rfl rfl (do_makefunc rfl rfl ?_)
  refine rw_t 7 rfl rfl rfl (n_callW (X' := .val (.bool false)) (H' := [SO.arcs false n.arcs, .box [.func 96 [] []], .box [.val (.int .i64 n.N), .val (.int .i64 n.S), .val (.int .i64 n.T), .slc 0 0 n.arcs.length none]]) rfl rfl (t_aContains4 (n := n) (h)) [0, 1, 2] ⟨.inr ⟨_, rfl, srv⟩, shR rfl, shR rfl, trivial⟩ rfl rfl ⟨fun h => (by cases h), ⟨fun h => .inl rfl, ⟨fun h => .inl rfl, (fun y hy => by simp at hy)⟩⟩⟩ rfl rfl ?_)
  refine rw_t 8 rfl rfl rfl (do_not rfl ?_)
  refine rw_t 3 rfl rfl rfl (do_assign rfl ?_)
  refine rw_nil ?_
  refine w_ret ?_
  exact ret_eq (.inl rfl) (.cons (res_tmp rfl) .nil) [0, 1] (rfl) ⟨shR rfl, shR rfl, trivial⟩ rfl (pre_ok rfl)
set_option maxHeartbeats 8000000 in
set_option synthInstance.maxHeartbeats 400000 in
set_option synthInstance.maxSize 2000 in
theorem t_of4  : Tri Try.prog 95 [.func 96 [] []] [] (fun s H => s = .func 101 [] [.ptr 0 0 0] ∧ H = [.box [.func 96 [] []]]) := by
  refine tri_of_w (fn := Try.f95) Try.func95 rfl (by simp [Try.f95]) ?_
  intro ρ w hρ
  refine w_seq ?_
  refine w_region ?_
  refine rw_t 1 rfl rfl rfl (n_box (n := 0) rfl rfl rfl ?_)
  refine rw_t 2 rfl rfl rfl (do_assign rfl ?_)
  refine rw_nil ?_
  refine w_seq ?_
  refine w_region ?_
  refine rw_t 3 rfl rfl rfl (do_makefunc rfl rfl ?_)
  refine rw_t 2 rfl rfl rfl (do_assign rfl ?_)
  refine rw_nil ?_
  refine w_ret ?_
  exact ret_eq (.inl rfl) (.cons (res_tmp rfl) .nil) [0] (rfl) ⟨shR rfl, trivial⟩ rfl (pre_ok rfl)
set_option maxHeartbeats 8000000 in
set_option synthInstance.maxHeartbeats 400000 in
set_option synthInstance.maxSize 2000 in
theorem t_so5 (n : Net) (h : NetOK n) (a : Arc) (ha : a ∈ n.arcs) : Tri Try.prog 103 [.agg [.val (.int .i64 a.frm), .val (.int .i64 a.to), .val (.int .i64 a.cap)], .ptr 1 0 0, .ptr 2 0 0] [SO.arcs false n.arcs, .box [.func 97 [] []], .box [.val (.int .i64 n.N), .val (.int .i64 n.S), .val (.int .i64 n.T), .slc 0 0 n.arcs.length none]] (fun s H => s = .val (.bool false) ∧ H = [SO.arcs false n.arcs, .box [.func 97 [] []], .box [.val (.int .i64 n.N), .val (.int .i64 n.S), .val (.int .i64 n.T), .slc 0 0 n.arcs.length none]]) := by
  refine tri_of_w (fn := Try.f103) Try.func103 rfl (by simp [Try.f103]) ?_
  intro ρ w hρ
  refine w_seq ?_
  refine w_region ?_
  refine rw_t 3 rfl rfl rfl (n_box_agg (n := 3) rfl rfl ?_)
  refine rw_t 4 rfl rfl rfl (do_assign rfl ?_)
  refine rw_nil ?_
  refine w_seq ?_
  refine w_region ?_
  refine rw_t 5 rfl rfl rfl (do_load_box rfl rfl rfl ?_)
  refine rw_t 6 rfl rfl rfl (n_load_boxagg [_, _, _, _] rfl rfl (Nat.le_of_ble_eq_true rfl) rfl ?_)
  refine rw_t 7 rfl rfl rfl (n_load_boxagg [_, _, _] rfl rfl (Nat.le_of_ble_eq_true rfl) rfl ?_)
  refine rw_t 8 rfl rfl rfl (do_callR (X' := .val (.bool true)) rfl rfl (t_rule5 (n := n) (a := a) (h) (by assumption)) [0] ⟨.inr ⟨_, rfl, srv⟩, trivial⟩ rfl rfl rfl ?_)
  refine rw_t 9 rfl rfl rfl (do_not rfl ?_)
  refine rw_t 4 rfl rfl rfl (do_assign rfl ?_)
  refine rw_nil ?_
  refine w_ret ?_
  exact ret_eq (.inl rfl) (.cons (res_tmp rfl) .nil) [0, 1, 2] (rfl) ⟨shR rfl, shR rfl, shR rfl, trivial⟩ rfl (pre_ok rfl)
set_option maxHeartbeats 8000000 in
set_option synthInstance.maxHeartbeats 400000 in
set_option synthInstance.maxSize 2000 in
theorem t_aIndex5 (n : Net) (h : NetOK n) : Tri Try.prog 104 [.slc 0 0 n.arcs.length none, .func 103 [] [.ptr 1 0 0, .ptr 2 0 0]] [SO.arcs false n.arcs, .box [.func 97 [] []], .box [.val (.int .i64 n.N), .val (.int .i64 n.S), .val (.int .i64 n.T), .slc 0 0 n.arcs.length none]] (fun s H => s = .val (.int .i64 (-1)) ∧ H = [SO.arcs false n.arcs, .box [.func 97 [] []], .box [.val (.int .i64 n.N), .val (.int .i64 n.S), .val (.int .i64 n.T), .slc 0 0 n.arcs.length none]]) := by
  refine tri_of_w (fn := Try.f104) Try.func104 rfl (by simp [Try.f104]) ?_
  intro ρ w hρ
  refine w_seq ?_
  have hm := h.many
  refine w_region ?_
  refine rw_t 4 rfl rfl rfl (do_assign rfl ?_)
  refine rw_nil ?_
  refine w_seq ?_
  refine w_seq ?_
  refine w_region ?_
  refine rw_t 6 rfl rfl rfl (do_move rfl ?_)
  refine rw_t 7 rfl rfl rfl (do_len rfl ?_)
  refine rw_t 8 rfl rfl rfl (do_move rfl ?_)
  refine rw_nil ?_
  refine w_block ?_
  refine w_loopS (ι := Nat) (fun i => [(0, .slc 0 0 n.arcs.length none), (1, .func 103 [] [.ptr 1 0 0, .ptr 2 0 0]), (7, .val (.int .i64 ((n.arcs.length : Nat) : Int))), (8, .val (.int .i64 ((i : Nat) : Int)))]) (fun i => [SO.arcs false n.arcs, .box [.func 97 [] []], .box [.val (.int .i64 n.N), .val (.int .i64 n.S), .val (.int .i64 n.T), .slc 0 0 n.arcs.length none]]) (fun i => n.arcs.length - i) (fun i => i ≤ n.arcs.length) (0) [0, 1, 2] (by simp) ⟨shR rfl, shR rfl, shR rfl, trivial⟩ rfl (pre_ok rfl) hρ ⟨⟨_, rfl, rfl⟩, ⟨_, rfl, rfl⟩, ⟨_, rfl, rfl⟩, ⟨_, rfl, rfl⟩, trivial⟩ ?_
  intro i hi
  refine w_seq ?_
  refine w_region ?_
  refine rw_t 9 rfl rfl rfl (do_bin rfl rfl rfl ?_)
  refine rw_nil ?_
  refine w_seq ?_
  refine w_cond rfl (fun hc1 => ?_) (fun hc1 => ?_)
  all_goals try simp only [bs] at hc1
  rotate_left
  · refine w_exit ?_
    refine w_seq ?_
    refine w_region ?_
    refine rw_t 4 rfl rfl rfl (do_assign rfl ?_)
    refine rw_nil ?_
    refine w_ret ?_
    exact ret_eq (.inl rfl) (.cons (res_tmp rfl) .nil) [0, 1, 2] (rfl) ⟨shR rfl, shR rfl, shR rfl, trivial⟩ rfl (pre_ok rfl)
  refine w_skip ?_
  refine w_seq ?_
  refine w_block ?_
  refine w_seq ?_
  refine w_region ?_
  refine rw_t 10 rfl rfl rfl (do_move rfl ?_)
  refine rw_t 5 rfl rfl rfl (do_assign rfl ?_)
  refine rw_nil ?_
  refine w_seq ?_
  refine w_region ?_
  refine rw_t 11 rfl rfl rfl (do_move rfl ?_)
  refine rw_t 12 rfl rfl rfl (do_move rfl ?_)
  refine rw_t 13 rfl rfl rfl (do_move rfl ?_)
  refine rw_t 14 rfl rfl rfl (do_ixn rfl rfl rfl (by first | omega | (simp only [ls] <;> omega)) ?_)
  refine rw_t 15 rfl rfl rfl (n_load_arragg [_, _, _] rfl rfl rfl (by first | omega | (simp only [ls] <;> omega)) rfl ?_)
  refine rw_t 16 rfl rfl rfl (n_callW (X' := .val (.bool false)) (H' := [SO.arcs false n.arcs, .box [.func 97 [] []], .box [.val (.int .i64 n.N), .val (.int .i64 n.S), .val (.int .i64 n.T), .slc 0 0 n.arcs.length none]]) rfl rfl (t_so5 (n := n) (a := (n.arcs.getD i Arc.none)) (h) (getD_mem _ (by omega))) [0, 1, 2] ⟨.inr ⟨_, rfl, srv⟩, shR rfl, shR rfl, trivial⟩ rfl rfl ⟨fun h => (by cases h), ⟨fun h => .inl rfl, ⟨fun h => .inl rfl, (fun y hy => by simp at hy)⟩⟩⟩ rfl rfl ?_)
  refine rw_nil ?_
  refine w_cond rfl (fun hc2 => ?_) (fun hc2 => ?_)
  · exfalso; first | (cases hc2; done) | exact (hc2 trivial) | (try simp only [bs] at hc2; first | omega | (simp_all; done) | (simp_all; omega))
  refine w_skip ?_
  refine w_region ?_
  refine rw_t 18 rfl rfl rfl (do_add rfl rfl (by omega) ?_)
  refine rw_t 8 rfl rfl rfl (do_move rfl ?_)
  refine rw_nil ?_
  refine ⟨i + 1, [0, 1, 2], by dsimp only; omega, by omega, ⟨shR rfl, shR rfl, shR rfl, trivial⟩, rfl, pre_ok rfl, ⟨⟨_, rfl, rfl⟩, ⟨_, rfl, rfl⟩, ⟨_, rfl, rfl⟩, ⟨_, rfl, rfl⟩, trivial⟩⟩
set_option maxHeartbeats 8000000 in
set_option synthInstance.maxHeartbeats 400000 in
set_option synthInstance.maxSize 2000 in
theorem t_aContains5 (n : Net) (h : NetOK n) : Tri Try.prog 102 [.slc 0 0 n.arcs.length none, .func 103 [] [.ptr 1 0 0, .ptr 2 0 0]] [SO.arcs false n.arcs, .box [.func 97 [] []], .box [.val (.int .i64 n.N), .val (.int .i64 n.S), .val (.int .i64 n.T), .slc 0 0 n.arcs.length none]] (fun s H => s = .val (.bool false) ∧ H = [SO.arcs false n.arcs, .box [.func 97 [] []], .box [.val (.int .i64 n.N), .val (.int .i64 n.S), .val (.int .i64 n.T), .slc 0 0 n.arcs.length none]]) := by
  refine tri_of_w (fn := Try.f102) Try.func102 rfl (by simp [Try.f102]) ?_
  intro ρ w hρ
  refine w_seq ?_
  refine w_region ?_
  refine rw_t 4 rfl rfl rfl (do_assign rfl ?_)
  refine rw_nil ?_
  refine w_seq ?_
  refine w_region ?_
  refine rw_t 5 rfl rfl rfl (do_move rfl ?_)
  refine rw_t 6 rfl rfl rfl (do_move rfl ?_)
  refine rw_t 7 rfl rfl rfl (n_callW (X' := .val (.int .i64 (-1))) (H' := [SO.arcs false n.arcs, .box [.func 97 [] []], .box [.val (.int .i64 n.N), .val (.int .i64 n.S), .val (.int .i64 n.T), .slc 0 0 n.arcs.length none]]) rfl rfl (t_aIndex5 (n := n) (h)) [0, 1, 2] ⟨.inr ⟨_, rfl, srv⟩, shR rfl, shR rfl, trivial⟩ rfl rfl ⟨fun h => (by cases h), ⟨fun h => .inl rfl, ⟨fun h => .inl rfl, (fun y hy => by simp at hy)⟩⟩⟩ rfl rfl ?_)
  refine rw_t 8 rfl rfl rfl (do_bin rfl rfl rfl ?_)
  refine rw_t 4 rfl rfl rfl (do_assign rfl ?_)
  refine rw_nil ?_
  refine w_ret ?_
  exact ret_eq (.inl rfl) (.cons (res_tmp rfl) .nil) [0, 1, 2] (Eq.symm (bool_congr (by decide))) ⟨shR rfl, shR rfl, shR rfl, trivial⟩ rfl (pre_ok rfl)
set_option maxHeartbeats 8000000 in
set_option synthInstance.maxHeartbeats 400000 in
set_option synthInstance.maxSize 2000 in
theorem t_of15 (n : Net) (h : NetOK n) : Tri Try.prog 101 [.agg [.val (.int .i64 n.N), .val (.int .i64 n.S), .val (.int .i64 n.T), .slc 0 0 n.arcs.length none], .ptr 1 0 0] [SO.arcs false n.arcs, .box [.func 97 [] []]] (fun s H => s = .val (.bool true) ∧ H = [SO.arcs false n.arcs, .box [.func 97 [] []]]) := by
  refine tri_of_w (fn := Try.f101) Try.func101 rfl (by simp [Try.f101]) ?_
  intro ρ w hρ
  refine w_seq ?_
  refine w_region ?_
  refine rw_t 2 rfl rfl rfl (n_box_agg (n := 2) rfl rfl ?_)
  refine rw_t 3 rfl rfl rfl (do_assign rfl ?_)
  refine rw_nil ?_
  refine w_seq ?_
  refine w_region ?_
  refine rw_t 4 rfl rfl rfl (do_fieldaddr rfl ?_)
  refine rw_t 5 rfl rfl rfl (do_load_box rfl rfl rfl ?_)
  refine rw_t 6 rfl rfl rfl (do_makefunc rfl rfl ?_)
  refine rw_t 7 rfl rfl rfl (n_callW (X' := .val (.bool false)) (H' := [SO.arcs false n.arcs, .box [.func 97 [] []], .box [.val (.int .i64 n.N), .val (.int .i64 n.S), .val (.int .i64 n.T), .slc 0 0 n.arcs.length none]]) rfl rfl (t_aContains5 (n := n) (h)) [0, 1, 2] ⟨.inr ⟨_, rfl, srv⟩, shR rfl, shR rfl, trivial⟩ rfl rfl ⟨fun h => (by cases h), ⟨fun h => .inl rfl, ⟨fun h => .inl rfl, (fun y hy => by simp at hy)⟩⟩⟩ rfl rfl ?_)
  refine rw_t 8 rfl rfl rfl (do_not rfl ?_)
  refine rw_t 3 rfl rfl rfl (do_assign rfl ?_)
  refine rw_nil ?_
  refine w_ret ?_
  exact ret_eq (.inl rfl) (.cons (res_tmp rfl) .nil) [0, 1] (rfl) ⟨shR rfl, shR rfl, trivial⟩ rfl (pre_ok rfl)
set_option maxHeartbeats 8000000 in
set_option synthInstance.maxHeartbeats 400000 in
set_option synthInstance.maxSize 2000 in
theorem t_of5  : Tri Try.prog 95 [.func 97 [] []] [] (fun s H => s = .func 101 [] [.ptr 0 0 0] ∧ H = [.box [.func 97 [] []]]) := by
  refine tri_of_w (fn := Try.f95) Try.func95 rfl (by simp [Try.f95]) ?_
  intro ρ w hρ
  refine w_seq ?_
  refine w_region ?_
  refine rw_t 1 rfl rfl rfl (n_box (n := 0) rfl rfl rfl ?_)
  refine rw_t 2 rfl rfl rfl (do_assign rfl ?_)
  refine rw_nil ?_
  refine w_seq ?_
  refine w_region ?_
  refine rw_t 3 rfl rfl rfl (do_makefunc rfl rfl ?_)
  refine rw_t 2 rfl rfl rfl (do_assign rfl ?_)
  refine rw_nil ?_
  refine w_ret ?_
  exact ret_eq (.inl rfl) (.cons (res_tmp rfl) .nil) [0] (rfl) ⟨shR rfl, trivial⟩ rfl (pre_ok rfl)
set_option maxHeartbeats 8000000 in
set_option synthInstance.maxHeartbeats 400000 in
set_option synthInstance.maxSize 2000 in
theorem t_rules  : Tri Try.prog 89 [] [] (fun s H => s = .agg [.func 91 [] [], .val (.int .i64 10), .func 92 [] [], .val (.int .i64 11), .func 93 [] [], .val (.int .i64 12), .func 101 [] [.ptr 0 0 0], .val (.int .i64 13), .func 101 [] [.ptr 1 0 0], .val (.int .i64 14), .func 98 [] [], .val (.int .i64 15)] ∧ H = [.box [.func 96 [] []], .box [.func 97 [] []]]) := by
  refine tri_of_w (fn := Try.f89) Try.func89 rfl (by simp [Try.f89]) ?_
  intro ρ w hρ
  refine w_seq ?_
  refine w_region ?_
  refine rw_t 0 rfl rfl rfl (n_alloc (n := 0) rfl ?_)
  refine rw_nil ?_
  refine w_seq ?_
  refine w_region ?_
  refine rw_t 1 rfl rfl rfl (do_build (out := [_, _]) rfl rfl ?_)
  refine rw_t 2 rfl rfl rfl (do_build (out := [_, _]) rfl rfl ?_)
  refine rw_t 3 rfl rfl rfl (do_build (out := [_, _]) rfl rfl ?_)
  refine rw_t 4 rfl rfl rfl (n_callN (X' := .func 101 [] [.ptr 1 0 0]) (N' := [.box [.func 96 [] []]]) rfl rfl (t_of4) [] trivial rfl rfl rfl rfl rfl ?_)
  refine rw_t 5 rfl rfl rfl (do_build (out := [_, _]) rfl rfl ?_)
  refine rw_t 6 rfl rfl rfl (n_callN (X' := .func 101 [] [.ptr 2 0 0]) (N' := [.box [.func 97 [] []]]) rfl rfl (t_of5) [] trivial rfl rfl rfl rfl rfl ?_)
  refine rw_t 7 rfl rfl rfl (do_build (out := [_, _]) rfl rfl ?_)
  refine rw_t 8 rfl rfl rfl (do_build (out := [_, _]) rfl rfl ?_)
  refine rw_t 9 rfl rfl rfl (do_buildA (out := [_, _, _, _, _, _, _, _, _, _, _, _]) rfl rfl ?_)
  refine rw_u rfl rfl (n_store_whole rfl rfl rfl rfl rfl rfl ?_)
  refine rw_nil ?_
  refine w_ret ?_
  exact ret_eq (.inl rfl) (.cons (res_agg rfl rfl (Nat.le_of_ble_eq_true rfl)) .nil) [1, 2] (rfl) ⟨shR rfl, shR rfl, trivial⟩ rfl (pre_ok rfl)
set_option maxHeartbeats 8000000 in
set_option synthInstance.maxHeartbeats 400000 in
set_option synthInstance.maxSize 2000 in
theorem t_pCheck (n : Net) (h : NetOK n) : Tri Try.prog 77 [.agg [.val (.int .i64 n.N), .val (.int .i64 n.S), .val (.int .i64 n.T), .slc 0 0 n.arcs.length none]] [SO.arcs false n.arcs] (fun s H => s = .val (.int .i64 0) ∧ H = [SO.arcs false n.arcs]) := by
  refine tri_of_w (fn := Try.f77) Try.func77 rfl (by simp [Try.f77]) ?_
  intro ρ w hρ
  refine w_seq ?_
  refine w_region ?_
  refine rw_t 1 rfl rfl rfl (n_box_agg (n := 1) rfl rfl ?_)
  refine rw_t 2 rfl rfl rfl (do_assign rfl ?_)
  refine rw_nil ?_
  refine w_seq ?_
  refine w_seq ?_
  refine w_region ?_
  refine rw_t 5 rfl rfl rfl (n_callN (X' := .agg [.func 91 [] [], .val (.int .i64 10), .func 92 [] [], .val (.int .i64 11), .func 93 [] [], .val (.int .i64 12), .func 101 [] [.ptr 2 0 0], .val (.int .i64 13), .func 101 [] [.ptr 3 0 0], .val (.int .i64 14), .func 98 [] [], .val (.int .i64 15)]) (N' := [.box [.func 96 [] []], .box [.func 97 [] []]]) rfl rfl (t_rules) [] trivial rfl rfl rfl rfl rfl ?_)
  refine rw_t 6 rfl rfl rfl (do_move rfl ?_)
  refine rw_nil ?_
  refine w_block ?_
  refine w_loopS (ι := Nat) (fun i => [(1, .ptr 1 0 0), (5, .agg [.func 91 [] [], .val (.int .i64 10), .func 92 [] [], .val (.int .i64 11), .func 93 [] [], .val (.int .i64 12), .func 101 [] [.ptr 2 0 0], .val (.int .i64 13), .func 101 [] [.ptr 3 0 0], .val (.int .i64 14), .func 98 [] [], .val (.int .i64 15)]), (6, .val (.int .i64 ((i : Nat) : Int)))]) (fun i => [SO.arcs false n.arcs, .box [.val (.int .i64 n.N), .val (.int .i64 n.S), .val (.int .i64 n.T), .slc 0 0 n.arcs.length none], .box [.func 96 [] []], .box [.func 97 [] []]]) (fun i => 6 - i) (fun i => i ≤ 6) (0) [0, 1, 2, 3] (by simp) ⟨shR rfl, shR rfl, shR rfl, shR rfl, trivial⟩ rfl (pre_ok rfl) hρ ⟨⟨_, rfl, rfl⟩, ⟨_, rfl, rfl⟩, ⟨_, rfl, rfl⟩, trivial⟩ ?_
  intro i hi
  obtain rfl | rfl | rfl | rfl | rfl | rfl | rfl : i = 0 ∨ i = 1 ∨ i = 2 ∨ i = 3 ∨ i = 4 ∨ i = 5 ∨ i = 6 := by omega
  · refine w_seq ?_
    refine w_region ?_
    refine rw_t 7 rfl rfl rfl (do_bin rfl rfl rfl ?_)
    refine rw_nil ?_
    refine w_seq ?_
    refine w_cond rfl (fun hc1 => ?_) (fun hc1 => ?_)
    rotate_left
    · exfalso; first | (cases hc1; done) | exact (hc1 trivial) | (try simp only [bs] at hc1; first | omega | (simp_all; done) | (simp_all; omega))
    refine w_skip ?_
    refine w_seq ?_
    refine w_block ?_
    refine w_seq ?_
    refine w_region ?_
    refine rw_t 8 rfl rfl rfl (do_indexA (out := [_, _]) rfl rfl (by decide) rfl ?_)
    refine rw_t 4 rfl rfl rfl (n_alloc (n := 4) rfl ?_)
    refine rw_u rfl rfl (n_store_whole rfl rfl rfl rfl rfl rfl ?_)
    refine rw_nil ?_
    refine w_seq ?_
    refine w_region ?_
    refine rw_t 9 rfl rfl rfl (do_fieldaddr rfl ?_)
    refine rw_t 10 rfl rfl rfl (do_load_box rfl rfl rfl ?_)
    refine rw_t 11 rfl rfl rfl (n_load_boxagg [_, _, _, _] rfl rfl (Nat.le_of_ble_eq_true rfl) rfl ?_)
    refine rw_t 12 rfl rfl rfl (do_callR (X' := .val (.bool true)) rfl rfl (t_rule1 (n := n) (h)) [0] ⟨.inr ⟨_, rfl, srv⟩, trivial⟩ rfl rfl rfl ?_)
    refine rw_t 13 rfl rfl rfl (do_not rfl ?_)
    refine rw_nil ?_
    refine w_cond rfl (fun hc2 => ?_) (fun hc2 => ?_)
    · exfalso; first | (cases hc2; done) | exact (hc2 trivial) | (try simp only [bs] at hc2; first | omega | (simp_all; done) | (simp_all; omega))
    refine w_skip ?_
    refine w_region ?_
    refine rw_t 16 rfl rfl rfl (do_add rfl rfl (by omega) ?_)
    refine rw_t 6 rfl rfl rfl (do_move rfl ?_)
    refine rw_nil ?_
    refine ⟨1, [0, 1, 2, 3], by dsimp only; omega, by omega, ⟨shR rfl, shR rfl, shR rfl, shR rfl, trivial⟩, rfl, pre_ok rfl, ⟨⟨_, rfl, rfl⟩, ⟨_, rfl, rfl⟩, ⟨_, rfl, rfl⟩, trivial⟩⟩
  · refine w_seq ?_
    refine w_region ?_
    refine rw_t 7 rfl rfl rfl (do_bin rfl rfl rfl ?_)
    refine rw_nil ?_
    refine w_seq ?_
    refine w_cond rfl (fun hc3 => ?_) (fun hc3 => ?_)
    rotate_left
    · exfalso; first | (cases hc3; done) | exact (hc3 trivial) | (try simp only [bs] at hc3; first | omega | (simp_all; done) | (simp_all; omega))
    refine w_skip ?_
    refine w_seq ?_
    refine w_block ?_
    refine w_seq ?_
    refine w_region ?_
    refine rw_t 8 rfl rfl rfl (do_indexA (out := [_, _]) rfl rfl (by decide) rfl ?_)
    refine rw_t 4 rfl rfl rfl (n_alloc (n := 4) rfl ?_)
    refine rw_u rfl rfl (n_store_whole rfl rfl rfl rfl rfl rfl ?_)
    refine rw_nil ?_
    refine w_seq ?_
    refine w_region ?_
    refine rw_t 9 rfl rfl rfl (do_fieldaddr rfl ?_)
    refine rw_t 10 rfl rfl rfl (do_load_box rfl rfl rfl ?_)
    refine rw_t 11 rfl rfl rfl (n_load_boxagg [_, _, _, _] rfl rfl (Nat.le_of_ble_eq_true rfl) rfl ?_)
    refine rw_t 12 rfl rfl rfl (do_callR (X' := .val (.bool true)) rfl rfl (t_rule2 (n := n) (h)) [0] ⟨.inr ⟨_, rfl, srv⟩, trivial⟩ rfl rfl rfl ?_)
    refine rw_t 13 rfl rfl rfl (do_not rfl ?_)
    refine rw_nil ?_
    refine w_cond rfl (fun hc4 => ?_) (fun hc4 => ?_)
    · exfalso; first | (cases hc4; done) | exact (hc4 trivial) | (try simp only [bs] at hc4; first | omega | (simp_all; done) | (simp_all; omega))
    refine w_skip ?_
    refine w_region ?_
    refine rw_t 16 rfl rfl rfl (do_add rfl rfl (by omega) ?_)
    refine rw_t 6 rfl rfl rfl (do_move rfl ?_)
    refine rw_nil ?_
    refine ⟨2, [0, 1, 2, 3], by dsimp only; omega, by omega, ⟨shR rfl, shR rfl, shR rfl, shR rfl, trivial⟩, rfl, pre_ok rfl, ⟨⟨_, rfl, rfl⟩, ⟨_, rfl, rfl⟩, ⟨_, rfl, rfl⟩, trivial⟩⟩
  · refine w_seq ?_
    refine w_region ?_
    refine rw_t 7 rfl rfl rfl (do_bin rfl rfl rfl ?_)
    refine rw_nil ?_
    refine w_seq ?_
    refine w_cond rfl (fun hc5 => ?_) (fun hc5 => ?_)
    rotate_left
    · exfalso; first | (cases hc5; done) | exact (hc5 trivial) | (try simp only [bs] at hc5; first | omega | (simp_all; done) | (simp_all; omega))
    refine w_skip ?_
    refine w_seq ?_
    refine w_block ?_
    refine w_seq ?_
    refine w_region ?_
    refine rw_t 8 rfl rfl rfl (do_indexA (out := [_, _]) rfl rfl (by decide) rfl ?_)
    refine rw_t 4 rfl rfl rfl (n_alloc (n := 4) rfl ?_)
    refine rw_u rfl rfl (n_store_whole rfl rfl rfl rfl rfl rfl ?_)
    refine rw_nil ?_
    refine w_seq ?_
    refine w_region ?_
    refine rw_t 9 rfl rfl rfl (do_fieldaddr rfl ?_)
    refine rw_t 10 rfl rfl rfl (do_load_box rfl rfl rfl ?_)
    refine rw_t 11 rfl rfl rfl (n_load_boxagg [_, _, _, _] rfl rfl (Nat.le_of_ble_eq_true rfl) rfl ?_)
    refine rw_t 12 rfl rfl rfl (do_callR (X' := .val (.bool true)) rfl rfl (t_rule3 (n := n) (h)) [0] ⟨.inr ⟨_, rfl, srv⟩, trivial⟩ rfl rfl rfl ?_)
    refine rw_t 13 rfl rfl rfl (do_not rfl ?_)
    refine rw_nil ?_
    refine w_cond rfl (fun hc6 => ?_) (fun hc6 => ?_)
    · exfalso; first | (cases hc6; done) | exact (hc6 trivial) | (try simp only [bs] at hc6; first | omega | (simp_all; done) | (simp_all; omega))
    refine w_skip ?_
    refine w_region ?_
    refine rw_t 16 rfl rfl rfl (do_add rfl rfl (by omega) ?_)
    refine rw_t 6 rfl rfl rfl (do_move rfl ?_)
    refine rw_nil ?_
    refine ⟨3, [0, 1, 2, 3], by dsimp only; omega, by omega, ⟨shR rfl, shR rfl, shR rfl, shR rfl, trivial⟩, rfl, pre_ok rfl, ⟨⟨_, rfl, rfl⟩, ⟨_, rfl, rfl⟩, ⟨_, rfl, rfl⟩, trivial⟩⟩
  · refine w_seq ?_
    refine w_region ?_
    refine rw_t 7 rfl rfl rfl (do_bin rfl rfl rfl ?_)
    refine rw_nil ?_
    refine w_seq ?_
    refine w_cond rfl (fun hc7 => ?_) (fun hc7 => ?_)
    rotate_left
    · exfalso; first | (cases hc7; done) | exact (hc7 trivial) | (try simp only [bs] at hc7; first | omega | (simp_all; done) | (simp_all; omega))
    refine w_skip ?_
    refine w_seq ?_
    refine w_block ?_
    refine w_seq ?_
    refine w_region ?_
    refine rw_t 8 rfl rfl rfl (do_indexA (out := [_, _]) rfl rfl (by decide) rfl ?_)
    refine rw_t 4 rfl rfl rfl (n_alloc (n := 4) rfl ?_)
    refine rw_u rfl rfl (n_store_whole rfl rfl rfl rfl rfl rfl ?_)
    refine rw_nil ?_
    refine w_seq ?_
    refine w_region ?_
    refine rw_t 9 rfl rfl rfl (do_fieldaddr rfl ?_)
    refine rw_t 10 rfl rfl rfl (do_load_box rfl rfl rfl ?_)
    refine rw_t 11 rfl rfl rfl (n_load_boxagg [_, _, _, _] rfl rfl (Nat.le_of_ble_eq_true rfl) rfl ?_)
    refine rw_t 12 rfl rfl rfl (n_callW (X' := .val (.bool true)) (H' := [SO.arcs false n.arcs, .box [.val (.int .i64 n.N), .val (.int .i64 n.S), .val (.int .i64 n.T), .slc 0 0 n.arcs.length none], .box [.func 96 [] []], .box [.func 97 [] []], .box [.func 101 [] [.ptr 2 0 0], .val (.int .i64 13)]]) rfl rfl (t_of14 (n := n) (h)) [0, 2] ⟨.inr ⟨_, rfl, srv⟩, shR rfl, trivial⟩ rfl rfl ⟨fun h => (by cases h), ⟨fun h => .inl rfl, (fun y hy => by simp at hy)⟩⟩ rfl rfl ?_)
    refine rw_t 13 rfl rfl rfl (do_not rfl ?_)
    refine rw_nil ?_
    refine w_cond rfl (fun hc8 => ?_) (fun hc8 => ?_)
    · exfalso; first | (cases hc8; done) | exact (hc8 trivial) | (try simp only [bs] at hc8; first | omega | (simp_all; done) | (simp_all; omega))
    refine w_skip ?_
    refine w_region ?_
    refine rw_t 16 rfl rfl rfl (do_add rfl rfl (by omega) ?_)
    refine rw_t 6 rfl rfl rfl (do_move rfl ?_)
    refine rw_nil ?_
    refine ⟨4, [0, 1, 2, 3], by dsimp only; omega, by omega, ⟨shR rfl, shR rfl, shR rfl, shR rfl, trivial⟩, rfl, pre_ok rfl, ⟨⟨_, rfl, rfl⟩, ⟨_, rfl, rfl⟩, ⟨_, rfl, rfl⟩, trivial⟩⟩
  · refine w_seq ?_
    refine w_region ?_
    refine rw_t 7 rfl rfl rfl (do_bin rfl rfl rfl ?_)
    refine rw_nil ?_
    refine w_seq ?_
    refine w_cond rfl (fun hc9 => ?_) (fun hc9 => ?_)
    rotate_left
    · exfalso; first | (cases hc9; done) | exact (hc9 trivial) | (try simp only [bs] at hc9; first | omega | (simp_all; done) | (simp_all; omega))
    refine w_skip ?_
    refine w_seq ?_
    refine w_block ?_
    refine w_seq ?_
    refine w_region ?_
    refine rw_t 8 rfl rfl rfl (do_indexA (out := [_, _]) rfl rfl (by decide) rfl ?_)
    refine rw_t 4 rfl rfl rfl (n_alloc (n := 4) rfl ?_)
    refine rw_u rfl rfl (n_store_whole rfl rfl rfl rfl rfl rfl ?_)
    refine rw_nil ?_
    refine w_seq ?_
    refine w_region ?_
    refine rw_t 9 rfl rfl rfl (do_fieldaddr rfl ?_)
    refine rw_t 10 rfl rfl rfl (do_load_box rfl rfl rfl ?_)
    refine rw_t 11 rfl rfl rfl (n_load_boxagg [_, _, _, _] rfl rfl (Nat.le_of_ble_eq_true rfl) rfl ?_)
    refine rw_t 12 rfl rfl rfl (n_callW (X' := .val (.bool true)) (H' := [SO.arcs false n.arcs, .box [.val (.int .i64 n.N), .val (.int .i64 n.S), .val (.int .i64 n.T), .slc 0 0 n.arcs.length none], .box [.func 96 [] []], .box [.func 97 [] []], .box [.func 101 [] [.ptr 3 0 0], .val (.int .i64 14)]]) rfl rfl (t_of15 (n := n) (h)) [0, 3] ⟨.inr ⟨_, rfl, srv⟩, shR rfl, trivial⟩ rfl rfl ⟨fun h => (by cases h), ⟨fun h => .inl rfl, (fun y hy => by simp at hy)⟩⟩ rfl rfl ?_)
    refine rw_t 13 rfl rfl rfl (do_not rfl ?_)
    refine rw_nil ?_
    refine w_cond rfl (fun hc10 => ?_) (fun hc10 => ?_)
    · exfalso; first | (cases hc10; done) | exact (hc10 trivial) | (try simp only [bs] at hc10; first | omega | (simp_all; done) | (simp_all; omega))
    refine w_skip ?_
    refine w_region ?_
    refine rw_t 16 rfl rfl rfl (do_add rfl rfl (by omega) ?_)
    refine rw_t 6 rfl rfl rfl (do_move rfl ?_)
    refine rw_nil ?_
    refine ⟨5, [0, 1, 2, 3], by dsimp only; omega, by omega, ⟨shR rfl, shR rfl, shR rfl, shR rfl, trivial⟩, rfl, pre_ok rfl, ⟨⟨_, rfl, rfl⟩, ⟨_, rfl, rfl⟩, ⟨_, rfl, rfl⟩, trivial⟩⟩
  · refine w_seq ?_
    refine w_region ?_
    refine rw_t 7 rfl rfl rfl (do_bin rfl rfl rfl ?_)
    refine rw_nil ?_
    refine w_seq ?_
    refine w_cond rfl (fun hc11 => ?_) (fun hc11 => ?_)
    rotate_left
    · exfalso; first | (cases hc11; done) | exact (hc11 trivial) | (try simp only [bs] at hc11; first | omega | (simp_all; done) | (simp_all; omega))
    refine w_skip ?_
    refine w_seq ?_
    refine w_block ?_
    refine w_seq ?_
    refine w_region ?_
    refine rw_t 8 rfl rfl rfl (do_indexA (out := [_, _]) rfl rfl (by decide) rfl ?_)
    refine rw_t 4 rfl rfl rfl (n_alloc (n := 4) rfl ?_)
    refine rw_u rfl rfl (n_store_whole rfl rfl rfl rfl rfl rfl ?_)
    refine rw_nil ?_
    refine w_seq ?_
    refine w_region ?_
    refine rw_t 9 rfl rfl rfl (do_fieldaddr rfl ?_)
    refine rw_t 10 rfl rfl rfl (do_load_box rfl rfl rfl ?_)
    refine rw_t 11 rfl rfl rfl (n_load_boxagg [_, _, _, _] rfl rfl (Nat.le_of_ble_eq_true rfl) rfl ?_)
    refine rw_t 12 rfl rfl rfl (do_callR (X' := .val (.bool true)) rfl rfl (t_rule6 (n := n) (h)) [0] ⟨.inr ⟨_, rfl, srv⟩, trivial⟩ rfl rfl rfl ?_)
    refine rw_t 13 rfl rfl rfl (do_not rfl ?_)
    refine rw_nil ?_
    refine w_cond rfl (fun hc12 => ?_) (fun hc12 => ?_)
    · exfalso; first | (cases hc12; done) | exact (hc12 trivial) | (try simp only [bs] at hc12; first | omega | (simp_all; done) | (simp_all; omega))
    refine w_skip ?_
    refine w_region ?_
    refine rw_t 16 rfl rfl rfl (do_add rfl rfl (by omega) ?_)
    refine rw_t 6 rfl rfl rfl (do_move rfl ?_)
    refine rw_nil ?_
    refine ⟨6, [0, 1, 2, 3], by dsimp only; omega, by omega, ⟨shR rfl, shR rfl, shR rfl, shR rfl, trivial⟩, rfl, pre_ok rfl, ⟨⟨_, rfl, rfl⟩, ⟨_, rfl, rfl⟩, ⟨_, rfl, rfl⟩, trivial⟩⟩
  · refine w_seq ?_
    refine w_region ?_
    refine rw_t 7 rfl rfl rfl (do_bin rfl rfl rfl ?_)
    refine rw_nil ?_
    refine w_seq ?_
    refine w_cond rfl (fun hc13 => ?_) (fun hc13 => ?_)
    · exfalso; first | (cases hc13; done) | exact (hc13 trivial) | (try simp only [bs] at hc13; first | omega | (simp_all; done) | (simp_all; omega))
    refine w_exit ?_
    refine w_seq ?_
    refine w_region ?_
    refine rw_t 2 rfl rfl rfl (do_assign rfl ?_)
    refine rw_nil ?_
    refine w_ret ?_
    exact ret_eq (.inl rfl) (.cons (res_tmp rfl) .nil) [0] (rfl) ⟨shR rfl, trivial⟩ rfl (pre_ok rfl)
end Go.Proofs
