/- PreWrong answers true for every input that can be read, and leaves the input as it was. Part 5. -/
import Derived.Test.YtmmjpjhhbpehcaaW4
set_option linter.unusedVariables false
set_option linter.unusedSimpArgs false
set_option linter.unusedVariables false
set_option linter.unusedSimpArgs false
namespace Go.Proofs
open Go Go.Sx Go.RowKit
instance : TyAgg Try.prog 114 12 := ⟨.inr ⟨6, 113, u114⟩, ⟨_, i114, rfl⟩⟩
instance : TyBuildA Try.prog 114 [(0, 2), (2, 2), (4, 2), (6, 2), (8, 2), (10, 2)] [Value.nilFunc, (Value.int IntKind.i64 0), Value.nilFunc, (Value.int IntKind.i64 0), Value.nilFunc, (Value.int IntKind.i64 0), Value.nilFunc, (Value.int IntKind.i64 0), Value.nilFunc, (Value.int IntKind.i64 0), Value.nilFunc, (Value.int IntKind.i64 0)] :=
  ⟨fun w => ⟨6, 113, 2, u114, run_zero i114 rfl, run_size i113, fun i x h => by
    match i, h with
    | 0, h => simp at h; exact h.symm
    | 1, h => simp at h; exact h.symm
    | 2, h => simp at h; exact h.symm
    | 3, h => simp at h; exact h.symm
    | 4, h => simp at h; exact h.symm
    | 5, h => simp at h; exact h.symm
    | k + 6, h => simp at h⟩⟩
instance : TyIdxA Try.prog 114 6 113 2 := ⟨u114, .inl ⟨_, u113⟩, _, i113, rfl⟩
theorem take_capSum {l : List Arc} {i : Nat} (h : i < l.length) : capSum (l.take (i + 1)) = capSum (l.take i) + (l.getD i Arc.none).cap := by
  rw [take_snoc Arc.none h, capSum_append]; simp [capSum]
-- f94 "acequia/net.vertex"
set_option maxHeartbeats 8000000 in
set_option synthInstance.maxHeartbeats 400000 in
set_option synthInstance.maxSize 2000 in
theorem t_pvertex (n : Net) (v : Int) (h : 0 ≤ v ∧ v < n.N) : Tri Try.prog 94 [.agg [.val (.int .i64 n.N), .val (.int .i64 n.S), .val (.int .i64 n.T), .slc 0 0 n.arcs.length none], .val (.int .i64 v)] [SO.arcs false n.arcs] (fun s H => s = .val (.bool true) ∧ H = [SO.arcs false n.arcs]) := by
  refine tri_of_w (fn := Try.f94) Try.func94 rfl (by simp [Try.f94]) ?_
  intro ρ w hρ
  refine w_seq ?_
  -- region 0
  refine w_region ?_
  refine rw_t 2 rfl rfl rfl (n_box_agg (n := 1) rfl rfl ?_)
  refine rw_t 4 rfl rfl rfl (do_assign rfl ?_)
  refine rw_nil ?_
  refine w_env [(1, .val (.int .i64 v)), (2, .ptr 1 0 0)] ⟨⟨_, rfl, rfl⟩, ⟨_, rfl, rfl⟩, trivial⟩ ?_
  refine w_seqB 4 ((v ≥ 0 ∧ v < n.N)) ?_ ?_
  · -- region 1
    refine w_region ?_
    refine rw_t 5 rfl rfl rfl (do_move rfl ?_)
    refine rw_t 6 rfl rfl rfl (do_bin rfl rfl rfl ?_)
    refine rw_t 7 rfl rfl rfl (do_move rfl ?_)
    refine rw_case 7 rfl (fun g1 => ?_) (fun g1 => ?_)
    · have kg1 := g1
      try simp only [bs] at kg1
      refine rw_gt 8 2 7 true rfl rfl rfl rfl rfl rfl g1 (do_move rfl ?_)
      refine rw_gt 9 2 7 true rfl rfl rfl rfl rfl rfl g1 (do_fieldaddr rfl ?_)
      refine rw_gt 10 2 7 true rfl rfl rfl rfl rfl rfl g1 (do_load_box rfl rfl rfl ?_)
      refine rw_gt 11 2 7 true rfl rfl rfl rfl rfl rfl g1 (do_bin rfl rfl rfl ?_)
      refine rw_t 12 rfl rfl rfl (do_pick_t rfl g1 rfl ?_)
      refine rw_t 4 rfl rfl rfl (do_assign rfl ?_)
      refine rw_nil ?_
      refine ⟨rfl, ⟨_, rfl, by first | (simp; done) | (simp only [bs]; omega) | (simp [*]; done) | (simp; omega) | (constructor <;> intro h <;> simp_all <;> omega)⟩, ?_⟩
      repeat (refine ⟨⟨_, rfl, rfl⟩, ?_⟩)
      exact trivial
    · have kg1 := g1
      try simp only [bs] at kg1
      refine rw_gf 8 2 7 true rfl rfl rfl rfl rfl rfl (by rw [g1]; decide) ?_
      refine rw_gf 9 2 7 true rfl rfl rfl rfl rfl rfl (by rw [g1]; decide) ?_
      refine rw_gf 10 2 7 true rfl rfl rfl rfl rfl rfl (by rw [g1]; decide) ?_
      refine rw_gf 11 2 7 true rfl rfl rfl rfl rfl rfl (by rw [g1]; decide) ?_
      refine rw_t 12 rfl rfl rfl (do_pick_f rfl g1 rfl ?_)
      refine rw_t 4 rfl rfl rfl (do_assign rfl ?_)
      refine rw_nil ?_
      refine ⟨rfl, ⟨_, rfl, by first | (simp; done) | (simp only [bs]; omega) | (simp [*]; done) | (simp; omega) | (constructor <;> intro h <;> simp_all <;> omega)⟩, ?_⟩
      repeat (refine ⟨⟨_, rfl, rfl⟩, ?_⟩)
      exact trivial
  intro b1 hb1
  refine w_ret ?_
  exact ret_eq (.inl rfl) (.cons (res_tmp rfl) .nil) [0] (Eq.symm (bool_congr ((hb1.2 (by omega)).symm))) ⟨.inr ⟨_, rfl, .inl rfl⟩, trivial⟩ rfl (pre_ok rfl)
-- f91 "acequia/net.rules$1"
set_option maxHeartbeats 8000000 in
set_option synthInstance.maxHeartbeats 400000 in
set_option synthInstance.maxSize 2000 in
theorem t_rule1 (n : Net) (h : NetOK n) : Tri Try.prog 91 [.agg [.val (.int .i64 n.N), .val (.int .i64 n.S), .val (.int .i64 n.T), .slc 0 0 n.arcs.length none]] [SO.arcs false n.arcs] (fun s H => s = .val (.bool true) ∧ H = [SO.arcs false n.arcs]) := by
  refine tri_of_w (fn := Try.f91) Try.func91 rfl (by simp [Try.f91]) ?_
  intro ρ w hρ
  refine w_seq ?_
  have h1 := h.lo
  have h2 := h.hi
  -- region 0
  refine w_region ?_
  refine rw_t 1 rfl rfl rfl (n_box_agg (n := 1) rfl rfl ?_)
  refine rw_t 2 rfl rfl rfl (do_assign rfl ?_)
  refine rw_nil ?_
  refine w_env [(1, .ptr 1 0 0)] ⟨⟨_, rfl, rfl⟩, trivial⟩ ?_
  refine w_seqB 2 ((n.N ≥ 2 ∧ n.N ≤ 4096)) ?_ ?_
  · -- region 1
    refine w_region ?_
    refine rw_t 3 rfl rfl rfl (do_fieldaddr rfl ?_)
    refine rw_t 4 rfl rfl rfl (do_load_box rfl rfl rfl ?_)
    refine rw_t 5 rfl rfl rfl (do_bin rfl rfl rfl ?_)
    refine rw_t 6 rfl rfl rfl (do_move rfl ?_)
    refine rw_case 6 rfl (fun g1 => ?_) (fun g1 => ?_)
    · have kg1 := g1
      try simp only [bs] at kg1
      refine rw_gt 7 3 6 true rfl rfl rfl rfl rfl rfl g1 (do_fieldaddr rfl ?_)
      refine rw_gt 8 3 6 true rfl rfl rfl rfl rfl rfl g1 (do_load_box rfl rfl rfl ?_)
      refine rw_gt 9 3 6 true rfl rfl rfl rfl rfl rfl g1 (do_bin rfl rfl rfl ?_)
      refine rw_t 10 rfl rfl rfl (do_pick_t rfl g1 rfl ?_)
      refine rw_t 2 rfl rfl rfl (do_assign rfl ?_)
      refine rw_nil ?_
      refine ⟨rfl, ⟨_, rfl, by first | (simp; done) | (simp only [bs]; omega) | (simp [*]; done) | (simp; omega) | (constructor <;> intro h <;> simp_all <;> omega)⟩, ?_⟩
      repeat (refine ⟨⟨_, rfl, rfl⟩, ?_⟩)
      exact trivial
    · have kg1 := g1
      try simp only [bs] at kg1
      refine rw_gf 7 3 6 true rfl rfl rfl rfl rfl rfl (by rw [g1]; decide) ?_
      refine rw_gf 8 3 6 true rfl rfl rfl rfl rfl rfl (by rw [g1]; decide) ?_
      refine rw_gf 9 3 6 true rfl rfl rfl rfl rfl rfl (by rw [g1]; decide) ?_
      refine rw_t 10 rfl rfl rfl (do_pick_f rfl g1 rfl ?_)
      refine rw_t 2 rfl rfl rfl (do_assign rfl ?_)
      refine rw_nil ?_
      refine ⟨rfl, ⟨_, rfl, by first | (simp; done) | (simp only [bs]; omega) | (simp [*]; done) | (simp; omega) | (constructor <;> intro h <;> simp_all <;> omega)⟩, ?_⟩
      repeat (refine ⟨⟨_, rfl, rfl⟩, ?_⟩)
      exact trivial
  intro b1 hb1
  refine w_ret ?_
  exact ret_eq (.inl rfl) (.cons (res_tmp rfl) .nil) [0] (Eq.symm (bool_congr ((hb1.2 (by omega)).symm))) ⟨.inr ⟨_, rfl, .inl rfl⟩, trivial⟩ rfl (pre_ok rfl)
-- f92 "acequia/net.rules$2"
set_option maxHeartbeats 8000000 in
set_option synthInstance.maxHeartbeats 400000 in
set_option synthInstance.maxSize 2000 in
theorem t_rule2 (n : Net) (h : NetOK n) : Tri Try.prog 92 [.agg [.val (.int .i64 n.N), .val (.int .i64 n.S), .val (.int .i64 n.T), .slc 0 0 n.arcs.length none]] [SO.arcs false n.arcs] (fun s H => s = .val (.bool true) ∧ H = [SO.arcs false n.arcs]) := by
  refine tri_of_w (fn := Try.f92) Try.func92 rfl (by simp [Try.f92]) ?_
  intro ρ w hρ
  refine w_seq ?_
  have h1 := h.many
  -- region 0
  refine w_region ?_
  refine rw_t 1 rfl rfl rfl (n_box_agg (n := 1) rfl rfl ?_)
  refine rw_t 2 rfl rfl rfl (do_assign rfl ?_)
  refine rw_nil ?_
  refine w_seq ?_
  -- region 1
  refine w_region ?_
  refine rw_t 3 rfl rfl rfl (do_fieldaddr rfl ?_)
  refine rw_t 4 rfl rfl rfl (do_load_box rfl rfl rfl ?_)
  refine rw_t 5 rfl rfl rfl (do_len rfl ?_)
  refine rw_t 6 rfl rfl rfl (do_bin rfl rfl rfl ?_)
  refine rw_t 2 rfl rfl rfl (do_assign rfl ?_)
  refine rw_nil ?_
  refine w_ret ?_
  exact ret_eq (.inl rfl) (.cons (res_tmp rfl) .nil) [0] (Eq.symm (bool_congr ((decide_eq_true (by omega)).symm))) ⟨.inr ⟨_, rfl, .inl rfl⟩, trivial⟩ rfl (pre_ok rfl)
-- f93 "acequia/net.rules$3"
set_option maxHeartbeats 8000000 in
set_option synthInstance.maxHeartbeats 400000 in
set_option synthInstance.maxSize 2000 in
theorem t_rule3 (n : Net) (h : NetOK n) : Tri Try.prog 93 [.agg [.val (.int .i64 n.N), .val (.int .i64 n.S), .val (.int .i64 n.T), .slc 0 0 n.arcs.length none]] [SO.arcs false n.arcs] (fun s H => s = .val (.bool true) ∧ H = [SO.arcs false n.arcs]) := by
  refine tri_of_w (fn := Try.f93) Try.func93 rfl (by simp [Try.f93]) ?_
  intro ρ w hρ
  refine w_seq ?_
  have h1 := h.s
  have h2 := h.t
  have h3 := h.st
  -- region 0
  refine w_region ?_
  refine rw_t 1 rfl rfl rfl (n_box_agg (n := 1) rfl rfl ?_)
  refine rw_t 2 rfl rfl rfl (do_assign rfl ?_)
  refine rw_nil ?_
  refine w_seq ?_
  -- region 1
  refine w_region ?_
  refine rw_t 3 rfl rfl rfl (n_load_boxagg [_, _, _, _] rfl rfl (Nat.le_of_ble_eq_true rfl) rfl ?_)
  refine rw_t 4 rfl rfl rfl (do_fieldaddr rfl ?_)
  refine rw_t 5 rfl rfl rfl (do_load_box rfl rfl rfl ?_)
  refine rw_t 6 rfl rfl rfl (do_callR (X' := .val (.bool true)) rfl rfl (t_pvertex (n := n) (v := n.S) (by omega)) [0] ⟨.inr ⟨_, rfl, srv⟩, trivial⟩ rfl rfl rfl ?_)
  refine rw_t 7 rfl rfl rfl (do_move rfl ?_)
  refine rw_gt 8 4 7 true rfl rfl rfl rfl rfl rfl rfl (n_load_boxagg [_, _, _, _] rfl rfl (Nat.le_of_ble_eq_true rfl) rfl ?_)
  refine rw_gt 9 4 7 true rfl rfl rfl rfl rfl rfl rfl (do_fieldaddr rfl ?_)
  refine rw_gt 10 4 7 true rfl rfl rfl rfl rfl rfl rfl (do_load_box rfl rfl rfl ?_)
  refine rw_gt 11 4 7 true rfl rfl rfl rfl rfl rfl rfl (do_callR (X' := .val (.bool true)) rfl rfl (t_pvertex (n := n) (v := n.T) (by omega)) [0] ⟨.inr ⟨_, rfl, srv⟩, trivial⟩ rfl rfl rfl ?_)
  refine rw_t 12 rfl rfl rfl (do_pick_t rfl rfl rfl ?_)
  refine rw_t 13 rfl rfl rfl (do_move rfl ?_)
  refine rw_gt 14 10 13 true rfl rfl rfl rfl rfl rfl rfl (do_fieldaddr rfl ?_)
  refine rw_gt 15 10 13 true rfl rfl rfl rfl rfl rfl rfl (do_load_box rfl rfl rfl ?_)
  refine rw_gt 16 10 13 true rfl rfl rfl rfl rfl rfl rfl (do_fieldaddr rfl ?_)
  refine rw_gt 17 10 13 true rfl rfl rfl rfl rfl rfl rfl (do_load_box rfl rfl rfl ?_)
  refine rw_gt 18 10 13 true rfl rfl rfl rfl rfl rfl rfl (do_bin rfl rfl rfl ?_)
  refine rw_t 19 rfl rfl rfl (do_pick_t rfl rfl rfl ?_)
  refine rw_t 2 rfl rfl rfl (do_assign rfl ?_)
  refine rw_nil ?_
  refine w_ret ?_
  exact ret_eq (.inl rfl) (.cons (res_tmp rfl) .nil) [0] (Eq.symm (bool_congr ((by simpa using h3)))) ⟨.inr ⟨_, rfl, .inl rfl⟩, trivial⟩ rfl (pre_ok rfl)
-- f96 "acequia/net.rules$4"
set_option maxHeartbeats 8000000 in
set_option synthInstance.maxHeartbeats 400000 in
set_option synthInstance.maxSize 2000 in
theorem t_rule4 (n : Net) (h : NetOK n) (a : Arc) (ha : a ∈ n.arcs) : Tri Try.prog 96 [.agg [.val (.int .i64 n.N), .val (.int .i64 n.S), .val (.int .i64 n.T), .slc 0 0 n.arcs.length none], .agg [.val (.int .i64 a.frm), .val (.int .i64 a.to), .val (.int .i64 a.cap)]] [SO.arcs false n.arcs] (fun s H => s = .val (.bool true) ∧ H = [SO.arcs false n.arcs]) := by
  refine tri_of_w (fn := Try.f96) Try.func96 rfl (by simp [Try.f96]) ?_
  intro ρ w hρ
  refine w_seq ?_
  have he := h.ends a ha
  -- region 0
  refine w_region ?_
  refine rw_t 2 rfl rfl rfl (n_box_agg (n := 1) rfl rfl ?_)
  refine rw_t 3 rfl rfl rfl (n_box_agg (n := 2) rfl rfl ?_)
  refine rw_t 4 rfl rfl rfl (do_assign rfl ?_)
  refine rw_nil ?_
  refine w_seq ?_
  -- region 1
  refine w_region ?_
  refine rw_t 5 rfl rfl rfl (n_load_boxagg [_, _, _, _] rfl rfl (Nat.le_of_ble_eq_true rfl) rfl ?_)
  refine rw_t 6 rfl rfl rfl (do_fieldaddr rfl ?_)
  refine rw_t 7 rfl rfl rfl (do_load_box rfl rfl rfl ?_)
  refine rw_t 8 rfl rfl rfl (do_callR (X' := .val (.bool true)) rfl rfl (t_pvertex (n := n) (v := a.frm) (by omega)) [0] ⟨.inr ⟨_, rfl, srv⟩, trivial⟩ rfl rfl rfl ?_)
  refine rw_t 9 rfl rfl rfl (do_move rfl ?_)
  refine rw_gt 10 4 9 true rfl rfl rfl rfl rfl rfl rfl (n_load_boxagg [_, _, _, _] rfl rfl (Nat.le_of_ble_eq_true rfl) rfl ?_)
  refine rw_gt 11 4 9 true rfl rfl rfl rfl rfl rfl rfl (do_fieldaddr rfl ?_)
  refine rw_gt 12 4 9 true rfl rfl rfl rfl rfl rfl rfl (do_load_box rfl rfl rfl ?_)
  refine rw_gt 13 4 9 true rfl rfl rfl rfl rfl rfl rfl (do_callR (X' := .val (.bool true)) rfl rfl (t_pvertex (n := n) (v := a.to) (by omega)) [0] ⟨.inr ⟨_, rfl, srv⟩, trivial⟩ rfl rfl rfl ?_)
  refine rw_t 14 rfl rfl rfl (do_pick_t rfl rfl rfl ?_)
  refine rw_t 4 rfl rfl rfl (do_assign rfl ?_)
  refine rw_nil ?_
  refine w_ret ?_
  exact ret_eq (.inl rfl) (.cons (res_tmp rfl) .nil) [0] (rfl) ⟨.inr ⟨_, rfl, .inl rfl⟩, trivial⟩ rfl (pre_ok rfl)
-- f97 "acequia/net.rules$5"
set_option maxHeartbeats 8000000 in
set_option synthInstance.maxHeartbeats 400000 in
set_option synthInstance.maxSize 2000 in
theorem t_rule5 (n : Net) (h : NetOK n) (a : Arc) (ha : a ∈ n.arcs) : Tri Try.prog 97 [.agg [.val (.int .i64 n.N), .val (.int .i64 n.S), .val (.int .i64 n.T), .slc 0 0 n.arcs.length none], .agg [.val (.int .i64 a.frm), .val (.int .i64 a.to), .val (.int .i64 a.cap)]] [SO.arcs false n.arcs] (fun s H => s = .val (.bool true) ∧ H = [SO.arcs false n.arcs]) := by
  refine tri_of_w (fn := Try.f97) Try.func97 rfl (by simp [Try.f97]) ?_
  intro ρ w hρ
  refine w_seq ?_
  have he := h.ends a ha
  -- region 0
  refine w_region ?_
  refine rw_t 2 rfl rfl rfl (n_box_agg (n := 1) rfl rfl ?_)
  refine rw_t 3 rfl rfl rfl (n_box_agg (n := 2) rfl rfl ?_)
  refine rw_t 4 rfl rfl rfl (do_assign rfl ?_)
  refine rw_nil ?_
  refine w_seq ?_
  -- region 1
  refine w_region ?_
  refine rw_t 5 rfl rfl rfl (do_fieldaddr rfl ?_)
  refine rw_t 6 rfl rfl rfl (do_load_box rfl rfl rfl ?_)
  refine rw_t 7 rfl rfl rfl (do_bin rfl rfl rfl ?_)
  refine rw_t 4 rfl rfl rfl (do_assign rfl ?_)
  refine rw_nil ?_
  refine w_ret ?_
  exact ret_eq (.inl rfl) (.cons (res_tmp rfl) .nil) [0] (Eq.symm (bool_congr ((decide_eq_true (by omega)).symm))) ⟨.inr ⟨_, rfl, .inl rfl⟩, trivial⟩ rfl (pre_ok rfl)
-- f99 "acequia/net.Sum"
set_option maxHeartbeats 8000000 in
set_option synthInstance.maxHeartbeats 400000 in
set_option synthInstance.maxSize 2000 in
theorem t_pSum (n : Net) (h : NetOK n) : Tri Try.prog 99 [.agg [.val (.int .i64 n.N), .val (.int .i64 n.S), .val (.int .i64 n.T), .slc 0 0 n.arcs.length none]] [SO.arcs false n.arcs] (fun s H => s = .tup [.val (.int .i64 (capSum n.arcs)), .val (.bool true)] ∧ H = [SO.arcs false n.arcs]) := by
  refine tri_of_w (fn := Try.f99) Try.func99 rfl (by simp [Try.f99]) ?_
  intro ρ w hρ
  refine w_seq ?_
  have hm := h.many
  -- region 0
  refine w_region ?_
  refine rw_t 1 rfl rfl rfl (n_box_agg (n := 1) rfl rfl ?_)
  refine rw_t 2 rfl rfl rfl (do_assign rfl ?_)
  refine rw_t 3 rfl rfl rfl (do_assign rfl ?_)
  refine rw_nil ?_
  refine w_seq ?_
  -- region 1
  refine w_region ?_
  refine rw_t 4 rfl rfl rfl (do_assign rfl ?_)
  refine rw_nil ?_
  refine w_seq ?_
  refine w_seq ?_
  -- region 2
  refine w_region ?_
  refine rw_t 7 rfl rfl rfl (do_fieldaddr rfl ?_)
  refine rw_t 8 rfl rfl rfl (do_load_box rfl rfl rfl ?_)
  refine rw_t 9 rfl rfl rfl (do_len rfl ?_)
  refine rw_t 10 rfl rfl rfl (do_move rfl ?_)
  refine rw_nil ?_
  refine w_block ?_
  refine w_loopS (ι := Nat) (fun i => [(4, .val (.int .i64 (4611686018427387904 - capSum (n.arcs.take i)))), (8, .slc 0 0 n.arcs.length none), (9, .val (.int .i64 ((n.arcs.length : Nat) : Int))), (10, .val (.int .i64 ((i : Nat) : Int)))]) (fun i => [SO.arcs false n.arcs, .box [.val (.int .i64 n.N), .val (.int .i64 n.S), .val (.int .i64 n.T), .slc 0 0 n.arcs.length none]]) (fun i => n.arcs.length - i) (fun i => i ≤ n.arcs.length) (0) [0, 1] (by simp) ⟨.inr ⟨_, rfl, .inl rfl⟩, .inr ⟨_, rfl, .inl rfl⟩, trivial⟩ rfl (pre_ok rfl) hρ ⟨⟨_, rfl, Eq.symm (val_congr (by simp [capSum]))⟩, ⟨_, rfl, rfl⟩, ⟨_, rfl, rfl⟩, ⟨_, rfl, rfl⟩, trivial⟩ ?_
  intro i hi
  refine w_seq ?_
  -- region 3
  refine w_region ?_
  refine rw_t 11 rfl rfl rfl (do_bin rfl rfl rfl ?_)
  refine rw_nil ?_
  refine w_seq ?_
  refine w_cond rfl (fun hc1 => ?_) (fun hc1 => ?_)
  all_goals try simp only [bs] at hc1
  rotate_left
  · refine w_exit ?_ -- exit 0
    refine w_seq ?_
    have hi' : i = n.arcs.length := by omega
    subst hi'
    have hps : capSum (n.arcs.take n.arcs.length) = capSum n.arcs := by rw [List.take_length]
    have hs := h.sum
    have hs0 := h.part n.arcs.length
    -- region 9
    refine w_region ?_
    refine rw_t 28 rfl rfl rfl (do_move rfl ?_)
    refine rw_t 29 rfl rfl rfl (do_sub rfl rfl (by omega) ?_)
    refine rw_t 2 rfl rfl rfl (do_assign rfl ?_)
    refine rw_t 3 rfl rfl rfl (do_assign rfl ?_)
    refine rw_nil ?_
    refine w_ret ?_
    exact ret_eq (.inl rfl) (.cons (res_tmp rfl) (.cons (res_tmp rfl) .nil)) [0] (by rw [show (4611686018427387904 - (4611686018427387904 - capSum (n.arcs.take n.arcs.length))) = capSum n.arcs by omega]; rfl) ⟨.inr ⟨_, rfl, .inl rfl⟩, trivial⟩ rfl (pre_ok rfl)
  refine w_skip ?_
  refine w_seq ?_
  refine w_block ?_
  refine w_seq ?_
  -- region 4
  refine w_region ?_
  refine rw_t 12 rfl rfl rfl (do_ixn rfl rfl rfl (by first | omega | (simp only [ls] <;> omega)) ?_)
  refine rw_t 13 rfl rfl rfl (n_load_arragg [_, _, _] rfl rfl rfl (by first | omega | (simp only [ls] <;> omega)) rfl ?_)
  refine rw_t 6 rfl rfl rfl (n_alloc (n := 2) rfl ?_)
  refine rw_u rfl rfl (n_store_whole rfl rfl rfl rfl rfl rfl ?_)
  refine rw_nil ?_
  refine w_seq ?_
  have he := h.arc (show i < n.arcs.length by omega)
  have hp1 := h.part i
  have hp2 := h.part (i + 1)
  have hps := take_capSum (show i < n.arcs.length by omega)
  refine w_seqB 22 (((n.arcs.getD i Arc.none).cap < 0 ∨ (n.arcs.getD i Arc.none).cap > (4611686018427387904 - capSum (n.arcs.take i)))) ?_ ?_
  · -- region 5
    refine w_region ?_
    refine rw_t 14 rfl rfl rfl (do_fieldaddr rfl ?_)
    refine rw_t 15 rfl rfl rfl (do_load_box rfl rfl rfl ?_)
    refine rw_t 16 rfl rfl rfl (do_bin rfl rfl rfl ?_)
    refine rw_t 17 rfl rfl rfl (do_move rfl ?_)
    refine rw_case 17 rfl (fun g1 => ?_) (fun g1 => ?_)
    · have kg1 := g1
      try simp only [bs] at kg1
      refine rw_gf 18 3 17 false rfl rfl rfl rfl rfl rfl (by rw [g1]; decide) ?_
      refine rw_gf 19 3 17 false rfl rfl rfl rfl rfl rfl (by rw [g1]; decide) ?_
      refine rw_gf 20 3 17 false rfl rfl rfl rfl rfl rfl (by rw [g1]; decide) ?_
      refine rw_gf 21 3 17 false rfl rfl rfl rfl rfl rfl (by rw [g1]; decide) ?_
      refine rw_t 22 rfl rfl rfl (do_pick_t rfl g1 rfl ?_)
      refine rw_nil ?_
      refine ⟨rfl, ⟨_, rfl, by first | (simp; done) | (simp only [bs]; omega) | (simp [*]; done) | (simp; omega) | (constructor <;> intro h <;> simp_all <;> omega)⟩, ?_⟩
      repeat (refine ⟨⟨_, rfl, rfl⟩, ?_⟩)
      exact trivial
    · have kg1 := g1
      try simp only [bs] at kg1
      refine rw_gt 18 3 17 false rfl rfl rfl rfl rfl rfl g1 (do_fieldaddr rfl ?_)
      refine rw_gt 19 3 17 false rfl rfl rfl rfl rfl rfl g1 (do_load_box rfl rfl rfl ?_)
      refine rw_gt 20 3 17 false rfl rfl rfl rfl rfl rfl g1 (do_move rfl ?_)
      refine rw_gt 21 3 17 false rfl rfl rfl rfl rfl rfl g1 (do_bin rfl rfl rfl ?_)
      refine rw_t 22 rfl rfl rfl (do_pick_f rfl g1 rfl ?_)
      refine rw_nil ?_
      refine ⟨rfl, ⟨_, rfl, by first | (simp; done) | (simp only [bs]; omega) | (simp [*]; done) | (simp; omega) | (constructor <;> intro h <;> simp_all <;> omega)⟩, ?_⟩
      repeat (refine ⟨⟨_, rfl, rfl⟩, ?_⟩)
      exact trivial
  intro b1 hb1
  refine w_condP hb1 rfl (fun hc2 => ?_) (fun hc2 => ?_)
  · exfalso; omega
  refine w_skip ?_
  -- region 7
  refine w_region ?_
  refine rw_t 23 rfl rfl rfl (do_move rfl ?_)
  refine rw_t 24 rfl rfl rfl (do_fieldaddr rfl ?_)
  refine rw_t 25 rfl rfl rfl (do_load_box rfl rfl rfl ?_)
  refine rw_t 26 rfl rfl rfl (do_sub rfl rfl (by omega) ?_)
  refine rw_t 4 rfl rfl rfl (do_assign rfl ?_)
  refine rw_nil ?_
  -- region 8
  refine w_region ?_
  refine rw_t 27 rfl rfl rfl (do_add rfl rfl (by omega) ?_)
  refine rw_t 10 rfl rfl rfl (do_move rfl ?_)
  refine rw_nil ?_
  refine ⟨i + 1, [0, 1], by dsimp only; omega, by omega, ⟨.inr ⟨_, rfl, .inl rfl⟩, .inr ⟨_, rfl, .inl rfl⟩, trivial⟩, rfl, pre_ok rfl, ⟨⟨_, rfl, Eq.symm (val_congr (by omega))⟩, ⟨_, rfl, rfl⟩, ⟨_, rfl, rfl⟩, ⟨_, rfl, rfl⟩, trivial⟩⟩
-- f98 "acequia/net.rules$6"
set_option maxHeartbeats 8000000 in
set_option synthInstance.maxHeartbeats 400000 in
set_option synthInstance.maxSize 2000 in
theorem t_rule6 (n : Net) (h : NetOK n) : Tri Try.prog 98 [.agg [.val (.int .i64 n.N), .val (.int .i64 n.S), .val (.int .i64 n.T), .slc 0 0 n.arcs.length none]] [SO.arcs false n.arcs] (fun s H => s = .val (.bool true) ∧ H = [SO.arcs false n.arcs]) := by
  refine tri_of_w (fn := Try.f98) Try.func98 rfl (by simp [Try.f98]) ?_
  intro ρ w hρ
  refine w_seq ?_
  -- region 0
  refine w_region ?_
  refine rw_t 1 rfl rfl rfl (n_box_agg (n := 1) rfl rfl ?_)
  refine rw_t 2 rfl rfl rfl (do_assign rfl ?_)
  refine rw_nil ?_
  refine w_seq ?_
  -- region 1
  refine w_region ?_
  refine rw_t 6 rfl rfl rfl (n_load_boxagg [_, _, _, _] rfl rfl (Nat.le_of_ble_eq_true rfl) rfl ?_)
  refine rw_t 7 rfl rfl rfl (do_callR (X' := .tup [.val (.int .i64 (capSum n.arcs)), .val (.bool true)]) rfl rfl (t_pSum (n := n) (h)) [0] ⟨.inr ⟨_, rfl, srv⟩, trivial⟩ rfl rfl rfl ?_)
  refine rw_t 5 rfl rfl rfl (do_move rfl ?_)
  refine rw_t 8 rfl rfl rfl (do_extract rfl rfl ?_)
  refine rw_t 9 rfl rfl rfl (do_extract rfl rfl ?_)
  refine rw_t 3 rfl rfl rfl (do_assign rfl ?_)
  refine rw_t 4 rfl rfl rfl (do_assign rfl ?_)
  refine rw_nil ?_
  refine w_seq ?_
  -- region 2
  refine w_region ?_
  refine rw_t 10 rfl rfl rfl (do_move rfl ?_)
  refine rw_t 2 rfl rfl rfl (do_assign rfl ?_)
  refine rw_nil ?_
  refine w_ret ?_
  exact ret_eq (.inl rfl) (.cons (res_tmp rfl) .nil) [0] (rfl) ⟨.inr ⟨_, rfl, .inl rfl⟩, trivial⟩ rfl (pre_ok rfl)
-- f103 "acequia/net.of$1$1"
set_option maxHeartbeats 8000000 in
set_option synthInstance.maxHeartbeats 400000 in
set_option synthInstance.maxSize 2000 in
theorem t_so4 (n : Net) (h : NetOK n) (a : Arc) (ha : a ∈ n.arcs) : Tri Try.prog 103 [.agg [.val (.int .i64 a.frm), .val (.int .i64 a.to), .val (.int .i64 a.cap)], .ptr 1 0 0, .ptr 2 0 0] [SO.arcs false n.arcs, .box [.func 96 [] []], .box [.val (.int .i64 n.N), .val (.int .i64 n.S), .val (.int .i64 n.T), .slc 0 0 n.arcs.length none]] (fun s H => s = .val (.bool false) ∧ H = [SO.arcs false n.arcs, .box [.func 96 [] []], .box [.val (.int .i64 n.N), .val (.int .i64 n.S), .val (.int .i64 n.T), .slc 0 0 n.arcs.length none]]) := by
  refine tri_of_w (fn := Try.f103) Try.func103 rfl (by simp [Try.f103]) ?_
  intro ρ w hρ
  refine w_seq ?_
  -- region 0
  refine w_region ?_
  refine rw_t 3 rfl rfl rfl (n_box_agg (n := 3) rfl rfl ?_)
  refine rw_t 4 rfl rfl rfl (do_assign rfl ?_)
  refine rw_nil ?_
  refine w_seq ?_
  -- region 1
  refine w_region ?_
  refine rw_t 5 rfl rfl rfl (do_load_box rfl rfl rfl ?_)
  refine rw_t 6 rfl rfl rfl (n_load_boxagg [_, _, _, _] rfl rfl (Nat.le_of_ble_eq_true rfl) rfl ?_)
  refine rw_t 7 rfl rfl rfl (n_load_boxagg [_, _, _] rfl rfl (Nat.le_of_ble_eq_true rfl) rfl ?_)
  refine rw_t 8 rfl rfl rfl (do_callR (X' := .val (.bool true)) rfl rfl (t_rule4 (n := n) (a := a) (h) (by assumption)) [0] ⟨.inr ⟨_, rfl, srv⟩, trivial⟩ rfl rfl rfl ?_)
  refine rw_t 9 rfl rfl rfl (do_not rfl ?_)
  refine rw_t 4 rfl rfl rfl (do_assign rfl ?_)
  refine rw_nil ?_
  refine w_ret ?_
  exact ret_eq (.inl rfl) (.cons (res_tmp rfl) .nil) [0, 1, 2] (rfl) ⟨.inr ⟨_, rfl, .inl rfl⟩, .inr ⟨_, rfl, .inl rfl⟩, .inr ⟨_, rfl, .inl rfl⟩, trivial⟩ rfl (pre_ok rfl)
-- f104 "slices.IndexFunc[[]acequia/api.Arc,acequia/api.Arc]"
set_option maxHeartbeats 8000000 in
set_option synthInstance.maxHeartbeats 400000 in
set_option synthInstance.maxSize 2000 in
theorem t_aIndex4 (n : Net) (h : NetOK n) : Tri Try.prog 104 [.slc 0 0 n.arcs.length none, .func 103 [] [.ptr 1 0 0, .ptr 2 0 0]] [SO.arcs false n.arcs, .box [.func 96 [] []], .box [.val (.int .i64 n.N), .val (.int .i64 n.S), .val (.int .i64 n.T), .slc 0 0 n.arcs.length none]] (fun s H => s = .val (.int .i64 (-1)) ∧ H = [SO.arcs false n.arcs, .box [.func 96 [] []], .box [.val (.int .i64 n.N), .val (.int .i64 n.S), .val (.int .i64 n.T), .slc 0 0 n.arcs.length none]]) := by
  refine tri_of_w (fn := Try.f104) Try.func104 rfl (by simp [Try.f104]) ?_
  intro ρ w hρ
  refine w_seq ?_
  have hm := h.many
  -- region 0
  refine w_region ?_
  refine rw_t 4 rfl rfl rfl (do_assign rfl ?_)
  refine rw_nil ?_
  refine w_seq ?_
  refine w_seq ?_
  -- region 1
  refine w_region ?_
  refine rw_t 6 rfl rfl rfl (do_move rfl ?_)
  refine rw_t 7 rfl rfl rfl (do_len rfl ?_)
  refine rw_t 8 rfl rfl rfl (do_move rfl ?_)
  refine rw_nil ?_
  refine w_block ?_
  refine w_loopS (ι := Nat) (fun i => [(0, .slc 0 0 n.arcs.length none), (1, .func 103 [] [.ptr 1 0 0, .ptr 2 0 0]), (7, .val (.int .i64 ((n.arcs.length : Nat) : Int))), (8, .val (.int .i64 ((i : Nat) : Int)))]) (fun i => [SO.arcs false n.arcs, .box [.func 96 [] []], .box [.val (.int .i64 n.N), .val (.int .i64 n.S), .val (.int .i64 n.T), .slc 0 0 n.arcs.length none]]) (fun i => n.arcs.length - i) (fun i => i ≤ n.arcs.length) (0) [0, 1, 2] (by simp) ⟨.inr ⟨_, rfl, .inl rfl⟩, .inr ⟨_, rfl, .inl rfl⟩, .inr ⟨_, rfl, .inl rfl⟩, trivial⟩ rfl (pre_ok rfl) hρ ⟨⟨_, rfl, rfl⟩, ⟨_, rfl, rfl⟩, ⟨_, rfl, rfl⟩, ⟨_, rfl, rfl⟩, trivial⟩ ?_
  intro i hi
  refine w_seq ?_
  -- region 2
  refine w_region ?_
  refine rw_t 9 rfl rfl rfl (do_bin rfl rfl rfl ?_)
  refine rw_nil ?_
  refine w_seq ?_
  refine w_cond rfl (fun hc1 => ?_) (fun hc1 => ?_)
  all_goals try simp only [bs] at hc1
  rotate_left
  · refine w_exit ?_ -- exit 0
    refine w_seq ?_
    -- region 7
    refine w_region ?_
    refine rw_t 4 rfl rfl rfl (do_assign rfl ?_)
    refine rw_nil ?_
    refine w_ret ?_
    exact ret_eq (.inl rfl) (.cons (res_tmp rfl) .nil) [0, 1, 2] (rfl) ⟨.inr ⟨_, rfl, .inl rfl⟩, .inr ⟨_, rfl, .inl rfl⟩, .inr ⟨_, rfl, .inl rfl⟩, trivial⟩ rfl (pre_ok rfl)
  refine w_skip ?_
  refine w_seq ?_
  refine w_block ?_
  refine w_seq ?_
  -- region 3
  refine w_region ?_
  refine rw_t 10 rfl rfl rfl (do_move rfl ?_)
  refine rw_t 5 rfl rfl rfl (do_assign rfl ?_)
  refine rw_nil ?_
  refine w_seq ?_
  -- region 4
  refine w_region ?_
  refine rw_t 11 rfl rfl rfl (do_move rfl ?_)
  refine rw_t 12 rfl rfl rfl (do_move rfl ?_)
  refine rw_t 13 rfl rfl rfl (do_move rfl ?_)
  refine rw_t 14 rfl rfl rfl (do_ixn rfl rfl rfl (by first | omega | (simp only [ls] <;> omega)) ?_)
  refine rw_t 15 rfl rfl rfl (n_load_arragg [_, _, _] rfl rfl rfl (by first | omega | (simp only [ls] <;> omega)) rfl ?_)
  refine rw_t 16 rfl rfl rfl (n_callW (X' := .val (.bool false)) (H' := [SO.arcs false n.arcs, .box [.func 96 [] []], .box [.val (.int .i64 n.N), .val (.int .i64 n.S), .val (.int .i64 n.T), .slc 0 0 n.arcs.length none]]) rfl rfl (t_so4 (n := n) (a := (n.arcs.getD i Arc.none)) (h) (getD_mem _ (by omega))) [0, 1, 2] ⟨.inr ⟨_, rfl, srv⟩, .inr ⟨_, rfl, .inl rfl⟩, .inr ⟨_, rfl, .inl rfl⟩, trivial⟩ rfl rfl ⟨fun h => (by cases h), ⟨fun h => .inl rfl, ⟨fun h => .inl rfl, (fun y hy => by simp at hy)⟩⟩⟩ rfl rfl ?_)
  refine rw_nil ?_
  refine w_cond rfl (fun hc2 => ?_) (fun hc2 => ?_)
  · exfalso; first | (cases hc2; done) | exact (hc2 trivial) | (try simp only [bs] at hc2; first | omega | (simp_all; done) | (simp_all; omega))
  refine w_skip ?_
  -- region 6
  refine w_region ?_
  refine rw_t 18 rfl rfl rfl (do_add rfl rfl (by omega) ?_)
  refine rw_t 8 rfl rfl rfl (do_move rfl ?_)
  refine rw_nil ?_
  refine ⟨i + 1, [0, 1, 2], by dsimp only; omega, by omega, ⟨.inr ⟨_, rfl, .inl rfl⟩, .inr ⟨_, rfl, .inl rfl⟩, .inr ⟨_, rfl, .inl rfl⟩, trivial⟩, rfl, pre_ok rfl, ⟨⟨_, rfl, rfl⟩, ⟨_, rfl, rfl⟩, ⟨_, rfl, rfl⟩, ⟨_, rfl, rfl⟩, trivial⟩⟩
-- f102 "slices.ContainsFunc[[]acequia/api.Arc,acequia/api.Arc]"
set_option maxHeartbeats 8000000 in
set_option synthInstance.maxHeartbeats 400000 in
set_option synthInstance.maxSize 2000 in
theorem t_aContains4 (n : Net) (h : NetOK n) : Tri Try.prog 102 [.slc 0 0 n.arcs.length none, .func 103 [] [.ptr 1 0 0, .ptr 2 0 0]] [SO.arcs false n.arcs, .box [.func 96 [] []], .box [.val (.int .i64 n.N), .val (.int .i64 n.S), .val (.int .i64 n.T), .slc 0 0 n.arcs.length none]] (fun s H => s = .val (.bool false) ∧ H = [SO.arcs false n.arcs, .box [.func 96 [] []], .box [.val (.int .i64 n.N), .val (.int .i64 n.S), .val (.int .i64 n.T), .slc 0 0 n.arcs.length none]]) := by
  refine tri_of_w (fn := Try.f102) Try.func102 rfl (by simp [Try.f102]) ?_
  intro ρ w hρ
  refine w_seq ?_
  -- region 0
  refine w_region ?_
  refine rw_t 4 rfl rfl rfl (do_assign rfl ?_)
  refine rw_nil ?_
  refine w_seq ?_
  -- region 1
  refine w_region ?_
  refine rw_t 5 rfl rfl rfl (do_move rfl ?_)
  refine rw_t 6 rfl rfl rfl (do_move rfl ?_)
  refine rw_t 7 rfl rfl rfl (n_callW (X' := .val (.int .i64 (-1))) (H' := [SO.arcs false n.arcs, .box [.func 96 [] []], .box [.val (.int .i64 n.N), .val (.int .i64 n.S), .val (.int .i64 n.T), .slc 0 0 n.arcs.length none]]) rfl rfl (t_aIndex4 (n := n) (h)) [0, 1, 2] ⟨.inr ⟨_, rfl, srv⟩, .inr ⟨_, rfl, .inl rfl⟩, .inr ⟨_, rfl, .inl rfl⟩, trivial⟩ rfl rfl ⟨fun h => (by cases h), ⟨fun h => .inl rfl, ⟨fun h => .inl rfl, (fun y hy => by simp at hy)⟩⟩⟩ rfl rfl ?_)
  refine rw_t 8 rfl rfl rfl (do_bin rfl rfl rfl ?_)
  refine rw_t 4 rfl rfl rfl (do_assign rfl ?_)
  refine rw_nil ?_
  refine w_ret ?_
  exact ret_eq (.inl rfl) (.cons (res_tmp rfl) .nil) [0, 1, 2] (Eq.symm (bool_congr (by decide))) ⟨.inr ⟨_, rfl, .inl rfl⟩, .inr ⟨_, rfl, .inl rfl⟩, .inr ⟨_, rfl, .inl rfl⟩, trivial⟩ rfl (pre_ok rfl)
-- f101 "acequia/net.of$1"
set_option maxHeartbeats 8000000 in
set_option synthInstance.maxHeartbeats 400000 in
set_option synthInstance.maxSize 2000 in
theorem t_of14 (n : Net) (h : NetOK n) : Tri Try.prog 101 [.agg [.val (.int .i64 n.N), .val (.int .i64 n.S), .val (.int .i64 n.T), .slc 0 0 n.arcs.length none], .ptr 1 0 0] [SO.arcs false n.arcs, .box [.func 96 [] []]] (fun s H => s = .val (.bool true) ∧ H = [SO.arcs false n.arcs, .box [.func 96 [] []]]) := by
  refine tri_of_w (fn := Try.f101) Try.func101 rfl (by simp [Try.f101]) ?_
  intro ρ w hρ
  refine w_seq ?_
  -- region 0
  refine w_region ?_
  refine rw_t 2 rfl rfl rfl (n_box_agg (n := 2) rfl rfl ?_)
  refine rw_t 3 rfl rfl rfl (do_assign rfl ?_)
  refine rw_nil ?_
  refine w_seq ?_
  -- region 1
  refine w_region ?_
  refine rw_t 4 rfl rfl rfl (do_fieldaddr rfl ?_)
  refine rw_t 5 rfl rfl rfl (do_load_box rfl rfl rfl ?_)
  refine rw_t 6 rfl rfl rfl (do_makefunc rfl rfl ?_)
  refine rw_t 7 rfl rfl rfl (n_callW (X' := .val (.bool false)) (H' := [SO.arcs false n.arcs, .box [.func 96 [] []], .box [.val (.int .i64 n.N), .val (.int .i64 n.S), .val (.int .i64 n.T), .slc 0 0 n.arcs.length none]]) rfl rfl (t_aContains4 (n := n) (h)) [0, 1, 2] ⟨.inr ⟨_, rfl, srv⟩, .inr ⟨_, rfl, .inl rfl⟩, .inr ⟨_, rfl, .inl rfl⟩, trivial⟩ rfl rfl ⟨fun h => (by cases h), ⟨fun h => .inl rfl, ⟨fun h => .inl rfl, (fun y hy => by simp at hy)⟩⟩⟩ rfl rfl ?_)
  refine rw_t 8 rfl rfl rfl (do_not rfl ?_)
  refine rw_t 3 rfl rfl rfl (do_assign rfl ?_)
  refine rw_nil ?_
  refine w_ret ?_
  exact ret_eq (.inl rfl) (.cons (res_tmp rfl) .nil) [0, 1] (rfl) ⟨.inr ⟨_, rfl, .inl rfl⟩, .inr ⟨_, rfl, .inl rfl⟩, trivial⟩ rfl (pre_ok rfl)
-- f95 "acequia/net.of"
set_option maxHeartbeats 8000000 in
set_option synthInstance.maxHeartbeats 400000 in
set_option synthInstance.maxSize 2000 in
theorem t_of4  : Tri Try.prog 95 [.func 96 [] []] [] (fun s H => s = .func 101 [] [.ptr 0 0 0] ∧ H = [.box [.func 96 [] []]]) := by
  refine tri_of_w (fn := Try.f95) Try.func95 rfl (by simp [Try.f95]) ?_
  intro ρ w hρ
  refine w_seq ?_
  -- region 0
  refine w_region ?_
  refine rw_t 1 rfl rfl rfl (n_box (n := 0) rfl rfl rfl ?_)
  refine rw_t 2 rfl rfl rfl (do_assign rfl ?_)
  refine rw_nil ?_
  refine w_seq ?_
  -- region 1
  refine w_region ?_
  refine rw_t 3 rfl rfl rfl (do_makefunc rfl rfl ?_)
  refine rw_t 2 rfl rfl rfl (do_assign rfl ?_)
  refine rw_nil ?_
  refine w_ret ?_
  exact ret_eq (.inl rfl) (.cons (res_tmp rfl) .nil) [0] (rfl) ⟨.inr ⟨_, rfl, .inl rfl⟩, trivial⟩ rfl (pre_ok rfl)
-- f103 "acequia/net.of$1$1"
set_option maxHeartbeats 8000000 in
set_option synthInstance.maxHeartbeats 400000 in
set_option synthInstance.maxSize 2000 in
theorem t_so5 (n : Net) (h : NetOK n) (a : Arc) (ha : a ∈ n.arcs) : Tri Try.prog 103 [.agg [.val (.int .i64 a.frm), .val (.int .i64 a.to), .val (.int .i64 a.cap)], .ptr 1 0 0, .ptr 2 0 0] [SO.arcs false n.arcs, .box [.func 97 [] []], .box [.val (.int .i64 n.N), .val (.int .i64 n.S), .val (.int .i64 n.T), .slc 0 0 n.arcs.length none]] (fun s H => s = .val (.bool false) ∧ H = [SO.arcs false n.arcs, .box [.func 97 [] []], .box [.val (.int .i64 n.N), .val (.int .i64 n.S), .val (.int .i64 n.T), .slc 0 0 n.arcs.length none]]) := by
  refine tri_of_w (fn := Try.f103) Try.func103 rfl (by simp [Try.f103]) ?_
  intro ρ w hρ
  refine w_seq ?_
  -- region 0
  refine w_region ?_
  refine rw_t 3 rfl rfl rfl (n_box_agg (n := 3) rfl rfl ?_)
  refine rw_t 4 rfl rfl rfl (do_assign rfl ?_)
  refine rw_nil ?_
  refine w_seq ?_
  -- region 1
  refine w_region ?_
  refine rw_t 5 rfl rfl rfl (do_load_box rfl rfl rfl ?_)
  refine rw_t 6 rfl rfl rfl (n_load_boxagg [_, _, _, _] rfl rfl (Nat.le_of_ble_eq_true rfl) rfl ?_)
  refine rw_t 7 rfl rfl rfl (n_load_boxagg [_, _, _] rfl rfl (Nat.le_of_ble_eq_true rfl) rfl ?_)
  refine rw_t 8 rfl rfl rfl (do_callR (X' := .val (.bool true)) rfl rfl (t_rule5 (n := n) (a := a) (h) (by assumption)) [0] ⟨.inr ⟨_, rfl, srv⟩, trivial⟩ rfl rfl rfl ?_)
  refine rw_t 9 rfl rfl rfl (do_not rfl ?_)
  refine rw_t 4 rfl rfl rfl (do_assign rfl ?_)
  refine rw_nil ?_
  refine w_ret ?_
  exact ret_eq (.inl rfl) (.cons (res_tmp rfl) .nil) [0, 1, 2] (rfl) ⟨.inr ⟨_, rfl, .inl rfl⟩, .inr ⟨_, rfl, .inl rfl⟩, .inr ⟨_, rfl, .inl rfl⟩, trivial⟩ rfl (pre_ok rfl)
-- f104 "slices.IndexFunc[[]acequia/api.Arc,acequia/api.Arc]"
set_option maxHeartbeats 8000000 in
set_option synthInstance.maxHeartbeats 400000 in
set_option synthInstance.maxSize 2000 in
theorem t_aIndex5 (n : Net) (h : NetOK n) : Tri Try.prog 104 [.slc 0 0 n.arcs.length none, .func 103 [] [.ptr 1 0 0, .ptr 2 0 0]] [SO.arcs false n.arcs, .box [.func 97 [] []], .box [.val (.int .i64 n.N), .val (.int .i64 n.S), .val (.int .i64 n.T), .slc 0 0 n.arcs.length none]] (fun s H => s = .val (.int .i64 (-1)) ∧ H = [SO.arcs false n.arcs, .box [.func 97 [] []], .box [.val (.int .i64 n.N), .val (.int .i64 n.S), .val (.int .i64 n.T), .slc 0 0 n.arcs.length none]]) := by
  refine tri_of_w (fn := Try.f104) Try.func104 rfl (by simp [Try.f104]) ?_
  intro ρ w hρ
  refine w_seq ?_
  have hm := h.many
  -- region 0
  refine w_region ?_
  refine rw_t 4 rfl rfl rfl (do_assign rfl ?_)
  refine rw_nil ?_
  refine w_seq ?_
  refine w_seq ?_
  -- region 1
  refine w_region ?_
  refine rw_t 6 rfl rfl rfl (do_move rfl ?_)
  refine rw_t 7 rfl rfl rfl (do_len rfl ?_)
  refine rw_t 8 rfl rfl rfl (do_move rfl ?_)
  refine rw_nil ?_
  refine w_block ?_
  refine w_loopS (ι := Nat) (fun i => [(0, .slc 0 0 n.arcs.length none), (1, .func 103 [] [.ptr 1 0 0, .ptr 2 0 0]), (7, .val (.int .i64 ((n.arcs.length : Nat) : Int))), (8, .val (.int .i64 ((i : Nat) : Int)))]) (fun i => [SO.arcs false n.arcs, .box [.func 97 [] []], .box [.val (.int .i64 n.N), .val (.int .i64 n.S), .val (.int .i64 n.T), .slc 0 0 n.arcs.length none]]) (fun i => n.arcs.length - i) (fun i => i ≤ n.arcs.length) (0) [0, 1, 2] (by simp) ⟨.inr ⟨_, rfl, .inl rfl⟩, .inr ⟨_, rfl, .inl rfl⟩, .inr ⟨_, rfl, .inl rfl⟩, trivial⟩ rfl (pre_ok rfl) hρ ⟨⟨_, rfl, rfl⟩, ⟨_, rfl, rfl⟩, ⟨_, rfl, rfl⟩, ⟨_, rfl, rfl⟩, trivial⟩ ?_
  intro i hi
  refine w_seq ?_
  -- region 2
  refine w_region ?_
  refine rw_t 9 rfl rfl rfl (do_bin rfl rfl rfl ?_)
  refine rw_nil ?_
  refine w_seq ?_
  refine w_cond rfl (fun hc1 => ?_) (fun hc1 => ?_)
  all_goals try simp only [bs] at hc1
  rotate_left
  · refine w_exit ?_ -- exit 0
    refine w_seq ?_
    -- region 7
    refine w_region ?_
    refine rw_t 4 rfl rfl rfl (do_assign rfl ?_)
    refine rw_nil ?_
    refine w_ret ?_
    exact ret_eq (.inl rfl) (.cons (res_tmp rfl) .nil) [0, 1, 2] (rfl) ⟨.inr ⟨_, rfl, .inl rfl⟩, .inr ⟨_, rfl, .inl rfl⟩, .inr ⟨_, rfl, .inl rfl⟩, trivial⟩ rfl (pre_ok rfl)
  refine w_skip ?_
  refine w_seq ?_
  refine w_block ?_
  refine w_seq ?_
  -- region 3
  refine w_region ?_
  refine rw_t 10 rfl rfl rfl (do_move rfl ?_)
  refine rw_t 5 rfl rfl rfl (do_assign rfl ?_)
  refine rw_nil ?_
  refine w_seq ?_
  -- region 4
  refine w_region ?_
  refine rw_t 11 rfl rfl rfl (do_move rfl ?_)
  refine rw_t 12 rfl rfl rfl (do_move rfl ?_)
  refine rw_t 13 rfl rfl rfl (do_move rfl ?_)
  refine rw_t 14 rfl rfl rfl (do_ixn rfl rfl rfl (by first | omega | (simp only [ls] <;> omega)) ?_)
  refine rw_t 15 rfl rfl rfl (n_load_arragg [_, _, _] rfl rfl rfl (by first | omega | (simp only [ls] <;> omega)) rfl ?_)
  refine rw_t 16 rfl rfl rfl (n_callW (X' := .val (.bool false)) (H' := [SO.arcs false n.arcs, .box [.func 97 [] []], .box [.val (.int .i64 n.N), .val (.int .i64 n.S), .val (.int .i64 n.T), .slc 0 0 n.arcs.length none]]) rfl rfl (t_so5 (n := n) (a := (n.arcs.getD i Arc.none)) (h) (getD_mem _ (by omega))) [0, 1, 2] ⟨.inr ⟨_, rfl, srv⟩, .inr ⟨_, rfl, .inl rfl⟩, .inr ⟨_, rfl, .inl rfl⟩, trivial⟩ rfl rfl ⟨fun h => (by cases h), ⟨fun h => .inl rfl, ⟨fun h => .inl rfl, (fun y hy => by simp at hy)⟩⟩⟩ rfl rfl ?_)
  refine rw_nil ?_
  refine w_cond rfl (fun hc2 => ?_) (fun hc2 => ?_)
  · exfalso; first | (cases hc2; done) | exact (hc2 trivial) | (try simp only [bs] at hc2; first | omega | (simp_all; done) | (simp_all; omega))
  refine w_skip ?_
  -- region 6
  refine w_region ?_
  refine rw_t 18 rfl rfl rfl (do_add rfl rfl (by omega) ?_)
  refine rw_t 8 rfl rfl rfl (do_move rfl ?_)
  refine rw_nil ?_
  refine ⟨i + 1, [0, 1, 2], by dsimp only; omega, by omega, ⟨.inr ⟨_, rfl, .inl rfl⟩, .inr ⟨_, rfl, .inl rfl⟩, .inr ⟨_, rfl, .inl rfl⟩, trivial⟩, rfl, pre_ok rfl, ⟨⟨_, rfl, rfl⟩, ⟨_, rfl, rfl⟩, ⟨_, rfl, rfl⟩, ⟨_, rfl, rfl⟩, trivial⟩⟩
-- f102 "slices.ContainsFunc[[]acequia/api.Arc,acequia/api.Arc]"
set_option maxHeartbeats 8000000 in
set_option synthInstance.maxHeartbeats 400000 in
set_option synthInstance.maxSize 2000 in
theorem t_aContains5 (n : Net) (h : NetOK n) : Tri Try.prog 102 [.slc 0 0 n.arcs.length none, .func 103 [] [.ptr 1 0 0, .ptr 2 0 0]] [SO.arcs false n.arcs, .box [.func 97 [] []], .box [.val (.int .i64 n.N), .val (.int .i64 n.S), .val (.int .i64 n.T), .slc 0 0 n.arcs.length none]] (fun s H => s = .val (.bool false) ∧ H = [SO.arcs false n.arcs, .box [.func 97 [] []], .box [.val (.int .i64 n.N), .val (.int .i64 n.S), .val (.int .i64 n.T), .slc 0 0 n.arcs.length none]]) := by
  refine tri_of_w (fn := Try.f102) Try.func102 rfl (by simp [Try.f102]) ?_
  intro ρ w hρ
  refine w_seq ?_
  -- region 0
  refine w_region ?_
  refine rw_t 4 rfl rfl rfl (do_assign rfl ?_)
  refine rw_nil ?_
  refine w_seq ?_
  -- region 1
  refine w_region ?_
  refine rw_t 5 rfl rfl rfl (do_move rfl ?_)
  refine rw_t 6 rfl rfl rfl (do_move rfl ?_)
  refine rw_t 7 rfl rfl rfl (n_callW (X' := .val (.int .i64 (-1))) (H' := [SO.arcs false n.arcs, .box [.func 97 [] []], .box [.val (.int .i64 n.N), .val (.int .i64 n.S), .val (.int .i64 n.T), .slc 0 0 n.arcs.length none]]) rfl rfl (t_aIndex5 (n := n) (h)) [0, 1, 2] ⟨.inr ⟨_, rfl, srv⟩, .inr ⟨_, rfl, .inl rfl⟩, .inr ⟨_, rfl, .inl rfl⟩, trivial⟩ rfl rfl ⟨fun h => (by cases h), ⟨fun h => .inl rfl, ⟨fun h => .inl rfl, (fun y hy => by simp at hy)⟩⟩⟩ rfl rfl ?_)
  refine rw_t 8 rfl rfl rfl (do_bin rfl rfl rfl ?_)
  refine rw_t 4 rfl rfl rfl (do_assign rfl ?_)
  refine rw_nil ?_
  refine w_ret ?_
  exact ret_eq (.inl rfl) (.cons (res_tmp rfl) .nil) [0, 1, 2] (Eq.symm (bool_congr (by decide))) ⟨.inr ⟨_, rfl, .inl rfl⟩, .inr ⟨_, rfl, .inl rfl⟩, .inr ⟨_, rfl, .inl rfl⟩, trivial⟩ rfl (pre_ok rfl)
-- f101 "acequia/net.of$1"
set_option maxHeartbeats 8000000 in
set_option synthInstance.maxHeartbeats 400000 in
set_option synthInstance.maxSize 2000 in
theorem t_of15 (n : Net) (h : NetOK n) : Tri Try.prog 101 [.agg [.val (.int .i64 n.N), .val (.int .i64 n.S), .val (.int .i64 n.T), .slc 0 0 n.arcs.length none], .ptr 1 0 0] [SO.arcs false n.arcs, .box [.func 97 [] []]] (fun s H => s = .val (.bool true) ∧ H = [SO.arcs false n.arcs, .box [.func 97 [] []]]) := by
  refine tri_of_w (fn := Try.f101) Try.func101 rfl (by simp [Try.f101]) ?_
  intro ρ w hρ
  refine w_seq ?_
  -- region 0
  refine w_region ?_
  refine rw_t 2 rfl rfl rfl (n_box_agg (n := 2) rfl rfl ?_)
  refine rw_t 3 rfl rfl rfl (do_assign rfl ?_)
  refine rw_nil ?_
  refine w_seq ?_
  -- region 1
  refine w_region ?_
  refine rw_t 4 rfl rfl rfl (do_fieldaddr rfl ?_)
  refine rw_t 5 rfl rfl rfl (do_load_box rfl rfl rfl ?_)
  refine rw_t 6 rfl rfl rfl (do_makefunc rfl rfl ?_)
  refine rw_t 7 rfl rfl rfl (n_callW (X' := .val (.bool false)) (H' := [SO.arcs false n.arcs, .box [.func 97 [] []], .box [.val (.int .i64 n.N), .val (.int .i64 n.S), .val (.int .i64 n.T), .slc 0 0 n.arcs.length none]]) rfl rfl (t_aContains5 (n := n) (h)) [0, 1, 2] ⟨.inr ⟨_, rfl, srv⟩, .inr ⟨_, rfl, .inl rfl⟩, .inr ⟨_, rfl, .inl rfl⟩, trivial⟩ rfl rfl ⟨fun h => (by cases h), ⟨fun h => .inl rfl, ⟨fun h => .inl rfl, (fun y hy => by simp at hy)⟩⟩⟩ rfl rfl ?_)
  refine rw_t 8 rfl rfl rfl (do_not rfl ?_)
  refine rw_t 3 rfl rfl rfl (do_assign rfl ?_)
  refine rw_nil ?_
  refine w_ret ?_
  exact ret_eq (.inl rfl) (.cons (res_tmp rfl) .nil) [0, 1] (rfl) ⟨.inr ⟨_, rfl, .inl rfl⟩, .inr ⟨_, rfl, .inl rfl⟩, trivial⟩ rfl (pre_ok rfl)
-- f95 "acequia/net.of"
set_option maxHeartbeats 8000000 in
set_option synthInstance.maxHeartbeats 400000 in
set_option synthInstance.maxSize 2000 in
theorem t_of5  : Tri Try.prog 95 [.func 97 [] []] [] (fun s H => s = .func 101 [] [.ptr 0 0 0] ∧ H = [.box [.func 97 [] []]]) := by
  refine tri_of_w (fn := Try.f95) Try.func95 rfl (by simp [Try.f95]) ?_
  intro ρ w hρ
  refine w_seq ?_
  -- region 0
  refine w_region ?_
  refine rw_t 1 rfl rfl rfl (n_box (n := 0) rfl rfl rfl ?_)
  refine rw_t 2 rfl rfl rfl (do_assign rfl ?_)
  refine rw_nil ?_
  refine w_seq ?_
  -- region 1
  refine w_region ?_
  refine rw_t 3 rfl rfl rfl (do_makefunc rfl rfl ?_)
  refine rw_t 2 rfl rfl rfl (do_assign rfl ?_)
  refine rw_nil ?_
  refine w_ret ?_
  exact ret_eq (.inl rfl) (.cons (res_tmp rfl) .nil) [0] (rfl) ⟨.inr ⟨_, rfl, .inl rfl⟩, trivial⟩ rfl (pre_ok rfl)
-- f89 "acequia/net.rules"
set_option maxHeartbeats 8000000 in
set_option synthInstance.maxHeartbeats 400000 in
set_option synthInstance.maxSize 2000 in
theorem t_rules  : Tri Try.prog 89 [] [] (fun s H => s = .agg [.func 91 [] [], .val (.int .i64 10), .func 92 [] [], .val (.int .i64 11), .func 93 [] [], .val (.int .i64 12), .func 101 [] [.ptr 0 0 0], .val (.int .i64 13), .func 101 [] [.ptr 1 0 0], .val (.int .i64 14), .func 98 [] [], .val (.int .i64 15)] ∧ H = [.box [.func 96 [] []], .box [.func 97 [] []]]) := by
  refine tri_of_w (fn := Try.f89) Try.func89 rfl (by simp [Try.f89]) ?_
  intro ρ w hρ
  refine w_seq ?_
  -- region 0
  refine w_region ?_
  refine rw_t 0 rfl rfl rfl (n_alloc (n := 0) rfl ?_)
  refine rw_nil ?_
  refine w_seq ?_
  -- region 1
  refine w_region ?_
  refine rw_t 1 rfl rfl rfl (do_build (out := [_, _]) rfl rfl ?_)
  refine rw_t 2 rfl rfl rfl (do_build (out := [_, _]) rfl rfl ?_)
  refine rw_t 3 rfl rfl rfl (do_build (out := [_, _]) rfl rfl ?_)
  refine rw_t 4 rfl rfl rfl (n_callN (X' := .func 101 [] [.ptr 1 0 0]) (N' := [.box [.func 96 [] []]]) rfl rfl (t_of4) [] trivial rfl rfl rfl rfl rfl ?_)
  refine rw_t 5 rfl rfl rfl (do_build (out := [_, _]) rfl rfl ?_)
  refine rw_t 6 rfl rfl rfl (n_callN (X' := .func 101 [] [.ptr 2 0 0]) (N' := [.box [.func 97 [] []]]) rfl rfl (t_of5) [] trivial rfl rfl rfl rfl rfl ?_)
  refine rw_t 7 rfl rfl rfl (do_build (out := [_, _]) rfl rfl ?_)
  refine rw_t 8 rfl rfl rfl (do_build (out := [_, _]) rfl rfl ?_)
  refine rw_t 9 rfl rfl rfl (do_buildA (out := [_, _, _, _, _, _, _, _, _, _, _, _]) rfl rfl ?_)
  refine rw_u rfl rfl (n_store_whole rfl rfl rfl rfl rfl rfl ?_)
  refine rw_nil ?_
  refine w_ret ?_
  exact ret_eq (.inl rfl) (.cons (res_agg rfl rfl (Nat.le_of_ble_eq_true rfl)) .nil) [1, 2] (rfl) ⟨.inr ⟨_, rfl, .inl rfl⟩, .inr ⟨_, rfl, .inl rfl⟩, trivial⟩ rfl (pre_ok rfl)
-- f77 "acequia/net.Check"
set_option maxHeartbeats 8000000 in
set_option synthInstance.maxHeartbeats 400000 in
set_option synthInstance.maxSize 2000 in
theorem t_pCheck (n : Net) (h : NetOK n) : Tri Try.prog 77 [.agg [.val (.int .i64 n.N), .val (.int .i64 n.S), .val (.int .i64 n.T), .slc 0 0 n.arcs.length none]] [SO.arcs false n.arcs] (fun s H => s = .val (.int .i64 0) ∧ H = [SO.arcs false n.arcs]) := by
  refine tri_of_w (fn := Try.f77) Try.func77 rfl (by simp [Try.f77]) ?_
  intro ρ w hρ
  refine w_seq ?_
  -- region 0
  refine w_region ?_
  refine rw_t 1 rfl rfl rfl (n_box_agg (n := 1) rfl rfl ?_)
  refine rw_t 2 rfl rfl rfl (do_assign rfl ?_)
  refine rw_nil ?_
  refine w_seq ?_
  refine w_seq ?_
  -- region 1
  refine w_region ?_
  refine rw_t 5 rfl rfl rfl (n_callN (X' := .agg [.func 91 [] [], .val (.int .i64 10), .func 92 [] [], .val (.int .i64 11), .func 93 [] [], .val (.int .i64 12), .func 101 [] [.ptr 2 0 0], .val (.int .i64 13), .func 101 [] [.ptr 3 0 0], .val (.int .i64 14), .func 98 [] [], .val (.int .i64 15)]) (N' := [.box [.func 96 [] []], .box [.func 97 [] []]]) rfl rfl (t_rules) [] trivial rfl rfl rfl rfl rfl ?_)
  refine rw_t 6 rfl rfl rfl (do_move rfl ?_)
  refine rw_nil ?_
  refine w_block ?_
  refine w_loopS (ι := Nat) (fun i => [(1, .ptr 1 0 0), (5, .agg [.func 91 [] [], .val (.int .i64 10), .func 92 [] [], .val (.int .i64 11), .func 93 [] [], .val (.int .i64 12), .func 101 [] [.ptr 2 0 0], .val (.int .i64 13), .func 101 [] [.ptr 3 0 0], .val (.int .i64 14), .func 98 [] [], .val (.int .i64 15)]), (6, .val (.int .i64 ((i : Nat) : Int)))]) (fun i => [SO.arcs false n.arcs, .box [.val (.int .i64 n.N), .val (.int .i64 n.S), .val (.int .i64 n.T), .slc 0 0 n.arcs.length none], .box [.func 96 [] []], .box [.func 97 [] []]]) (fun i => 6 - i) (fun i => i ≤ 6) (0) [0, 1, 2, 3] (by simp) ⟨.inr ⟨_, rfl, .inl rfl⟩, .inr ⟨_, rfl, .inl rfl⟩, .inr ⟨_, rfl, .inl rfl⟩, .inr ⟨_, rfl, .inl rfl⟩, trivial⟩ rfl (pre_ok rfl) hρ ⟨⟨_, rfl, rfl⟩, ⟨_, rfl, rfl⟩, ⟨_, rfl, rfl⟩, trivial⟩ ?_
  intro i hi
  obtain rfl | rfl | rfl | rfl | rfl | rfl | rfl : i = 0 ∨ i = 1 ∨ i = 2 ∨ i = 3 ∨ i = 4 ∨ i = 5 ∨ i = 6 := by omega
  · refine w_seq ?_
    -- region 2
    refine w_region ?_
    refine rw_t 7 rfl rfl rfl (do_bin rfl rfl rfl ?_)
    refine rw_nil ?_
    refine w_seq ?_
    refine w_cond rfl (fun hc1 => ?_) (fun hc1 => ?_)
    rotate_left
    · exfalso; first | (cases hc1; done) | exact (hc1 trivial) | (try simp only [bs] at hc1; first | omega | (simp_all; done) | (simp_all; omega))
    refine w_skip ?_
    refine w_seq ?_
    refine w_block ?_
    refine w_seq ?_
    -- region 3
    refine w_region ?_
    refine rw_t 8 rfl rfl rfl (do_indexA (out := [_, _]) rfl rfl (by decide) rfl ?_)
    refine rw_t 4 rfl rfl rfl (n_alloc (n := 4) rfl ?_)
    refine rw_u rfl rfl (n_store_whole rfl rfl rfl rfl rfl rfl ?_)
    refine rw_nil ?_
    refine w_seq ?_
    -- region 4
    refine w_region ?_
    refine rw_t 9 rfl rfl rfl (do_fieldaddr rfl ?_)
    refine rw_t 10 rfl rfl rfl (do_load_box rfl rfl rfl ?_)
    refine rw_t 11 rfl rfl rfl (n_load_boxagg [_, _, _, _] rfl rfl (Nat.le_of_ble_eq_true rfl) rfl ?_)
    refine rw_t 12 rfl rfl rfl (do_callR (X' := .val (.bool true)) rfl rfl (t_rule1 (n := n) (h)) [0] ⟨.inr ⟨_, rfl, srv⟩, trivial⟩ rfl rfl rfl ?_)
    refine rw_t 13 rfl rfl rfl (do_not rfl ?_)
    refine rw_nil ?_
    refine w_cond rfl (fun hc2 => ?_) (fun hc2 => ?_)
    · exfalso; first | (cases hc2; done) | exact (hc2 trivial) | (try simp only [bs] at hc2; first | omega | (simp_all; done) | (simp_all; omega))
    refine w_skip ?_
    -- region 6
    refine w_region ?_
    refine rw_t 16 rfl rfl rfl (do_add rfl rfl (by omega) ?_)
    refine rw_t 6 rfl rfl rfl (do_move rfl ?_)
    refine rw_nil ?_
    refine ⟨1, [0, 1, 2, 3], by dsimp only; omega, by omega, ⟨.inr ⟨_, rfl, .inl rfl⟩, .inr ⟨_, rfl, .inl rfl⟩, .inr ⟨_, rfl, .inl rfl⟩, .inr ⟨_, rfl, .inl rfl⟩, trivial⟩, rfl, pre_ok rfl, ⟨⟨_, rfl, rfl⟩, ⟨_, rfl, rfl⟩, ⟨_, rfl, rfl⟩, trivial⟩⟩
  · refine w_seq ?_
    -- region 2
    refine w_region ?_
    refine rw_t 7 rfl rfl rfl (do_bin rfl rfl rfl ?_)
    refine rw_nil ?_
    refine w_seq ?_
    refine w_cond rfl (fun hc3 => ?_) (fun hc3 => ?_)
    rotate_left
    · exfalso; first | (cases hc3; done) | exact (hc3 trivial) | (try simp only [bs] at hc3; first | omega | (simp_all; done) | (simp_all; omega))
    refine w_skip ?_
    refine w_seq ?_
    refine w_block ?_
    refine w_seq ?_
    -- region 3
    refine w_region ?_
    refine rw_t 8 rfl rfl rfl (do_indexA (out := [_, _]) rfl rfl (by decide) rfl ?_)
    refine rw_t 4 rfl rfl rfl (n_alloc (n := 4) rfl ?_)
    refine rw_u rfl rfl (n_store_whole rfl rfl rfl rfl rfl rfl ?_)
    refine rw_nil ?_
    refine w_seq ?_
    -- region 4
    refine w_region ?_
    refine rw_t 9 rfl rfl rfl (do_fieldaddr rfl ?_)
    refine rw_t 10 rfl rfl rfl (do_load_box rfl rfl rfl ?_)
    refine rw_t 11 rfl rfl rfl (n_load_boxagg [_, _, _, _] rfl rfl (Nat.le_of_ble_eq_true rfl) rfl ?_)
    refine rw_t 12 rfl rfl rfl (do_callR (X' := .val (.bool true)) rfl rfl (t_rule2 (n := n) (h)) [0] ⟨.inr ⟨_, rfl, srv⟩, trivial⟩ rfl rfl rfl ?_)
    refine rw_t 13 rfl rfl rfl (do_not rfl ?_)
    refine rw_nil ?_
    refine w_cond rfl (fun hc4 => ?_) (fun hc4 => ?_)
    · exfalso; first | (cases hc4; done) | exact (hc4 trivial) | (try simp only [bs] at hc4; first | omega | (simp_all; done) | (simp_all; omega))
    refine w_skip ?_
    -- region 6
    refine w_region ?_
    refine rw_t 16 rfl rfl rfl (do_add rfl rfl (by omega) ?_)
    refine rw_t 6 rfl rfl rfl (do_move rfl ?_)
    refine rw_nil ?_
    refine ⟨2, [0, 1, 2, 3], by dsimp only; omega, by omega, ⟨.inr ⟨_, rfl, .inl rfl⟩, .inr ⟨_, rfl, .inl rfl⟩, .inr ⟨_, rfl, .inl rfl⟩, .inr ⟨_, rfl, .inl rfl⟩, trivial⟩, rfl, pre_ok rfl, ⟨⟨_, rfl, rfl⟩, ⟨_, rfl, rfl⟩, ⟨_, rfl, rfl⟩, trivial⟩⟩
  · refine w_seq ?_
    -- region 2
    refine w_region ?_
    refine rw_t 7 rfl rfl rfl (do_bin rfl rfl rfl ?_)
    refine rw_nil ?_
    refine w_seq ?_
    refine w_cond rfl (fun hc5 => ?_) (fun hc5 => ?_)
    rotate_left
    · exfalso; first | (cases hc5; done) | exact (hc5 trivial) | (try simp only [bs] at hc5; first | omega | (simp_all; done) | (simp_all; omega))
    refine w_skip ?_
    refine w_seq ?_
    refine w_block ?_
    refine w_seq ?_
    -- region 3
    refine w_region ?_
    refine rw_t 8 rfl rfl rfl (do_indexA (out := [_, _]) rfl rfl (by decide) rfl ?_)
    refine rw_t 4 rfl rfl rfl (n_alloc (n := 4) rfl ?_)
    refine rw_u rfl rfl (n_store_whole rfl rfl rfl rfl rfl rfl ?_)
    refine rw_nil ?_
    refine w_seq ?_
    -- region 4
    refine w_region ?_
    refine rw_t 9 rfl rfl rfl (do_fieldaddr rfl ?_)
    refine rw_t 10 rfl rfl rfl (do_load_box rfl rfl rfl ?_)
    refine rw_t 11 rfl rfl rfl (n_load_boxagg [_, _, _, _] rfl rfl (Nat.le_of_ble_eq_true rfl) rfl ?_)
    refine rw_t 12 rfl rfl rfl (do_callR (X' := .val (.bool true)) rfl rfl (t_rule3 (n := n) (h)) [0] ⟨.inr ⟨_, rfl, srv⟩, trivial⟩ rfl rfl rfl ?_)
    refine rw_t 13 rfl rfl rfl (do_not rfl ?_)
    refine rw_nil ?_
    refine w_cond rfl (fun hc6 => ?_) (fun hc6 => ?_)
    · exfalso; first | (cases hc6; done) | exact (hc6 trivial) | (try simp only [bs] at hc6; first | omega | (simp_all; done) | (simp_all; omega))
    refine w_skip ?_
    -- region 6
    refine w_region ?_
    refine rw_t 16 rfl rfl rfl (do_add rfl rfl (by omega) ?_)
    refine rw_t 6 rfl rfl rfl (do_move rfl ?_)
    refine rw_nil ?_
    refine ⟨3, [0, 1, 2, 3], by dsimp only; omega, by omega, ⟨.inr ⟨_, rfl, .inl rfl⟩, .inr ⟨_, rfl, .inl rfl⟩, .inr ⟨_, rfl, .inl rfl⟩, .inr ⟨_, rfl, .inl rfl⟩, trivial⟩, rfl, pre_ok rfl, ⟨⟨_, rfl, rfl⟩, ⟨_, rfl, rfl⟩, ⟨_, rfl, rfl⟩, trivial⟩⟩
  · refine w_seq ?_
    -- region 2
    refine w_region ?_
    refine rw_t 7 rfl rfl rfl (do_bin rfl rfl rfl ?_)
    refine rw_nil ?_
    refine w_seq ?_
    refine w_cond rfl (fun hc7 => ?_) (fun hc7 => ?_)
    rotate_left
    · exfalso; first | (cases hc7; done) | exact (hc7 trivial) | (try simp only [bs] at hc7; first | omega | (simp_all; done) | (simp_all; omega))
    refine w_skip ?_
    refine w_seq ?_
    refine w_block ?_
    refine w_seq ?_
    -- region 3
    refine w_region ?_
    refine rw_t 8 rfl rfl rfl (do_indexA (out := [_, _]) rfl rfl (by decide) rfl ?_)
    refine rw_t 4 rfl rfl rfl (n_alloc (n := 4) rfl ?_)
    refine rw_u rfl rfl (n_store_whole rfl rfl rfl rfl rfl rfl ?_)
    refine rw_nil ?_
    refine w_seq ?_
    -- region 4
    refine w_region ?_
    refine rw_t 9 rfl rfl rfl (do_fieldaddr rfl ?_)
    refine rw_t 10 rfl rfl rfl (do_load_box rfl rfl rfl ?_)
    refine rw_t 11 rfl rfl rfl (n_load_boxagg [_, _, _, _] rfl rfl (Nat.le_of_ble_eq_true rfl) rfl ?_)
    refine rw_t 12 rfl rfl rfl (n_callW (X' := .val (.bool true)) (H' := [SO.arcs false n.arcs, .box [.val (.int .i64 n.N), .val (.int .i64 n.S), .val (.int .i64 n.T), .slc 0 0 n.arcs.length none], .box [.func 96 [] []], .box [.func 97 [] []], .box [.func 101 [] [.ptr 2 0 0], .val (.int .i64 13)]]) rfl rfl (t_of14 (n := n) (h)) [0, 2] ⟨.inr ⟨_, rfl, srv⟩, .inr ⟨_, rfl, .inl rfl⟩, trivial⟩ rfl rfl ⟨fun h => (by cases h), ⟨fun h => .inl rfl, (fun y hy => by simp at hy)⟩⟩ rfl rfl ?_)
    refine rw_t 13 rfl rfl rfl (do_not rfl ?_)
    refine rw_nil ?_
    refine w_cond rfl (fun hc8 => ?_) (fun hc8 => ?_)
    · exfalso; first | (cases hc8; done) | exact (hc8 trivial) | (try simp only [bs] at hc8; first | omega | (simp_all; done) | (simp_all; omega))
    refine w_skip ?_
    -- region 6
    refine w_region ?_
    refine rw_t 16 rfl rfl rfl (do_add rfl rfl (by omega) ?_)
    refine rw_t 6 rfl rfl rfl (do_move rfl ?_)
    refine rw_nil ?_
    refine ⟨4, [0, 1, 2, 3], by dsimp only; omega, by omega, ⟨.inr ⟨_, rfl, .inl rfl⟩, .inr ⟨_, rfl, .inl rfl⟩, .inr ⟨_, rfl, .inl rfl⟩, .inr ⟨_, rfl, .inl rfl⟩, trivial⟩, rfl, pre_ok rfl, ⟨⟨_, rfl, rfl⟩, ⟨_, rfl, rfl⟩, ⟨_, rfl, rfl⟩, trivial⟩⟩
  · refine w_seq ?_
    -- region 2
    refine w_region ?_
    refine rw_t 7 rfl rfl rfl (do_bin rfl rfl rfl ?_)
    refine rw_nil ?_
    refine w_seq ?_
    refine w_cond rfl (fun hc9 => ?_) (fun hc9 => ?_)
    rotate_left
    · exfalso; first | (cases hc9; done) | exact (hc9 trivial) | (try simp only [bs] at hc9; first | omega | (simp_all; done) | (simp_all; omega))
    refine w_skip ?_
    refine w_seq ?_
    refine w_block ?_
    refine w_seq ?_
    -- region 3
    refine w_region ?_
    refine rw_t 8 rfl rfl rfl (do_indexA (out := [_, _]) rfl rfl (by decide) rfl ?_)
    refine rw_t 4 rfl rfl rfl (n_alloc (n := 4) rfl ?_)
    refine rw_u rfl rfl (n_store_whole rfl rfl rfl rfl rfl rfl ?_)
    refine rw_nil ?_
    refine w_seq ?_
    -- region 4
    refine w_region ?_
    refine rw_t 9 rfl rfl rfl (do_fieldaddr rfl ?_)
    refine rw_t 10 rfl rfl rfl (do_load_box rfl rfl rfl ?_)
    refine rw_t 11 rfl rfl rfl (n_load_boxagg [_, _, _, _] rfl rfl (Nat.le_of_ble_eq_true rfl) rfl ?_)
    refine rw_t 12 rfl rfl rfl (n_callW (X' := .val (.bool true)) (H' := [SO.arcs false n.arcs, .box [.val (.int .i64 n.N), .val (.int .i64 n.S), .val (.int .i64 n.T), .slc 0 0 n.arcs.length none], .box [.func 96 [] []], .box [.func 97 [] []], .box [.func 101 [] [.ptr 3 0 0], .val (.int .i64 14)]]) rfl rfl (t_of15 (n := n) (h)) [0, 3] ⟨.inr ⟨_, rfl, srv⟩, .inr ⟨_, rfl, .inl rfl⟩, trivial⟩ rfl rfl ⟨fun h => (by cases h), ⟨fun h => .inl rfl, (fun y hy => by simp at hy)⟩⟩ rfl rfl ?_)
    refine rw_t 13 rfl rfl rfl (do_not rfl ?_)
    refine rw_nil ?_
    refine w_cond rfl (fun hc10 => ?_) (fun hc10 => ?_)
    · exfalso; first | (cases hc10; done) | exact (hc10 trivial) | (try simp only [bs] at hc10; first | omega | (simp_all; done) | (simp_all; omega))
    refine w_skip ?_
    -- region 6
    refine w_region ?_
    refine rw_t 16 rfl rfl rfl (do_add rfl rfl (by omega) ?_)
    refine rw_t 6 rfl rfl rfl (do_move rfl ?_)
    refine rw_nil ?_
    refine ⟨5, [0, 1, 2, 3], by dsimp only; omega, by omega, ⟨.inr ⟨_, rfl, .inl rfl⟩, .inr ⟨_, rfl, .inl rfl⟩, .inr ⟨_, rfl, .inl rfl⟩, .inr ⟨_, rfl, .inl rfl⟩, trivial⟩, rfl, pre_ok rfl, ⟨⟨_, rfl, rfl⟩, ⟨_, rfl, rfl⟩, ⟨_, rfl, rfl⟩, trivial⟩⟩
  · refine w_seq ?_
    -- region 2
    refine w_region ?_
    refine rw_t 7 rfl rfl rfl (do_bin rfl rfl rfl ?_)
    refine rw_nil ?_
    refine w_seq ?_
    refine w_cond rfl (fun hc11 => ?_) (fun hc11 => ?_)
    rotate_left
    · exfalso; first | (cases hc11; done) | exact (hc11 trivial) | (try simp only [bs] at hc11; first | omega | (simp_all; done) | (simp_all; omega))
    refine w_skip ?_
    refine w_seq ?_
    refine w_block ?_
    refine w_seq ?_
    -- region 3
    refine w_region ?_
    refine rw_t 8 rfl rfl rfl (do_indexA (out := [_, _]) rfl rfl (by decide) rfl ?_)
    refine rw_t 4 rfl rfl rfl (n_alloc (n := 4) rfl ?_)
    refine rw_u rfl rfl (n_store_whole rfl rfl rfl rfl rfl rfl ?_)
    refine rw_nil ?_
    refine w_seq ?_
    -- region 4
    refine w_region ?_
    refine rw_t 9 rfl rfl rfl (do_fieldaddr rfl ?_)
    refine rw_t 10 rfl rfl rfl (do_load_box rfl rfl rfl ?_)
    refine rw_t 11 rfl rfl rfl (n_load_boxagg [_, _, _, _] rfl rfl (Nat.le_of_ble_eq_true rfl) rfl ?_)
    refine rw_t 12 rfl rfl rfl (do_callR (X' := .val (.bool true)) rfl rfl (t_rule6 (n := n) (h)) [0] ⟨.inr ⟨_, rfl, srv⟩, trivial⟩ rfl rfl rfl ?_)
    refine rw_t 13 rfl rfl rfl (do_not rfl ?_)
    refine rw_nil ?_
    refine w_cond rfl (fun hc12 => ?_) (fun hc12 => ?_)
    · exfalso; first | (cases hc12; done) | exact (hc12 trivial) | (try simp only [bs] at hc12; first | omega | (simp_all; done) | (simp_all; omega))
    refine w_skip ?_
    -- region 6
    refine w_region ?_
    refine rw_t 16 rfl rfl rfl (do_add rfl rfl (by omega) ?_)
    refine rw_t 6 rfl rfl rfl (do_move rfl ?_)
    refine rw_nil ?_
    refine ⟨6, [0, 1, 2, 3], by dsimp only; omega, by omega, ⟨.inr ⟨_, rfl, .inl rfl⟩, .inr ⟨_, rfl, .inl rfl⟩, .inr ⟨_, rfl, .inl rfl⟩, .inr ⟨_, rfl, .inl rfl⟩, trivial⟩, rfl, pre_ok rfl, ⟨⟨_, rfl, rfl⟩, ⟨_, rfl, rfl⟩, ⟨_, rfl, rfl⟩, trivial⟩⟩
  · refine w_seq ?_
    -- region 2
    refine w_region ?_
    refine rw_t 7 rfl rfl rfl (do_bin rfl rfl rfl ?_)
    refine rw_nil ?_
    refine w_seq ?_
    refine w_cond rfl (fun hc13 => ?_) (fun hc13 => ?_)
    · exfalso; first | (cases hc13; done) | exact (hc13 trivial) | (try simp only [bs] at hc13; first | omega | (simp_all; done) | (simp_all; omega))
    refine w_exit ?_ -- exit 0
    refine w_seq ?_
    -- region 7
    refine w_region ?_
    refine rw_t 2 rfl rfl rfl (do_assign rfl ?_)
    refine rw_nil ?_
    refine w_ret ?_
    exact ret_eq (.inl rfl) (.cons (res_tmp rfl) .nil) [0] (rfl) ⟨.inr ⟨_, rfl, .inl rfl⟩, trivial⟩ rfl (pre_ok rfl)
end Go.Proofs

set_option linter.unusedVariables false
set_option linter.unusedSimpArgs false
namespace Go.Proofs
open Go Go.Sx Go.RowKit
/-- A list by its entries. -/
def tab {α : Type} (m : Nat) (f : Nat → α) : List α := (List.range m).map f
theorem tab_len {α : Type} (m : Nat) (f : Nat → α) : (tab m f).length = m := by simp [tab]
theorem tab_get {α : Type} {m i : Nat} (f : Nat → α) (d : α) (h : i < m) : (tab m f).getD i d = f i := by simp [tab, List.getD, h]
theorem tab_congr {α : Type} {m : Nat} {f g : Nat → α} (h : ∀ i, i < m → f i = g i) : tab m f = tab m g := by
  unfold tab; exact List.map_congr_left fun i hi => h i (List.mem_range.1 hi)
theorem tab_set {α : Type} {m i : Nat} (f : Nat → α) (x : α) : (tab m f).set i x = tab m (fun j => if j = i then x else f j) := by
  refine List.ext_getElem (by simp [tab]) fun j h1 h2 => ?_
  simp only [tab, List.getElem_set, List.getElem_map, List.getElem_range]
  by_cases h : i = j
  · rw [if_pos h, if_pos h.symm]
  · rw [if_neg h, if_neg (Ne.symm h)]
theorem tab_const {α : Type} (m : Nat) (x : α) : List.replicate m x = tab m (fun _ => x) := by
  refine List.ext_getElem (by simp [tab]) fun j h1 h2 => ?_
  simp [tab]
theorem tab_of {α : Type} (l : List α) (d : α) : l = tab l.length (fun i => l.getD i d) := by
  refine List.ext_getElem (by simp [tab]) fun j h1 h2 => ?_
  simp [tab, List.getD, h1]
theorem tab_ext {α : Type} {l : List α} {m : Nat} {f : Nat → α} (d : α) (hl : l.length = m) (h : ∀ i, i < m → l.getD i d = f i) : l = tab m f := by
  rw [tab_of l d, hl]; exact tab_congr h

/-- How many residual arcs a vertex has of the first arcs. -/
def cntJ (n : Net) (k j : Nat) : Int := ((rowsAt n ((j : Int) - 1) k).length : Int)
def cntL (n : Net) (k : Nat) : List Int := tab (n.N.toNat + 1) (cntJ n k)
def preJ (n : Net) (v j : Nat) : Int := if j ≤ v then ((rowsOf n j).length : Int) else cntJ n n.arcs.length j
def preL (n : Net) (v : Nat) : List Int := tab (n.N.toNat + 1) (preJ n v)
theorem rowOf_count (v : Int) (a : Arc) (k : Nat) : ((rowOf v a k).length : Int) = if a.frm = a.to then 0 else (if a.frm = v then 1 else 0) + (if a.to = v then 1 else 0) := by
  unfold rowOf
  by_cases h : a.frm = a.to
  · rw [if_pos h, if_pos h]; rfl
  · rw [if_neg h, if_neg h]
    by_cases h1 : a.frm = v <;> by_cases h2 : a.to = v <;> simp [h1, h2]
theorem cntJ_next (n : Net) (k j : Nat) : cntJ n (k + 1) j = cntJ n k j + ((rowOf ((j : Int) - 1) (n.arcs.getD k Arc.none) k).length : Int) := by
  unfold cntJ; rw [rowsAt_next, List.length_append]; omega
theorem cntL_len (n : Net) (k : Nat) : (cntL n k).length = n.N.toNat + 1 := tab_len _ _
theorem preL_len (n : Net) (k : Nat) : (preL n k).length = n.N.toNat + 1 := tab_len _ _
theorem cntL_zero (n : Net) : cntL n 0 = List.replicate (n.N.toNat + 1) 0 := by
  rw [tab_const]; exact tab_congr fun i _ => by simp [cntJ, rowsAt]
theorem cntL_same {n : Net} {k : Nat} (h : (n.arcs.getD k Arc.none).frm = (n.arcs.getD k Arc.none).to) : cntL n (k + 1) = cntL n k :=
  tab_congr fun i _ => by rw [cntJ_next, rowOf_count, if_pos h]; omega
theorem cntL_step {n : Net} (hn : NetOK n) {k : Nat} (hk : k < n.arcs.length) (h : (n.arcs.getD k Arc.none).frm ≠ (n.arcs.getD k Arc.none).to) :
    cntL n (k + 1) = ((cntL n k).set ((n.arcs.getD k Arc.none).frm + 1).toNat ((cntL n k).getD ((n.arcs.getD k Arc.none).frm + 1).toNat 0 + 1)).set ((n.arcs.getD k Arc.none).to + 1).toNat
      (((cntL n k).set ((n.arcs.getD k Arc.none).frm + 1).toNat ((cntL n k).getD ((n.arcs.getD k Arc.none).frm + 1).toNat 0 + 1)).getD ((n.arcs.getD k Arc.none).to + 1).toNat 0 + 1) := by
  have ha := hn.arc hk
  have hlo := hn.lo
  unfold cntL
  rw [tab_get _ _ (by omega), tab_set, tab_get _ _ (by omega), tab_set]
  refine tab_congr fun j hj => ?_
  try dsimp only
  rw [cntJ_next, rowOf_count, if_neg h]
  by_cases h1 : j = ((n.arcs.getD k Arc.none).to + 1).toNat
  · have h2 : ¬ j = ((n.arcs.getD k Arc.none).frm + 1).toNat := by omega
    rw [if_pos h1, if_neg (show ¬ ((n.arcs.getD k Arc.none).to + 1).toNat = ((n.arcs.getD k Arc.none).frm + 1).toNat by omega), if_neg (show ¬ (n.arcs.getD k Arc.none).frm = (j : Int) - 1 by omega), if_pos (show (n.arcs.getD k Arc.none).to = (j : Int) - 1 by omega), h1]
    omega
  · rw [if_neg h1, if_neg (show ¬ (n.arcs.getD k Arc.none).to = (j : Int) - 1 by omega)]
    by_cases h2 : j = ((n.arcs.getD k Arc.none).frm + 1).toNat
    · rw [if_pos h2, if_pos (show (n.arcs.getD k Arc.none).frm = (j : Int) - 1 by omega), h2]; omega
    · rw [if_neg h2, if_neg (show ¬ (n.arcs.getD k Arc.none).frm = (j : Int) - 1 by omega)]; omega
theorem cntJ_zero {n : Net} (hn : NetOK n) : ∀ k, k ≤ n.arcs.length → cntJ n k 0 = 0
  | 0, _ => by simp [cntJ, rowsAt]
  | k + 1, hk => by
    have ha := hn.arc (show k < n.arcs.length by omega)
    rw [cntJ_next, cntJ_zero hn k (by omega), rowOf_count]
    by_cases h : (n.arcs.getD k Arc.none).frm = (n.arcs.getD k Arc.none).to
    · rw [if_pos h]; rfl
    · rw [if_neg h, if_neg (by omega), if_neg (by omega)]; rfl
theorem preL_zero {n : Net} (hn : NetOK n) : preL n 0 = cntL n n.arcs.length := tab_congr fun j _ => by
  unfold preJ
  by_cases h : j ≤ 0
  · have : j = 0 := by omega
    subst this
    rw [if_pos h, cntJ_zero hn _ (Nat.le_refl _)]; simp [rowsOf]
  · rw [if_neg h]
theorem preL_step {n : Net} {v : Nat} (hv : v < n.N.toNat) : preL n (v + 1) = (preL n v).set (v + 1) ((preL n v).getD (v + 1) 0 + (preL n v).getD v 0) := by
  unfold preL
  rw [tab_get _ _ (by omega), tab_get _ _ (by omega), tab_set]
  refine tab_congr fun j hj => ?_
  try dsimp only
  unfold preJ
  by_cases h1 : j = v + 1
  · subst h1
    rw [if_pos (Nat.le_refl _), if_pos rfl, if_neg (by omega), if_pos (Nat.le_refl _), rowsOf_next, List.length_append]
    unfold cntJ
    rw [show ((v + 1 : Nat) : Int) - 1 = (v : Int) by omega]; omega
  · rw [if_neg h1]
    by_cases h2 : j ≤ v
    · rw [if_pos h2, if_pos (by omega)]
    · rw [if_neg h2, if_neg (by omega)]
theorem preL_first (n : Net) : preL n n.N.toNat = (makeC n).First := by
  show _ = firstOf n n.N.toNat ++ [((rows n).length : Int)]
  unfold preL tab firstOf
  rw [List.range_succ, List.map_append]
  congr 1
  · exact List.map_congr_left fun j hj => by unfold preJ; rw [if_pos (by have := List.mem_range.1 hj; omega)]
  · simp only [List.map_cons, List.map_nil, preJ, if_pos (Nat.le_refl _)]; rfl
theorem first_tab (n : Net) : (makeC n).First = tab (n.N.toNat + 1) (fun j => ((rowsOf n j).length : Int)) := by
  rw [← preL_first]
  exact tab_congr fun j hj => by unfold preJ; rw [if_pos (by omega)]
/-- Where the next residual arc of a vertex goes. -/
def nxtJ (n : Net) (k v : Nat) : Int := ((rowsOf n v).length : Int) + ((rowsAt n (v : Int) k).length : Int)
def nxtL (n : Net) (k : Nat) : List Int := tab (n.N.toNat + 1) (nxtJ n k)
theorem nxtL_len (n : Net) (k : Nat) : (nxtL n k).length = n.N.toNat + 1 := tab_len _ _
theorem nxtL_zero (n : Net) : nxtL n 0 = (makeC n).First := by
  rw [first_tab]; exact tab_congr fun j _ => by simp [nxtJ, rowsAt]
theorem nxtJ_next (n : Net) (k v : Nat) : nxtJ n (k + 1) v = nxtJ n k v + ((rowOf (v : Int) (n.arcs.getD k Arc.none) k).length : Int) := by
  unfold nxtJ; rw [rowsAt_next, List.length_append]; omega
theorem nxtL_same {n : Net} {k : Nat} (h : (n.arcs.getD k Arc.none).frm = (n.arcs.getD k Arc.none).to) : nxtL n (k + 1) = nxtL n k :=
  tab_congr fun i _ => by rw [nxtJ_next, rowOf_count, if_pos h]; omega
theorem nxtL_step {n : Net} (hn : NetOK n) {k : Nat} (hk : k < n.arcs.length) (h : (n.arcs.getD k Arc.none).frm ≠ (n.arcs.getD k Arc.none).to) :
    nxtL n (k + 1) = ((nxtL n k).set (n.arcs.getD k Arc.none).frm.toNat ((nxtL n k).getD (n.arcs.getD k Arc.none).frm.toNat 0 + 1)).set (n.arcs.getD k Arc.none).to.toNat
      (((nxtL n k).set (n.arcs.getD k Arc.none).frm.toNat ((nxtL n k).getD (n.arcs.getD k Arc.none).frm.toNat 0 + 1)).getD (n.arcs.getD k Arc.none).to.toNat 0 + 1) := by
  have ha := hn.arc hk
  unfold nxtL
  rw [tab_get _ _ (by omega), tab_set, tab_get _ _ (by omega), tab_set]
  refine tab_congr fun j hj => ?_
  try dsimp only
  rw [nxtJ_next, rowOf_count, if_neg h]
  by_cases h1 : j = (n.arcs.getD k Arc.none).to.toNat
  · rw [if_pos h1, if_neg (show ¬ (n.arcs.getD k Arc.none).to.toNat = (n.arcs.getD k Arc.none).frm.toNat by omega), if_neg (show ¬ (n.arcs.getD k Arc.none).frm = (j : Int) by omega), if_pos (show (n.arcs.getD k Arc.none).to = (j : Int) by omega), h1]
    omega
  · rw [if_neg h1, if_neg (show ¬ (n.arcs.getD k Arc.none).to = (j : Int) by omega)]
    by_cases h2 : j = (n.arcs.getD k Arc.none).frm.toNat
    · rw [if_pos h2, if_pos (show (n.arcs.getD k Arc.none).frm = (j : Int) by omega), h2]; omega
    · rw [if_neg h2, if_neg (show ¬ (n.arcs.getD k Arc.none).frm = (j : Int) by omega)]; omega
theorem rowsAt_split (n : Net) (v : Int) {k m : Nat} (h : k < m) : ∃ rest, rowsAt n v m = rowsAt n v k ++ rowOf v (n.arcs.getD k Arc.none) k ++ rest := by
  induction m with
  | zero => omega
  | succ m ih =>
    by_cases hk : k = m
    · subst hk; exact ⟨[], by rw [rowsAt_next]; simp⟩
    · obtain ⟨r, hr⟩ := ih (by omega)
      exact ⟨r ++ rowOf v (n.arcs.getD m Arc.none) m, by rw [rowsAt_next, hr]; simp [List.append_assoc]⟩
theorem rowsOf_split (n : Net) {v w : Nat} (h : v < w) : ∃ rest, rowsOf n w = rowsOf n v ++ rowsAt n (v : Int) n.arcs.length ++ rest := by
  induction w with
  | zero => omega
  | succ w ih =>
    by_cases hk : v = w
    · subst hk; exact ⟨[], by rw [rowsOf_next]; simp⟩
    · obtain ⟨r, hr⟩ := ih (by omega)
      exact ⟨r ++ rowsAt n (w : Int) n.arcs.length, by rw [rowsOf_next, hr]; simp [List.append_assoc]⟩
theorem row_at {n : Net} {v k : Nat} {r : Row} (hv : v < n.N.toNat) (hk : k < n.arcs.length) (hr : rowOf (v : Int) (n.arcs.getD k Arc.none) k = [r]) : (0 ≤ nxtJ n k v ∧ nxtJ n k v < ((rows n).length : Int)) ∧ (rows n).getD (nxtJ n k v).toNat Row.none = r := by
  obtain ⟨r1, h1⟩ := rowsOf_split n hv
  obtain ⟨r2, h2⟩ := rowsAt_split n (v : Int) hk
  have e : rows n = (rowsOf n v ++ rowsAt n (v : Int) k) ++ (r :: (r2 ++ r1)) := by
    unfold rows; rw [h1, h2, hr]; simp [List.append_assoc]
  have el : (nxtJ n k v).toNat = (rowsOf n v ++ rowsAt n (v : Int) k).length := by unfold nxtJ; rw [List.length_append]; omega
  refine ⟨⟨by unfold nxtJ; omega, ?_⟩, ?_⟩
  · rw [e]; unfold nxtJ; simp only [List.length_append, List.length_cons]; omega
  · rw [e, el]; simp [List.getD]
theorem row_frm {n : Net} (hn : NetOK n) {k : Nat} (hk : k < n.arcs.length) (h : (n.arcs.getD k Arc.none).frm ≠ (n.arcs.getD k Arc.none).to) :
    (0 ≤ nxtJ n k (n.arcs.getD k Arc.none).frm.toNat ∧ nxtJ n k (n.arcs.getD k Arc.none).frm.toNat < ((rows n).length : Int)) ∧ (rows n).getD (nxtJ n k (n.arcs.getD k Arc.none).frm.toNat).toNat Row.none = ⟨(n.arcs.getD k Arc.none).to, (n.arcs.getD k Arc.none).cap, k, false⟩ := by
  have ha := hn.arc hk
  refine row_at (by omega) hk ?_
  unfold rowOf
  rw [if_neg h, if_pos (by omega), if_neg (by omega)]; rfl
theorem row_to {n : Net} (hn : NetOK n) {k : Nat} (hk : k < n.arcs.length) (h : (n.arcs.getD k Arc.none).frm ≠ (n.arcs.getD k Arc.none).to) :
    (0 ≤ nxtJ n k (n.arcs.getD k Arc.none).to.toNat ∧ nxtJ n k (n.arcs.getD k Arc.none).to.toNat < ((rows n).length : Int)) ∧ (rows n).getD (nxtJ n k (n.arcs.getD k Arc.none).to.toNat).toNat Row.none = ⟨(n.arcs.getD k Arc.none).frm, 0, k, true⟩ := by
  have ha := hn.arc hk
  refine row_at (by omega) hk ?_
  unfold rowOf
  rw [if_neg h, if_neg (by omega), if_pos (by omega)]; rfl
/-- A column, as far as the first arcs tell it. -/
def colL {α : Type} (n : Net) (d : α) (f : Nat → Row → α) (k : Nat) : List α := tab (rows n).length (fun i => if ((rows n).getD i Row.none).arc < k then f i ((rows n).getD i Row.none) else d)
theorem colL_len {α : Type} (n : Net) (d : α) (f : Nat → Row → α) (k : Nat) : (colL n d f k).length = (rows n).length := tab_len _ _
theorem colL_zero {α : Type} {n : Net} (hn : NetOK n) (d : α) (f : Nat → Row → α) : colL n d f 0 = List.replicate (rows n).length d := by
  rw [tab_const]
  refine tab_congr fun i hi => ?_
  obtain ⟨k, _, _, hc⟩ := row_cases hn hi
  rw [if_neg (by rcases hc with e | e <;> rw [e] <;> dsimp only <;> omega)]
theorem colL_all {α : Type} {n : Net} (hn : NetOK n) (d : α) (f : Nat → Row → α) : colL n d f n.arcs.length = tab (rows n).length (fun i => f i ((rows n).getD i Row.none)) := by
  refine tab_congr fun i hi => ?_
  obtain ⟨k, _, _, hc⟩ := row_cases hn hi
  rw [if_pos (by rcases hc with e | e <;> rw [e] <;> dsimp only <;> omega)]
theorem colL_same {α : Type} {n : Net} (hn : NetOK n) {d : α} {f : Nat → Row → α} {k : Nat} (h : (n.arcs.getD k Arc.none).frm = (n.arcs.getD k Arc.none).to) : colL n d f (k + 1) = colL n d f k := by
  refine tab_congr fun i hi => ?_
  obtain ⟨k', _, hne, hc⟩ := row_cases hn hi
  have hkk : k' ≠ k := fun e => hne (e ▸ h)
  have e : ((rows n).getD i Row.none).arc = (k' : Int) := by rcases hc with e | e <;> rw [e]
  by_cases h1 : ((rows n).getD i Row.none).arc < (k : Int)
  · rw [if_pos h1, if_pos (by omega)]
  · rw [if_neg h1, if_neg (by omega)]
theorem colL_step {α : Type} {n : Net} (hn : NetOK n) {d : α} {f : Nat → Row → α} {k : Nat} (hk : k < n.arcs.length) (h : (n.arcs.getD k Arc.none).frm ≠ (n.arcs.getD k Arc.none).to) {i j : Nat} (hi : i = (nxtJ n k (n.arcs.getD k Arc.none).frm.toNat).toNat) (hj : j = (nxtJ n k (n.arcs.getD k Arc.none).to.toNat).toNat) {x y : α} (hx : f i ⟨(n.arcs.getD k Arc.none).to, (n.arcs.getD k Arc.none).cap, k, false⟩ = x) (hy : f j ⟨(n.arcs.getD k Arc.none).frm, 0, k, true⟩ = y) :
    colL n d f (k + 1) = ((colL n d f k).set i x).set j y := by
  obtain ⟨⟨a1, a2⟩, a3⟩ := row_frm hn hk h
  obtain ⟨⟨b1, b2⟩, b3⟩ := row_to hn hk h
  rw [← hi] at a3
  rw [← hj] at b3
  unfold colL
  rw [tab_set, tab_set]
  refine tab_congr fun p hp => ?_
  try dsimp only
  by_cases h1 : p = j
  · rw [if_pos h1, h1, b3, if_pos (by dsimp only; omega), hy]
  · rw [if_neg h1]
    by_cases h2 : p = i
    · rw [if_pos h2, h2, a3, if_pos (by dsimp only; omega), hx]
    · rw [if_neg h2]
      obtain ⟨k', _, hne, hc⟩ := row_cases hn hp
      have hkk : k' ≠ k := by
        intro e
        subst e
        rcases hc with e | e
        · exact h2 (key_inj hp (show i < _ by omega) (by rw [e, a3]))
        · exact h1 (key_inj hp (show j < _ by omega) (by rw [e, b3]))
      have e : ((rows n).getD p Row.none).arc = (k' : Int) := by rcases hc with e | e <;> rw [e]
      by_cases h3 : ((rows n).getD p Row.none).arc < (k : Int)
      · rw [if_pos h3, if_pos (by omega)]
      · rw [if_neg h3, if_neg (by omega)]
def revF (n : Net) (i : Nat) (_ : Row) : Int := (makeC n).Rev.getD i 0
theorem rev_pair {n : Net} (hn : NetOK n) {i j : Nat} (hi : i < (rows n).length) (hj : j < (rows n).length) (h1 : ((rows n).getD i Row.none).arc = ((rows n).getD j Row.none).arc) (h2 : ((rows n).getD j Row.none).back = !((rows n).getD i Row.none).back) : (makeC n).Rev.getD i 0 = (j : Int) := by
  obtain ⟨j', q1, q2, q3, q4, q5⟩ := rev_spec hn hi
  rw [q3]
  have : j' = j := key_inj q1 hj (by unfold Row.key; rw [q4, h1, q5, h2])
  rw [this]
theorem map_tab {α : Type} (l : List Row) (f : Row → α) : l.map f = tab l.length (fun i => f (l.getD i Row.none)) := by
  refine List.ext_getElem (by simp [tab]) fun j h1 h2 => ?_
  have : j < l.length := by simpa using h1
  simp [tab, List.getD, this]
theorem col_hd {n : Net} (hn : NetOK n) : colL n 0 (fun _ r => r.hd) n.arcs.length = (makeC n).Head := by rw [colL_all hn]; exact (map_tab _ _).symm
theorem col_cap {n : Net} (hn : NetOK n) : colL n 0 (fun _ r => r.cap) n.arcs.length = (makeC n).Cap := by rw [colL_all hn]; exact (map_tab _ _).symm
theorem col_arc {n : Net} (hn : NetOK n) : colL n 0 (fun _ r => r.arc) n.arcs.length = (makeC n).Arc := by rw [colL_all hn]; exact (map_tab _ _).symm
theorem col_back {n : Net} (hn : NetOK n) : colL n false (fun _ r => r.back) n.arcs.length = (makeC n).Back := by rw [colL_all hn]; exact (map_tab _ _).symm
theorem col_rev {n : Net} (hn : NetOK n) : colL n 0 (revF n) n.arcs.length = (makeC n).Rev := by
  rw [colL_all hn]
  exact (tab_ext 0 (revOf_one hn (Nat.le_refl _)) fun i _ => rfl).symm
end Go.Proofs

set_option linter.unusedVariables false
set_option linter.unusedSimpArgs false
namespace Go.Proofs
open Go Go.Sx Go.RowKit
theorem lget_ne {l : List Int} {i j : Nat} (h : i ≠ j) (x : Int) : (l.set i x).getD j 0 = l.getD j 0 := by simp only [List.getD]; rw [List.getElem?_set_ne h]
theorem cntL_in {n : Net} (hn : NetOK n) {k j : Nat} (hk : k ≤ n.arcs.length) (hj : j < n.N.toNat + 1) : 0 ≤ (cntL n k).getD j 0 ∧ (cntL n k).getD j 0 ≤ 32768 := by
  unfold cntL; rw [tab_get _ _ hj]; unfold cntJ
  have := rowsAt_len n ((j : Int) - 1) k
  have := hn.many
  omega
theorem many_in {n : Net} (hn : NetOK n) {v : Nat} (hv : v ≤ n.N.toNat) : v * (2 * n.arcs.length) ≤ 134217728 := by
  have h1 := hn.many
  have h2 := hn.hi
  have := Nat.mul_le_mul (show v ≤ 4096 by omega) (show 2 * n.arcs.length ≤ 32768 by omega)
  omega
theorem preL_in {n : Net} (hn : NetOK n) (v : Nat) {j : Nat} (hj : j < n.N.toNat + 1) : 0 ≤ (preL n v).getD j 0 ∧ (preL n v).getD j 0 ≤ 268435456 := by
  unfold preL; rw [tab_get _ _ hj]; unfold preJ cntJ
  have := hn.many
  split
  · have h1 := rowsOf_len n j
    have h2 := many_in hn (show j ≤ n.N.toNat by omega)
    omega
  · have := rowsAt_len n ((j : Int) - 1) n.arcs.length
    omega
-- f78 "acequia/csr.counted"
set_option maxHeartbeats 8000000 in
set_option synthInstance.maxHeartbeats 400000 in
set_option synthInstance.maxSize 2000 in
theorem t_counted (n : Net) (h : NetOK n) : Tri Try.prog 78 [.agg [.val (.int .i64 n.N), .val (.int .i64 n.S), .val (.int .i64 n.T), .slc 0 0 n.arcs.length none]] [SO.arcs false n.arcs] (fun s H => s = .slc 1 0 ((makeC n).First.length) none ∧ H = [SO.arcs false n.arcs, SO.ints true .i64 ((makeC n).First)]) := by
  refine tri_of_w (fn := Try.f78) Try.func78 rfl (by simp [Try.f78]) ?_
  intro ρ w hρ
  refine w_seq ?_
  have hlo := h.lo
  have hhi := h.hi
  have hm := h.many
  -- region 0
  refine w_region ?_
  refine rw_t 1 rfl rfl rfl (n_box_agg (n := 1) rfl rfl ?_)
  refine rw_t 2 rfl rfl rfl (do_assign rfl ?_)
  refine rw_nil ?_
  refine w_seq ?_
  -- region 1
  refine w_region ?_
  refine rw_t 7 rfl rfl rfl (do_fieldaddr rfl ?_)
  refine rw_t 8 rfl rfl rfl (do_load_box rfl rfl rfl ?_)
  refine rw_t 9 rfl rfl rfl (do_add rfl rfl (by omega) ?_)
  refine rw_t 10 rfl rfl rfl (n_make (nm := 2) Int (encI .i64) 0 rfl rfl rfl (fun _ => rfl) (fun _ _ h => by simp [encI] at h; subst h; rfl) (by omega) (by omega) (by omega) rfl ?_)
  refine rw_cap 10 rfl ?_
  refine rw_t 3 rfl rfl rfl (do_assign rfl ?_)
  refine rw_nil ?_
  refine w_seq ?_
  refine w_seq ?_
  -- region 2
  refine w_region ?_
  refine rw_t 11 rfl rfl rfl (do_fieldaddr rfl ?_)
  refine rw_t 12 rfl rfl rfl (do_load_box rfl rfl rfl ?_)
  refine rw_t 13 rfl rfl rfl (do_len rfl ?_)
  refine rw_t 14 rfl rfl rfl (do_move rfl ?_)
  refine rw_nil ?_
  refine w_block ?_
  refine w_loopS (ι := Nat) (fun i => [(1, .ptr 1 0 0), (2, .val (.slice none 0 0)), (3, .slc 2 0 ((n.N + 1).toNat) none), (12, .slc 0 0 n.arcs.length none), (13, .val (.int .i64 ((n.arcs.length : Nat) : Int))), (14, .val (.int .i64 ((i : Nat) : Int)))]) (fun i => [SO.arcs false n.arcs, .box [.val (.int .i64 n.N), .val (.int .i64 n.S), .val (.int .i64 n.T), .slc 0 0 n.arcs.length none], SO.ints true .i64 (cntL n i)]) (fun i => n.arcs.length - i) (fun i => i ≤ n.arcs.length) (0) [0, 1, 2] (by simp) ⟨.inr ⟨_, rfl, .inl rfl⟩, .inr ⟨_, rfl, .inl rfl⟩, .inr ⟨_, rfl, .inl (congrArg (SO.ints true .i64) ((cntL_zero n).trans (by rw [show n.N.toNat + 1 = (n.N + 1).toNat by omega])))⟩, trivial⟩ rfl (pre_ok rfl) hρ ⟨⟨_, rfl, rfl⟩, ⟨_, rfl, rfl⟩, ⟨_, rfl, rfl⟩, ⟨_, rfl, rfl⟩, ⟨_, rfl, rfl⟩, ⟨_, rfl, rfl⟩, trivial⟩ ?_
  intro i hi
  refine w_seq ?_
  -- region 3
  refine w_region ?_
  refine rw_t 15 rfl rfl rfl (do_bin rfl rfl rfl ?_)
  refine rw_nil ?_
  refine w_seq ?_
  refine w_cond rfl (fun hc1 => ?_) (fun hc1 => ?_)
  all_goals try simp only [bs] at hc1
  rotate_left
  · refine w_exit ?_ -- exit 0
    refine w_seq ?_
    refine w_seq ?_
    -- region 9
    refine w_region ?_
    refine rw_t 40 rfl rfl rfl (do_fieldaddr rfl ?_)
    refine rw_t 41 rfl rfl rfl (do_load_box rfl rfl rfl ?_)
    refine rw_t 42 rfl rfl rfl (do_move rfl ?_)
    refine rw_nil ?_
    refine w_block ?_
    obtain rfl : i = n.arcs.length := by omega
    refine w_loopS (ι := Nat) (fun j => [(2, .val (.slice none 0 0)), (3, .slc 2 0 ((n.N + 1).toNat) none), (41, .val (.int .i64 n.N)), (42, .val (.int .i64 ((j : Nat) : Int)))]) (fun j => [SO.arcs false n.arcs, .box [.val (.int .i64 n.N), .val (.int .i64 n.S), .val (.int .i64 n.T), .slc 0 0 n.arcs.length none], SO.ints true .i64 (preL n j)]) (fun j => n.N.toNat - j) (fun j => j ≤ n.N.toNat) (0) [0, 1, 2] (by simp) ⟨.inr ⟨_, rfl, .inl rfl⟩, .inr ⟨_, rfl, .inl rfl⟩, .inr ⟨_, rfl, .inl (congrArg (SO.ints true .i64) (preL_zero h))⟩, trivial⟩ rfl (pre_ok rfl) hρ ⟨⟨_, rfl, rfl⟩, ⟨_, rfl, rfl⟩, ⟨_, rfl, rfl⟩, ⟨_, rfl, rfl⟩, trivial⟩ ?_
    intro j hj
    refine w_seq ?_
    -- region 10
    refine w_region ?_
    refine rw_t 43 rfl rfl rfl (do_bin rfl rfl rfl ?_)
    refine rw_nil ?_
    refine w_seq ?_
    refine w_cond rfl (fun hc2 => ?_) (fun hc2 => ?_)
    all_goals try simp only [bs] at hc2
    rotate_left
    · refine w_exit ?_ -- exit 2
      refine w_seq ?_
      -- region 14
      refine w_region ?_
      refine rw_t 57 rfl rfl rfl (do_move rfl ?_)
      refine rw_t 2 rfl rfl rfl (do_assign rfl ?_)
      refine rw_nil ?_
      obtain rfl : j = n.N.toNat := by omega
      refine w_ret ?_
      exact ret_eq (.inl rfl) (.cons (res_tmp rfl) .nil) [0, 2] (congrArg (fun k => SV.slc 2 0 k none) (show (n.N + 1).toNat = (makeC n).First.length by rw [first_tab, tab_len]; omega)) ⟨.inr ⟨_, rfl, .inl rfl⟩, .inr ⟨_, rfl, .inl (congrArg (SO.ints true .i64) ((preL_first n).symm))⟩, trivial⟩ rfl (pre_ok rfl)
    refine w_skip ?_
    refine w_seq ?_
    refine w_block ?_
    refine w_seq ?_
    -- region 11
    refine w_region ?_
    refine rw_t 44 rfl rfl rfl (do_move rfl ?_)
    refine rw_t 6 rfl rfl rfl (do_assign rfl ?_)
    refine rw_nil ?_
    have hl := preL_len n j
    have hp1 := preL_in h j (show j < n.N.toNat + 1 by omega)
    have hp2 := preL_in h j (show j + 1 < n.N.toNat + 1 by omega)
    have hj1 : ((j : Int) + 1).toNat = j + 1 := by omega
    have hp3 : (preL n j).getD ((j : Int) + 1).toNat 0 = (preL n j).getD (j + 1) 0 := by rw [hj1]
    -- region 12
    refine w_draw mixed [0, 0, 2, 7, 15, 0, 0, 96, 224] [511, 1023, 2047] (by kernel_rfl) (by kernel_rfl) rfl rfl rfl (hle hρ rfl) ?_
    refine ra_q (j := 0) rfl rfl rfl rfl (do_move rfl ⟨rfl, rfl⟩) (by rfl) ?_
    refine ra_q (j := 1) rfl rfl rfl rfl (do_move rfl ⟨rfl, rfl⟩) (by rfl) ?_
    refine ra_q (j := 2) rfl rfl rfl rfl (do_add rfl rfl (by omega) ⟨rfl, rfl⟩) (by rfl) ?_
    refine ra_q (j := 3) rfl rfl rfl rfl (do_ix0 rfl rfl rfl (by first | omega | (simp only [ls] <;> omega)) ⟨rfl, rfl⟩) (by rfl) ?_
    refine ra_q (j := 4) rfl rfl rfl rfl (do_load_arr rfl rfl (by first | omega | (simp only [ls] <;> omega)) rfl ⟨rfl, rfl⟩) (by rfl) ?_
    refine ra_q (j := 5) rfl rfl rfl rfl (do_move rfl ⟨rfl, rfl⟩) (by rfl) ?_
    refine ra_q (j := 6) rfl rfl rfl rfl (do_move rfl ⟨rfl, rfl⟩) (by rfl) ?_
    refine ra_q (j := 7) rfl rfl rfl rfl (do_ixn rfl rfl rfl (by first | omega | (simp only [ls] <;> omega)) ⟨rfl, rfl⟩) (by rfl) ?_
    refine ra_q (j := 8) rfl rfl rfl rfl (do_load_arr rfl rfl (by first | omega | (simp only [ls] <;> omega)) rfl ⟨rfl, rfl⟩) (by rfl) ?_
    refine n_done ?_
    refine rw_t 54 rfl rfl rfl (do_add rfl rfl (by omega) ?_)
    refine rw_t 55 rfl rfl rfl (do_ix0 rfl rfl rfl (by first | omega | (simp only [ls] <;> omega)) ?_)
    refine rw_u rfl rfl (n_store_arr (z := (((preL n j).getD ((((j : Nat) : Int) + 1).toNat) 0) + ((preL n j).getD j 0))) rfl rfl rfl (by first | omega | (simp only [ls] <;> omega)) rfl (by decide) rfl ?_)
    refine rw_nil ?_
    -- region 13
    refine w_region ?_
    refine rw_t 56 rfl rfl rfl (do_add rfl rfl (by omega) ?_)
    refine rw_t 42 rfl rfl rfl (do_move rfl ?_)
    refine rw_nil ?_
    refine ⟨j + 1, [0, 1, 2], by dsimp only; omega, by omega, ⟨.inr ⟨_, rfl, .inl rfl⟩, .inr ⟨_, rfl, .inl rfl⟩, .inr ⟨_, rfl, .inl (congrArg (SO.ints true .i64) (by rw [hj1]; exact preL_step (by omega)))⟩, trivial⟩, rfl, pre_ok rfl, ⟨⟨_, rfl, rfl⟩, ⟨_, rfl, rfl⟩, ⟨_, rfl, rfl⟩, ⟨_, rfl, rfl⟩, trivial⟩⟩
  refine w_skip ?_
  refine w_seq ?_
  refine w_block ?_
  refine w_seq ?_
  have ha := h.arc (show i < n.arcs.length by omega)
  have hl := cntL_len n i
  -- region 4
  refine w_region ?_
  refine rw_t 16 rfl rfl rfl (do_ixn rfl rfl rfl (by first | omega | (simp only [ls] <;> omega)) ?_)
  refine rw_t 17 rfl rfl rfl (n_load_arragg [_, _, _] rfl rfl rfl (by first | omega | (simp only [ls] <;> omega)) rfl ?_)
  refine rw_t 5 rfl rfl rfl (n_alloc (n := 3) rfl ?_)
  refine rw_u rfl rfl (n_store_whole rfl rfl rfl rfl rfl rfl ?_)
  refine rw_nil ?_
  refine w_seq ?_
  -- region 5
  refine w_region ?_
  refine rw_t 18 rfl rfl rfl (do_fieldaddr rfl ?_)
  refine rw_t 19 rfl rfl rfl (do_load_box rfl rfl rfl ?_)
  refine rw_t 20 rfl rfl rfl (do_fieldaddr rfl ?_)
  refine rw_t 21 rfl rfl rfl (do_load_box rfl rfl rfl ?_)
  refine rw_t 22 rfl rfl rfl (do_bin rfl rfl rfl ?_)
  refine rw_nil ?_
  refine w_cond rfl (fun hc3 => ?_) (fun hc3 => ?_)
  all_goals try simp only [bs] at hc3
  · refine w_seq ?_
    have hq1 := cntL_in h (show i ≤ n.arcs.length by omega) (show ((n.arcs.getD i Arc.none).frm + 1).toNat < n.N.toNat + 1 by omega)
    have hq2 := cntL_in h (show i ≤ n.arcs.length by omega) (show ((n.arcs.getD i Arc.none).to + 1).toNat < n.N.toNat + 1 by omega)
    -- region 6
    refine w_region ?_
    refine rw_t 23 rfl rfl rfl (do_move rfl ?_)
    refine rw_t 24 rfl rfl rfl (do_fieldaddr rfl ?_)
    refine rw_t 25 rfl rfl rfl (do_load_box rfl rfl rfl ?_)
    refine rw_t 26 rfl rfl rfl (do_add rfl rfl (by omega) ?_)
    refine rw_t 27 rfl rfl rfl (do_ix0 rfl rfl rfl (by first | omega | (simp only [ls] <;> omega)) ?_)
    refine rw_t 28 rfl rfl rfl (do_load_arr rfl rfl (by first | omega | (simp only [ls] <;> omega)) rfl ?_)
    refine rw_t 29 rfl rfl rfl (do_add rfl rfl (by omega) ?_)
    refine rw_t 30 rfl rfl rfl (do_ix0 rfl rfl rfl (by first | omega | (simp only [ls] <;> omega)) ?_)
    refine rw_u rfl rfl (n_store_arr (z := (((cntL n i).getD (((n.arcs.getD i Arc.none).frm + 1).toNat) 0) + 1)) rfl rfl rfl (by first | omega | (simp only [ls] <;> omega)) rfl (by decide) rfl ?_)
    refine rw_nil ?_
    have hgs : ((cntL n i).set ((n.arcs.getD i Arc.none).frm + 1).toNat ((cntL n i).getD ((n.arcs.getD i Arc.none).frm + 1).toNat 0 + 1)).getD ((n.arcs.getD i Arc.none).to + 1).toNat 0 = (cntL n i).getD ((n.arcs.getD i Arc.none).to + 1).toNat 0 := lget_ne (by omega) _
    -- region 7
    refine w_region ?_
    refine rw_t 31 rfl rfl rfl (do_move rfl ?_)
    refine rw_t 32 rfl rfl rfl (do_fieldaddr rfl ?_)
    refine rw_t 33 rfl rfl rfl (do_load_box rfl rfl rfl ?_)
    refine rw_t 34 rfl rfl rfl (do_add rfl rfl (by omega) ?_)
    refine rw_t 35 rfl rfl rfl (do_ix0 rfl rfl rfl (by first | omega | (simp only [ls] <;> omega)) ?_)
    refine rw_t 36 rfl rfl rfl (do_load_arr rfl rfl (by first | omega | (simp only [ls] <;> omega)) rfl ?_)
    refine rw_t 37 rfl rfl rfl (do_add rfl rfl (by omega) ?_)
    refine rw_t 38 rfl rfl rfl (do_ix0 rfl rfl rfl (by first | omega | (simp only [ls] <;> omega)) ?_)
    refine rw_u rfl rfl (n_store_arr (z := ((((cntL n i).set (((n.arcs.getD i Arc.none).frm + 1).toNat) (((cntL n i).getD (((n.arcs.getD i Arc.none).frm + 1).toNat) 0) + 1)).getD (((n.arcs.getD i Arc.none).to + 1).toNat) 0) + 1)) rfl rfl rfl (by first | omega | (simp only [ls] <;> omega)) rfl (by decide) rfl ?_)
    refine rw_nil ?_
    -- region 8
    refine w_region ?_
    refine rw_t 39 rfl rfl rfl (do_add rfl rfl (by omega) ?_)
    refine rw_t 14 rfl rfl rfl (do_move rfl ?_)
    refine rw_nil ?_
    refine ⟨i + 1, [0, 1, 2], by dsimp only; omega, by omega, ⟨.inr ⟨_, rfl, .inl rfl⟩, .inr ⟨_, rfl, .inl rfl⟩, .inr ⟨_, rfl, .inl (congrArg (SO.ints true .i64) (cntL_step h (by omega) hc3))⟩, trivial⟩, rfl, pre_ok rfl, ⟨⟨_, rfl, rfl⟩, ⟨_, rfl, rfl⟩, ⟨_, rfl, rfl⟩, ⟨_, rfl, rfl⟩, ⟨_, rfl, rfl⟩, ⟨_, rfl, rfl⟩, trivial⟩⟩
  · refine w_skip ?_
    -- region 8
    refine w_region ?_
    refine rw_t 39 rfl rfl rfl (do_add rfl rfl (by omega) ?_)
    refine rw_t 14 rfl rfl rfl (do_move rfl ?_)
    refine rw_nil ?_
    refine ⟨i + 1, [0, 1, 2], by dsimp only; omega, by omega, ⟨.inr ⟨_, rfl, .inl rfl⟩, .inr ⟨_, rfl, .inl rfl⟩, .inr ⟨_, rfl, .inl (congrArg (SO.ints true .i64) (cntL_same (by omega)))⟩, trivial⟩, rfl, pre_ok rfl, ⟨⟨_, rfl, rfl⟩, ⟨_, rfl, rfl⟩, ⟨_, rfl, rfl⟩, ⟨_, rfl, rfl⟩, ⟨_, rfl, rfl⟩, ⟨_, rfl, rfl⟩, trivial⟩⟩
-- f79 "acequia/csr.Make$1"
set_option maxHeartbeats 8000000 in
set_option synthInstance.maxHeartbeats 400000 in
set_option synthInstance.maxSize 2000 in
theorem t_put (c0 c1 c2 : Int) (nx fi hd rv cp ak : List Int) (bk : List Bool) (u to most arc : Int) (b : Bool) (nl lf lh lr lc la lb : Nat) (hnl : nl = nx.length ∧ ((lh = hd.length ∧ lc = hd.length) ∧ (la = hd.length ∧ lb = hd.length))) (hu : 0 ≤ u ∧ u < nx.length) (ha : 0 ≤ nx.getD u.toNat 0 ∧ nx.getD u.toNat 0 < hd.length) (hl : (cp.length = hd.length ∧ ak.length = hd.length) ∧ bk.length = hd.length) (hs : hd.length ≤ 268435456) : Tri Try.prog 79 [.val (.int .i64 u), .val (.int .i64 to), .val (.int .i64 most), .val (.int .i64 arc), .val (.bool b), .ptr 0 0 0, .ptr 2 0 0] [.box [.slc 1 0 nl none], SO.ints true .i64 nx, .box [.val (.int .i64 c0), .val (.int .i64 c1), .val (.int .i64 c2), .slc 3 0 lf none, .slc 4 0 lh none, .slc 5 0 lr none, .slc 6 0 lc none, .slc 7 0 la none, .slc 8 0 lb none], SO.ints true .i64 fi, SO.ints true .i64 hd, SO.ints true .i64 rv, SO.ints true .i64 cp, SO.ints true .i64 ak, SO.bools true bk] (fun s H => s = .val (.int .i64 (nx.getD u.toNat 0)) ∧ H = [.box [.slc 1 0 nl none], SO.ints true .i64 (nx.set u.toNat ((nx.getD u.toNat 0) + 1)), .box [.val (.int .i64 c0), .val (.int .i64 c1), .val (.int .i64 c2), .slc 3 0 lf none, .slc 4 0 lh none, .slc 5 0 lr none, .slc 6 0 lc none, .slc 7 0 la none, .slc 8 0 lb none], SO.ints true .i64 fi, SO.ints true .i64 (hd.set (nx.getD u.toNat 0).toNat to), SO.ints true .i64 rv, SO.ints true .i64 (cp.set (nx.getD u.toNat 0).toNat most), SO.ints true .i64 (ak.set (nx.getD u.toNat 0).toNat arc), SO.bools true (bk.set (nx.getD u.toNat 0).toNat b)]) := by
  refine tri_of_w (fn := Try.f79) Try.func79 rfl (by simp [Try.f79]) ?_
  intro ρ w hρ
  refine w_seq ?_
  -- region 0
  refine w_region ?_
  refine rw_t 12 rfl rfl rfl (do_assign rfl ?_)
  refine rw_nil ?_
  refine w_seq ?_
  -- region 1
  refine w_region ?_
  refine rw_t 14 rfl rfl rfl (do_load_box rfl rfl rfl ?_)
  refine rw_t 15 rfl rfl rfl (do_move rfl ?_)
  refine rw_t 16 rfl rfl rfl (do_ix0 rfl rfl rfl (by first | omega | (simp only [ls] <;> omega)) ?_)
  refine rw_t 17 rfl rfl rfl (do_load_arr rfl rfl (by first | omega | (simp only [ls] <;> omega)) rfl ?_)
  refine rw_t 13 rfl rfl rfl (do_assign rfl ?_)
  refine rw_nil ?_
  refine w_seq ?_
  -- region 2
  refine w_region ?_
  refine rw_t 18 rfl rfl rfl (do_load_box rfl rfl rfl ?_)
  refine rw_t 19 rfl rfl rfl (do_move rfl ?_)
  refine rw_t 20 rfl rfl rfl (do_ix0 rfl rfl rfl (by first | omega | (simp only [ls] <;> omega)) ?_)
  refine rw_t 21 rfl rfl rfl (do_load_arr rfl rfl (by first | omega | (simp only [ls] <;> omega)) rfl ?_)
  refine rw_t 22 rfl rfl rfl (do_add rfl rfl (by omega) ?_)
  refine rw_t 23 rfl rfl rfl (do_ix0 rfl rfl rfl (by first | omega | (simp only [ls] <;> omega)) ?_)
  refine rw_u rfl rfl (n_store_arr (z := ((nx.getD u.toNat 0) + 1)) rfl rfl rfl (by first | omega | (simp only [ls] <;> omega)) rfl (by decide) rfl ?_)
  refine rw_nil ?_
  refine w_seq ?_
  -- region 3
  refine wb_draw mixed [0, 1, 0, 0, 8, 0, 0, 64, 0, 0, 512, 0, 0, 0, 0, 0, 4103, 69639, 208959, 471103, 1012223, 2060799] [4194303, 8388607] [(17, 4, SO.ints true .i64 (hd.set ((nx.getD u.toNat 0).toNat) to)), (19, 6, SO.ints true .i64 (cp.set ((nx.getD u.toNat 0).toNat) most)), (21, 7, SO.ints true .i64 (ak.set ((nx.getD u.toNat 0).toNat) arc))] (by kernel_rfl) (by kernel_rfl) rfl rfl rfl rfl rfl (hle hρ rfl) ?_
  refine rb_q 0 rfl rfl rfl rfl rfl rfl (do_fieldaddr rfl ⟨rfl, rfl⟩) (by rfl) ?_
  refine rb_q 1 rfl rfl rfl rfl rfl rfl (do_load_box rfl rfl rfl ⟨rfl, rfl⟩) (by rfl) ?_
  refine rb_q 2 rfl rfl rfl rfl rfl rfl (do_move rfl ⟨rfl, rfl⟩) (by rfl) ?_
  refine rb_q 3 rfl rfl rfl rfl rfl rfl (do_fieldaddr rfl ⟨rfl, rfl⟩) (by rfl) ?_
  refine rb_q 4 rfl rfl rfl rfl rfl rfl (do_load_box rfl rfl rfl ⟨rfl, rfl⟩) (by rfl) ?_
  refine rb_q 5 rfl rfl rfl rfl rfl rfl (do_move rfl ⟨rfl, rfl⟩) (by rfl) ?_
  refine rb_q 6 rfl rfl rfl rfl rfl rfl (do_fieldaddr rfl ⟨rfl, rfl⟩) (by rfl) ?_
  refine rb_q 7 rfl rfl rfl rfl rfl rfl (do_load_box rfl rfl rfl ⟨rfl, rfl⟩) (by rfl) ?_
  refine rb_q 8 rfl rfl rfl rfl rfl rfl (do_move rfl ⟨rfl, rfl⟩) (by rfl) ?_
  refine rb_q 9 rfl rfl rfl rfl rfl rfl (do_fieldaddr rfl ⟨rfl, rfl⟩) (by rfl) ?_
  refine rb_q 10 rfl rfl rfl rfl rfl rfl (do_load_box rfl rfl rfl ⟨rfl, rfl⟩) (by rfl) ?_
  refine rb_q 11 rfl rfl rfl rfl rfl rfl (do_move rfl ⟨rfl, rfl⟩) (by rfl) ?_
  refine rb_q 12 rfl rfl rfl rfl rfl rfl (do_move rfl ⟨rfl, rfl⟩) (by rfl) ?_
  refine rb_q 13 rfl rfl rfl rfl rfl rfl (do_move rfl ⟨rfl, rfl⟩) (by rfl) ?_
  refine rb_q 14 rfl rfl rfl rfl rfl rfl (do_move rfl ⟨rfl, rfl⟩) (by rfl) ?_
  refine rb_q 15 rfl rfl rfl rfl rfl rfl (do_move rfl ⟨rfl, rfl⟩) (by rfl) ?_
  refine rb_q 16 rfl rfl rfl rfl rfl rfl (do_ix0 rfl rfl rfl (by first | omega | (simp only [ls] <;> omega)) ⟨rfl, rfl⟩) (by rfl) ?_
  refine rb_w 17 0 4 rfl rfl rfl trivial rfl rfl rfl rfl rfl (do_store_arr (z := to) rfl rfl rfl (by first | omega | (simp only [ls] <;> omega)) rfl (by decide) rfl ⟨rfl, rfl⟩) (by rfl) ?_
  refine rb_q 18 rfl rfl rfl rfl rfl rfl (do_ix0 rfl rfl rfl (by first | omega | (simp only [ls] <;> omega)) ⟨rfl, rfl⟩) (by rfl) ?_
  refine rb_w 19 1 6 rfl rfl rfl trivial rfl rfl rfl rfl rfl (do_store_arr (z := most) rfl rfl rfl (by first | omega | (simp only [ls] <;> omega)) rfl (by decide) rfl ⟨rfl, rfl⟩) (by rfl) ?_
  refine rb_q 20 rfl rfl rfl rfl rfl rfl (do_ix0 rfl rfl rfl (by first | omega | (simp only [ls] <;> omega)) ⟨rfl, rfl⟩) (by rfl) ?_
  refine rb_w 21 2 7 rfl rfl rfl trivial rfl rfl rfl rfl rfl (do_store_arr (z := arc) rfl rfl rfl (by first | omega | (simp only [ls] <;> omega)) rfl (by decide) rfl ⟨rfl, rfl⟩) (by rfl) ?_
  refine rb_done (HB := [.box [.slc 1 0 nl none], SO.ints true .i64 (nx.set u.toNat ((nx.getD u.toNat 0) + 1)), .box [.val (.int .i64 c0), .val (.int .i64 c1), .val (.int .i64 c2), .slc 3 0 lf none, .slc 4 0 lh none, .slc 5 0 lr none, .slc 6 0 lc none, .slc 7 0 la none, .slc 8 0 lb none], SO.ints true .i64 fi, SO.ints true .i64 (hd.set ((nx.getD u.toNat 0).toNat) to), SO.ints true .i64 rv, SO.ints true .i64 (cp.set ((nx.getD u.toNat 0).toNat) most), SO.ints true .i64 (ak.set ((nx.getD u.toNat 0).toNat) arc), SO.bools true bk]) rfl ?_
  refine rw_t 43 rfl rfl rfl (do_ix0 rfl rfl rfl (by first | omega | (simp only [ls] <;> omega)) ?_)
  refine rw_u rfl rfl (n_store_arr (z := b) rfl rfl rfl (by first | omega | (simp only [ls] <;> omega)) rfl (by decide) rfl ?_)
  refine rw_nil ?_
  refine w_seq ?_
  -- region 4
  refine w_region ?_
  refine rw_t 44 rfl rfl rfl (do_move rfl ?_)
  refine rw_t 12 rfl rfl rfl (do_assign rfl ?_)
  refine rw_nil ?_
  refine w_ret ?_
  exact ret_eq (.inl rfl) (.cons (res_tmp rfl) .nil) [0, 1, 2, 3, 4, 5, 6, 7, 8] (rfl) ⟨.inr ⟨_, rfl, .inl rfl⟩, .inr ⟨_, rfl, .inl rfl⟩, .inr ⟨_, rfl, .inl rfl⟩, .inr ⟨_, rfl, .inl rfl⟩, .inr ⟨_, rfl, .inl rfl⟩, .inr ⟨_, rfl, .inl rfl⟩, .inr ⟨_, rfl, .inl rfl⟩, .inr ⟨_, rfl, .inl rfl⟩, .inr ⟨_, rfl, .inl rfl⟩, trivial⟩ rfl (pre_ok rfl)
end Go.Proofs

set_option linter.unusedVariables false
set_option linter.unusedSimpArgs false
namespace Go.Proofs
open Go Go.Sx Go.RowKit
theorem first_last (n : Net) : (makeC n).First.getD n.N.toNat 0 = (((rows n).length : Nat) : Int) := by
  rw [first_tab, tab_get _ _ (by omega)]; rfl
theorem first_len (n : Net) : (makeC n).First.length = n.N.toNat + 1 := by rw [first_tab, tab_len]
theorem rows_many {n : Net} (hn : NetOK n) : (rows n).length ≤ 134217728 := by
  have h1 := rowsOf_len n n.N.toNat
  have h2 := many_in hn (Nat.le_refl n.N.toNat)
  show (rowsOf n n.N.toNat).length ≤ _
  omega
-- f60 "acequia/csr.Make"
set_option maxHeartbeats 8000000 in
set_option synthInstance.maxHeartbeats 400000 in
set_option synthInstance.maxSize 2000 in
theorem t_pMake (n : Net) (h : NetOK n) : Tri Try.prog 60 [.agg [.val (.int .i64 n.N), .val (.int .i64 n.S), .val (.int .i64 n.T), .slc 0 0 n.arcs.length none]] [SO.arcs false n.arcs] (fun s H => s = .tup [.agg [.val (.int .i64 ((makeC n).N)), .val (.int .i64 ((makeC n).S)), .val (.int .i64 ((makeC n).T)), .slc 1 0 ((makeC n).First.length) none, .slc 2 0 ((makeC n).Head.length) none, .slc 3 0 ((makeC n).Rev.length) none, .slc 4 0 ((makeC n).Cap.length) none, .slc 5 0 ((makeC n).Arc.length) none, .slc 6 0 ((makeC n).Back.length) none], .val (.int .i64 0)] ∧ H = [SO.arcs false n.arcs, SO.ints true .i64 ((makeC n).First), SO.ints true .i64 ((makeC n).Head), SO.ints true .i64 ((makeC n).Rev), SO.ints true .i64 ((makeC n).Cap), SO.ints true .i64 ((makeC n).Arc), SO.bools true ((makeC n).Back)]) := by
  refine tri_of_w (fn := Try.f60) Try.func60 rfl (by simp [Try.f60]) ?_
  intro ρ w hρ
  refine w_seq ?_
  have hlo := h.lo
  have hhi := h.hi
  have hm := h.many
  -- region 0
  refine w_region ?_
  refine rw_t 1 rfl rfl rfl (n_box_agg (n := 1) rfl rfl ?_)
  refine rw_t 2 rfl rfl rfl (n_alloc (n := 2) rfl ?_)
  refine rw_t 3 rfl rfl rfl (do_assign rfl ?_)
  refine rw_nil ?_
  refine w_seq ?_
  refine w_seq ?_
  -- region 1
  refine w_region ?_
  refine rw_t 13 rfl rfl rfl (n_load_boxagg [_, _, _, _] rfl rfl (Nat.le_of_ble_eq_true rfl) rfl ?_)
  refine rw_t 14 rfl rfl rfl (do_callR (X' := .val (.int .i64 0)) rfl rfl (t_pCheck (n := n) (h)) [0] ⟨.inr ⟨_, rfl, srv⟩, trivial⟩ rfl rfl rfl ?_)
  refine rw_t 4 rfl rfl rfl (do_assign rfl ?_)
  refine rw_nil ?_
  refine w_seq ?_
  -- region 2
  refine w_region ?_
  refine rw_t 15 rfl rfl rfl (do_move rfl ?_)
  refine rw_t 16 rfl rfl rfl (do_bin rfl rfl rfl ?_)
  refine rw_nil ?_
  refine w_cond rfl (fun hc1 => ?_) (fun hc1 => ?_)
  · exfalso; simp at hc1
  refine w_skip ?_
  refine w_seq ?_
  have hfl := first_len n
  have hrm := rows_many h
  -- region 4
  refine w_draw mixed [0, 1, 0, 4, 0, 16, 0, 64, 255, 0] [1023] (by kernel_rfl) (by kernel_rfl) rfl rfl rfl (hle hρ rfl) ?_
  refine ra_q (j := 0) rfl rfl rfl rfl (do_fieldaddr rfl ⟨rfl, rfl⟩) (by rfl) ?_
  refine ra_q (j := 1) rfl rfl rfl rfl (do_load_box rfl rfl rfl ⟨rfl, rfl⟩) (by rfl) ?_
  refine ra_q (j := 2) rfl rfl rfl rfl (do_fieldaddr rfl ⟨rfl, rfl⟩) (by rfl) ?_
  refine ra_q (j := 3) rfl rfl rfl rfl (do_load_box rfl rfl rfl ⟨rfl, rfl⟩) (by rfl) ?_
  refine ra_q (j := 4) rfl rfl rfl rfl (do_fieldaddr rfl ⟨rfl, rfl⟩) (by rfl) ?_
  refine ra_q (j := 5) rfl rfl rfl rfl (do_load_box rfl rfl rfl ⟨rfl, rfl⟩) (by rfl) ?_
  refine ra_q (j := 6) rfl rfl rfl rfl (n_load_boxagg [_, _, _, _] rfl rfl (Nat.le_of_ble_eq_true rfl) rfl ⟨rfl, rfl⟩) (by rfl) ?_
  refine ra_n (j := 7) rfl rfl rfl rfl (g_callN (X' := .slc 3 0 ((makeC n).First.length) none) (N' := [SO.ints true .i64 ((makeC n).First)]) rfl rfl (t_counted (n := n) (h)) [0] ⟨.inr ⟨_, rfl, srv⟩, trivial⟩ rfl rfl rfl rfl rfl ⟨rfl, rfl⟩) (by rfl) (by rfl) (by rfl) ?_
  refine ra_q (j := 8) rfl rfl rfl rfl (do_build (out := [_, _, _, _, _, _, _, _, _]) rfl rfl ⟨rfl, rfl⟩) (by rfl) ?_
  refine ra_n (j := 9) rfl rfl rfl rfl (g_alloc (n := 4) rfl ⟨rfl, rfl⟩) (by rfl) (by rfl) (by rfl) ?_
  refine n_done ?_
  refine rw_u rfl rfl (n_store_whole rfl rfl rfl rfl rfl rfl ?_)
  refine rw_nil ?_
  refine w_seq ?_
  -- region 5
  refine w_region ?_
  refine rw_t 28 rfl rfl rfl (do_fieldaddr rfl ?_)
  refine rw_t 29 rfl rfl rfl (do_load_box rfl rfl rfl ?_)
  refine rw_t 30 rfl rfl rfl (do_fieldaddr rfl ?_)
  refine rw_t 31 rfl rfl rfl (do_load_box rfl rfl rfl ?_)
  refine rw_t 32 rfl rfl rfl (do_ix0 rfl rfl rfl (by first | omega | (simp only [ls] <;> omega)) ?_)
  refine rw_t 33 rfl rfl rfl (do_load_arr rfl rfl (by first | omega | (simp only [ls] <;> omega)) rfl ?_)
  refine rw_as (.val (.int .i64 (((rows n).length : Nat) : Int))) (val_congr (first_last n)) ?_
  refine rw_t 6 rfl rfl rfl (do_assign rfl ?_)
  refine rw_nil ?_
  refine w_seq ?_
  -- region 6
  refine wb_draw mixed [0, 1, 0, 4, 0, 16, 0, 64, 0, 256, 3, 1027, 3087, 7183, 15423, 31807, 64767, 130303] [262143, 524287] [(11, 4, .box [.val (.int .i64 n.N), .val (.int .i64 n.S), .val (.int .i64 n.T), .slc 3 0 ((makeC n).First.length) none, .slc 5 0 ((((rows n).length : Nat) : Int).toNat) (some ((((rows n).length : Nat) : Int).toNat)), .val (.slice none 0 0), .val (.slice none 0 0), .val (.slice none 0 0), .val (.slice none 0 0)]), (13, 4, .box [.val (.int .i64 n.N), .val (.int .i64 n.S), .val (.int .i64 n.T), .slc 3 0 ((makeC n).First.length) none, .slc 5 0 ((((rows n).length : Nat) : Int).toNat) (some ((((rows n).length : Nat) : Int).toNat)), .slc 6 0 ((((rows n).length : Nat) : Int).toNat) (some ((((rows n).length : Nat) : Int).toNat)), .val (.slice none 0 0), .val (.slice none 0 0), .val (.slice none 0 0)]), (15, 4, .box [.val (.int .i64 n.N), .val (.int .i64 n.S), .val (.int .i64 n.T), .slc 3 0 ((makeC n).First.length) none, .slc 5 0 ((((rows n).length : Nat) : Int).toNat) (some ((((rows n).length : Nat) : Int).toNat)), .slc 6 0 ((((rows n).length : Nat) : Int).toNat) (some ((((rows n).length : Nat) : Int).toNat)), .slc 7 0 ((((rows n).length : Nat) : Int).toNat) (some ((((rows n).length : Nat) : Int).toNat)), .val (.slice none 0 0), .val (.slice none 0 0)]), (17, 4, .box [.val (.int .i64 n.N), .val (.int .i64 n.S), .val (.int .i64 n.T), .slc 3 0 ((makeC n).First.length) none, .slc 5 0 ((((rows n).length : Nat) : Int).toNat) (some ((((rows n).length : Nat) : Int).toNat)), .slc 6 0 ((((rows n).length : Nat) : Int).toNat) (some ((((rows n).length : Nat) : Int).toNat)), .slc 7 0 ((((rows n).length : Nat) : Int).toNat) (some ((((rows n).length : Nat) : Int).toNat)), .slc 8 0 ((((rows n).length : Nat) : Int).toNat) (some ((((rows n).length : Nat) : Int).toNat)), .val (.slice none 0 0)])] (by kernel_rfl) (by kernel_rfl) rfl rfl rfl rfl rfl (hle hρ rfl) ?_
  refine rb_q 0 rfl rfl rfl rfl rfl rfl (do_move rfl ⟨rfl, rfl⟩) (by rfl) ?_
  refine rb_n 1 rfl rfl rfl rfl rfl rfl (g_make (nm := 5) Int (encI .i64) 0 rfl rfl rfl (fun _ => rfl) (fun _ _ h => by simp [encI] at h; subst h; rfl) (by omega) (by omega) (by omega) rfl ⟨rfl, rfl⟩) (by rfl) (by rfl) (by rfl) ?_
  refine rb_q 2 rfl rfl rfl rfl rfl rfl (do_move rfl ⟨rfl, rfl⟩) (by rfl) ?_
  refine rb_n 3 rfl rfl rfl rfl rfl rfl (g_make (nm := 6) Int (encI .i64) 0 rfl rfl rfl (fun _ => rfl) (fun _ _ h => by simp [encI] at h; subst h; rfl) (by omega) (by omega) (by omega) rfl ⟨rfl, rfl⟩) (by rfl) (by rfl) (by rfl) ?_
  refine rb_q 4 rfl rfl rfl rfl rfl rfl (do_move rfl ⟨rfl, rfl⟩) (by rfl) ?_
  refine rb_n 5 rfl rfl rfl rfl rfl rfl (g_make (nm := 7) Int (encI .i64) 0 rfl rfl rfl (fun _ => rfl) (fun _ _ h => by simp [encI] at h; subst h; rfl) (by omega) (by omega) (by omega) rfl ⟨rfl, rfl⟩) (by rfl) (by rfl) (by rfl) ?_
  refine rb_q 6 rfl rfl rfl rfl rfl rfl (do_move rfl ⟨rfl, rfl⟩) (by rfl) ?_
  refine rb_n 7 rfl rfl rfl rfl rfl rfl (g_make (nm := 8) Int (encI .i64) 0 rfl rfl rfl (fun _ => rfl) (fun _ _ h => by simp [encI] at h; subst h; rfl) (by omega) (by omega) (by omega) rfl ⟨rfl, rfl⟩) (by rfl) (by rfl) (by rfl) ?_
  refine rb_q 8 rfl rfl rfl rfl rfl rfl (do_move rfl ⟨rfl, rfl⟩) (by rfl) ?_
  refine rb_n 9 rfl rfl rfl rfl rfl rfl (g_make (nm := 9) Bool encB false rfl rfl rfl (fun _ => rfl) (fun _ _ h => by simp [encB] at h; subst h; rfl) (by omega) (by omega) (by omega) rfl ⟨rfl, rfl⟩) (by rfl) (by rfl) (by rfl) ?_
  refine rb_q 10 rfl rfl rfl rfl rfl rfl (do_fieldaddr rfl ⟨rfl, rfl⟩) (by rfl) ?_
  refine rb_w 11 0 4 rfl rfl rfl trivial rfl rfl rfl rfl rfl (do_store_box rfl rfl rfl (Nat.le_of_ble_eq_true rfl) rfl ⟨rfl, rfl⟩) (by rfl) ?_
  refine rb_q 12 rfl rfl rfl rfl rfl rfl (do_fieldaddr rfl ⟨rfl, rfl⟩) (by rfl) ?_
  refine rb_w 13 1 4 rfl rfl rfl trivial rfl rfl rfl rfl rfl (do_store_box rfl rfl rfl (Nat.le_of_ble_eq_true rfl) rfl ⟨rfl, rfl⟩) (by rfl) ?_
  refine rb_q 14 rfl rfl rfl rfl rfl rfl (do_fieldaddr rfl ⟨rfl, rfl⟩) (by rfl) ?_
  refine rb_w 15 2 4 rfl rfl rfl trivial rfl rfl rfl rfl rfl (do_store_box rfl rfl rfl (Nat.le_of_ble_eq_true rfl) rfl ⟨rfl, rfl⟩) (by rfl) ?_
  refine rb_q 16 rfl rfl rfl rfl rfl rfl (do_fieldaddr rfl ⟨rfl, rfl⟩) (by rfl) ?_
  refine rb_w 17 3 4 rfl rfl rfl trivial rfl rfl rfl rfl rfl (do_store_box rfl rfl rfl (Nat.le_of_ble_eq_true rfl) rfl ⟨rfl, rfl⟩) (by rfl) ?_
  refine rb_done (HB := [SO.arcs false n.arcs, .box [.val (.int .i64 n.N), .val (.int .i64 n.S), .val (.int .i64 n.T), .slc 0 0 n.arcs.length none], .box [.val (.int .i64 0), .val (.int .i64 0), .val (.int .i64 0), .val (.slice none 0 0), .val (.slice none 0 0), .val (.slice none 0 0), .val (.slice none 0 0), .val (.slice none 0 0), .val (.slice none 0 0)], SO.ints true .i64 ((makeC n).First), .box [.val (.int .i64 n.N), .val (.int .i64 n.S), .val (.int .i64 n.T), .slc 3 0 ((makeC n).First.length) none, .slc 5 0 ((((rows n).length : Nat) : Int).toNat) (some ((((rows n).length : Nat) : Int).toNat)), .slc 6 0 ((((rows n).length : Nat) : Int).toNat) (some ((((rows n).length : Nat) : Int).toNat)), .slc 7 0 ((((rows n).length : Nat) : Int).toNat) (some ((((rows n).length : Nat) : Int).toNat)), .slc 8 0 ((((rows n).length : Nat) : Int).toNat) (some ((((rows n).length : Nat) : Int).toNat)), .val (.slice none 0 0)]]) rfl ?_
  refine rw_t 48 rfl rfl rfl (do_fieldaddr rfl ?_)
  refine rw_u rfl rfl (n_store_box (f := 8) rfl rfl rfl (Nat.le_of_ble_eq_true rfl) rfl ?_)
  refine rw_nil ?_
  refine w_seq ?_
  -- region 7
  refine w_region ?_
  refine rw_t 49 rfl rfl rfl (do_fieldaddr rfl ?_)
  refine rw_t 50 rfl rfl rfl (do_load_box rfl rfl rfl ?_)
  refine rw_t 51 rfl rfl rfl (n_callN (X' := .slc 10 0 (((makeC n).First).length) none) (N' := [SO.ints true .i64 ((makeC n).First)]) rfl rfl (t_CloneInts (xs := (makeC n).First) (by omega)) [3] ⟨.inr ⟨_, rfl, srv⟩, trivial⟩ rfl rfl rfl rfl rfl ?_)
  refine rw_t 7 rfl rfl rfl (n_alloc (n := 11) rfl ?_)
  refine rw_u rfl rfl (n_store_box (f := 0) rfl rfl rfl (Nat.le_of_ble_eq_true rfl) rfl ?_)
  refine rw_nil ?_
  refine w_seq ?_
  -- region 8
  refine w_region ?_
  refine rw_t 52 rfl rfl rfl (do_makefunc rfl rfl ?_)
  refine rw_t 8 rfl rfl rfl (do_assign rfl ?_)
  refine rw_nil ?_
  refine w_seq ?_
  refine w_seq ?_
  -- region 9
  refine w_region ?_
  refine rw_t 53 rfl rfl rfl (do_fieldaddr rfl ?_)
  refine rw_t 54 rfl rfl rfl (do_load_box rfl rfl rfl ?_)
  refine rw_t 55 rfl rfl rfl (do_len rfl ?_)
  refine rw_t 56 rfl rfl rfl (do_move rfl ?_)
  refine rw_nil ?_
  refine w_block ?_
  refine n_capB 4 4 rfl rfl ?_
  refine n_capB 4 5 rfl rfl ?_
  refine n_capB 4 6 rfl rfl ?_
  refine n_capB 4 7 rfl rfl ?_
  refine n_capB 4 8 rfl rfl ?_
  refine w_loopS (ι := Nat) (fun i => [(2, .ptr 2 0 0), (3, .val (.int .i64 0)), (5, .ptr 4 0 0), (8, .func 79 [] [.ptr 11 0 0, .ptr 4 0 0]), (54, .slc 0 0 n.arcs.length none), (55, .val (.int .i64 ((n.arcs.length : Nat) : Int))), (56, .val (.int .i64 ((i : Nat) : Int)))]) (fun i => [SO.arcs false n.arcs, .box [.val (.int .i64 n.N), .val (.int .i64 n.S), .val (.int .i64 n.T), .slc 0 0 n.arcs.length none], .box [.val (.int .i64 0), .val (.int .i64 0), .val (.int .i64 0), .val (.slice none 0 0), .val (.slice none 0 0), .val (.slice none 0 0), .val (.slice none 0 0), .val (.slice none 0 0), .val (.slice none 0 0)], SO.ints true .i64 ((makeC n).First), .box [.val (.int .i64 n.N), .val (.int .i64 n.S), .val (.int .i64 n.T), .slc 3 0 ((makeC n).First.length) none, .slc 5 0 ((rows n).length) none, .slc 6 0 ((rows n).length) none, .slc 7 0 ((rows n).length) none, .slc 8 0 ((rows n).length) none, .slc 9 0 ((rows n).length) none], SO.ints true .i64 (colL n 0 (fun _ r => r.hd) i), SO.ints true .i64 (colL n 0 (revF n) i), SO.ints true .i64 (colL n 0 (fun _ r => r.cap) i), SO.ints true .i64 (colL n 0 (fun _ r => r.arc) i), SO.bools true (colL n false (fun _ r => r.back) i), SO.ints true .i64 (nxtL n i), .box [.slc 10 0 (((makeC n).First).length) none]]) (fun i => n.arcs.length - i) (fun i => i ≤ n.arcs.length) (0) [0, 1, 2, 3, 4, 5, 6, 7, 8, 9, 10, 11] (by simp) ⟨.inr ⟨_, rfl, .inl rfl⟩, .inr ⟨_, rfl, .inl rfl⟩, .inr ⟨_, rfl, .inl rfl⟩, .inr ⟨_, rfl, .inl rfl⟩, .inr ⟨_, rfl, .inl rfl⟩, .inr ⟨_, rfl, .inl (congrArg (SO.ints true .i64) (colL_zero h _ _))⟩, .inr ⟨_, rfl, .inl (congrArg (SO.ints true .i64) (colL_zero h _ _))⟩, .inr ⟨_, rfl, .inl (congrArg (SO.ints true .i64) (colL_zero h _ _))⟩, .inr ⟨_, rfl, .inl (congrArg (SO.ints true .i64) (colL_zero h _ _))⟩, .inr ⟨_, rfl, .inl (congrArg (SO.bools true) (colL_zero h _ _))⟩, .inr ⟨_, rfl, .inl (congrArg (SO.ints true .i64) (nxtL_zero n))⟩, .inr ⟨_, rfl, .inl rfl⟩, trivial⟩ rfl (pre_ok rfl) hρ ⟨⟨_, rfl, rfl⟩, ⟨_, rfl, rfl⟩, ⟨_, rfl, rfl⟩, ⟨_, rfl, rfl⟩, ⟨_, rfl, rfl⟩, ⟨_, rfl, rfl⟩, ⟨_, rfl, rfl⟩, trivial⟩ ?_
  intro i hi
  refine w_seq ?_
  -- region 10
  refine w_region ?_
  refine rw_t 57 rfl rfl rfl (do_bin rfl rfl rfl ?_)
  refine rw_nil ?_
  refine w_seq ?_
  refine w_cond rfl (fun hc2 => ?_) (fun hc2 => ?_)
  all_goals try simp only [bs] at hc2
  rotate_left
  · refine w_exit ?_ -- exit 0
    refine w_seq ?_
    -- region 17
    refine w_region ?_
    refine rw_t 93 rfl rfl rfl (n_load_boxagg [_, _, _, _, _, _, _, _, _] rfl rfl (Nat.le_of_ble_eq_true rfl) rfl ?_)
    refine rw_u rfl rfl (n_store_whole rfl rfl rfl rfl rfl rfl ?_)
    refine rw_t 3 rfl rfl rfl (do_assign rfl ?_)
    refine rw_nil ?_
    obtain rfl : i = n.arcs.length := by omega
    have e1 : (makeC n).Head.length = (rows n).length := make_head n
    have e2 : (makeC n).Rev.length = (rows n).length := revOf_one h (Nat.le_refl _)
    have e3 : (makeC n).Cap.length = (rows n).length := by simp [makeC]
    have e4 : (makeC n).Arc.length = (rows n).length := by simp [makeC]
    have e5 : (makeC n).Back.length = (rows n).length := by simp [makeC]
    refine w_ret ?_
    exact ret_eq (.inl rfl) (.cons (res_agg rfl rfl (Nat.le_of_ble_eq_true rfl)) (.cons (res_tmp rfl) .nil)) [0, 3, 5, 6, 7, 8, 9] (by rw [e1, e2, e3, e4, e5]; rfl) ⟨.inr ⟨_, rfl, .inl rfl⟩, .inr ⟨_, rfl, .inl rfl⟩, .inr ⟨_, rfl, .inl (congrArg (SO.ints true .i64) ((col_hd h).symm))⟩, .inr ⟨_, rfl, .inl (congrArg (SO.ints true .i64) ((col_rev h).symm))⟩, .inr ⟨_, rfl, .inl (congrArg (SO.ints true .i64) ((col_cap h).symm))⟩, .inr ⟨_, rfl, .inl (congrArg (SO.ints true .i64) ((col_arc h).symm))⟩, .inr ⟨_, rfl, .inl (congrArg (SO.bools true) ((col_back h).symm))⟩, trivial⟩ rfl (pre_ok rfl)
  refine w_skip ?_
  refine w_seq ?_
  refine w_block ?_
  refine w_seq ?_
  -- region 11
  refine w_region ?_
  refine rw_t 58 rfl rfl rfl (do_move rfl ?_)
  refine rw_t 59 rfl rfl rfl (do_ixn rfl rfl rfl (by first | omega | (simp only [ls] <;> omega)) ?_)
  refine rw_t 60 rfl rfl rfl (n_load_arragg [_, _, _] rfl rfl rfl (by first | omega | (simp only [ls] <;> omega)) rfl ?_)
  refine rw_t 10 rfl rfl rfl (n_alloc (n := 12) rfl ?_)
  refine rw_t 9 rfl rfl rfl (do_assign rfl ?_)
  refine rw_u rfl rfl (n_store_whole rfl rfl rfl rfl rfl rfl ?_)
  refine rw_nil ?_
  refine w_seq ?_
  refine w_seq ?_
  have ha := h.arc (show i < n.arcs.length by omega)
  have hnl := nxtL_len n i
  -- region 12
  refine w_region ?_
  refine rw_t 61 rfl rfl rfl (do_fieldaddr rfl ?_)
  refine rw_t 62 rfl rfl rfl (do_load_box rfl rfl rfl ?_)
  refine rw_t 63 rfl rfl rfl (do_fieldaddr rfl ?_)
  refine rw_t 64 rfl rfl rfl (do_load_box rfl rfl rfl ?_)
  refine rw_t 65 rfl rfl rfl (do_bin rfl rfl rfl ?_)
  refine rw_nil ?_
  refine w_cond rfl (fun hc3 => ?_) (fun hc3 => ?_)
  all_goals try simp only [bs] at hc3
  · refine w_exit ?_ -- exit 1
    -- region 16
    refine w_region ?_
    refine rw_t 92 rfl rfl rfl (do_add rfl rfl (by omega) ?_)
    refine rw_t 56 rfl rfl rfl (do_move rfl ?_)
    refine rw_nil ?_
    refine ⟨i + 1, [0, 1, 2, 3, 4, 5, 6, 7, 8, 9, 10, 11], by dsimp only; omega, by omega, ⟨.inr ⟨_, rfl, .inl rfl⟩, .inr ⟨_, rfl, .inl rfl⟩, .inr ⟨_, rfl, .inl rfl⟩, .inr ⟨_, rfl, .inl rfl⟩, .inr ⟨_, rfl, .inl rfl⟩, .inr ⟨_, rfl, .inl (congrArg (SO.ints true .i64) (colL_same h (by omega)))⟩, .inr ⟨_, rfl, .inl (congrArg (SO.ints true .i64) (colL_same h (by omega)))⟩, .inr ⟨_, rfl, .inl (congrArg (SO.ints true .i64) (colL_same h (by omega)))⟩, .inr ⟨_, rfl, .inl (congrArg (SO.ints true .i64) (colL_same h (by omega)))⟩, .inr ⟨_, rfl, .inl (congrArg (SO.bools true) (colL_same h (by omega)))⟩, .inr ⟨_, rfl, .inl (congrArg (SO.ints true .i64) (nxtL_same (by omega)))⟩, .inr ⟨_, rfl, .inl rfl⟩, trivial⟩, rfl, pre_ok rfl, ⟨⟨_, rfl, rfl⟩, ⟨_, rfl, rfl⟩, ⟨_, rfl, rfl⟩, ⟨_, rfl, rfl⟩, ⟨_, rfl, rfl⟩, ⟨_, rfl, rfl⟩, ⟨_, rfl, rfl⟩, trivial⟩⟩
  refine w_skip ?_
  refine w_seq ?_
  have hne : (n.arcs.getD i Arc.none).frm ≠ (n.arcs.getD i Arc.none).to := by omega
  have hF := row_frm h (show i < n.arcs.length by omega) hne
  have hT := row_to h (show i < n.arcs.length by omega) hne
  have hgF : (nxtL n i).getD (n.arcs.getD i Arc.none).frm.toNat 0 = nxtJ n i (n.arcs.getD i Arc.none).frm.toNat := tab_get _ _ (by omega)
  have hgT : (nxtL n i).getD (n.arcs.getD i Arc.none).to.toNat 0 = nxtJ n i (n.arcs.getD i Arc.none).to.toNat := tab_get _ _ (by omega)
  have hgT2 : ((nxtL n i).set (n.arcs.getD i Arc.none).frm.toNat ((nxtL n i).getD (n.arcs.getD i Arc.none).frm.toNat 0 + 1)).getD (n.arcs.getD i Arc.none).to.toNat 0 = nxtJ n i (n.arcs.getD i Arc.none).to.toNat := (lget_ne (by omega) _).trans hgT
  have hcr : (colL n 0 (revF n) i).length = (rows n).length := colL_len _ _ _ _
  have hbF : 0 ≤ (nxtL n i).getD (n.arcs.getD i Arc.none).frm.toNat 0 ∧ (nxtL n i).getD (n.arcs.getD i Arc.none).frm.toNat 0 < ((rows n).length : Int) := by rw [hgF]; exact hF.1
  have hbT : 0 ≤ ((nxtL n i).set (n.arcs.getD i Arc.none).frm.toNat ((nxtL n i).getD (n.arcs.getD i Arc.none).frm.toNat 0 + 1)).getD (n.arcs.getD i Arc.none).to.toNat 0 ∧ ((nxtL n i).set (n.arcs.getD i Arc.none).frm.toNat ((nxtL n i).getD (n.arcs.getD i Arc.none).frm.toNat 0 + 1)).getD (n.arcs.getD i Arc.none).to.toNat 0 < ((rows n).length : Int) := by rw [hgT2]; exact hT.1
  have hcb : (colL n false (fun _ r => r.back) i).length = (rows n).length := colL_len _ _ _ _
  -- region 13
  refine w_region ?_
  refine rw_t 66 rfl rfl rfl (do_move rfl ?_)
  refine rw_t 67 rfl rfl rfl (do_fieldaddr rfl ?_)
  refine rw_t 68 rfl rfl rfl (do_load_box rfl rfl rfl ?_)
  refine rw_t 69 rfl rfl rfl (do_fieldaddr rfl ?_)
  refine rw_t 70 rfl rfl rfl (do_load_box rfl rfl rfl ?_)
  refine rw_t 71 rfl rfl rfl (do_fieldaddr rfl ?_)
  refine rw_t 72 rfl rfl rfl (do_load_box rfl rfl rfl ?_)
  refine rw_t 73 rfl rfl rfl (do_move rfl ?_)
  refine rw_t 74 rfl rfl rfl (n_callW (X' := .val (.int .i64 ((nxtL n i).getD ((n.arcs.getD i Arc.none).frm).toNat 0))) (H' := [SO.arcs false n.arcs, .box [.val (.int .i64 n.N), .val (.int .i64 n.S), .val (.int .i64 n.T), .slc 0 0 n.arcs.length none], .box [.val (.int .i64 0), .val (.int .i64 0), .val (.int .i64 0), .val (.slice none 0 0), .val (.slice none 0 0), .val (.slice none 0 0), .val (.slice none 0 0), .val (.slice none 0 0), .val (.slice none 0 0)], SO.ints true .i64 ((makeC n).First), .box [.val (.int .i64 n.N), .val (.int .i64 n.S), .val (.int .i64 n.T), .slc 3 0 ((makeC n).First.length) none, .slc 5 0 ((rows n).length) none, .slc 6 0 ((rows n).length) none, .slc 7 0 ((rows n).length) none, .slc 8 0 ((rows n).length) none, .slc 9 0 ((rows n).length) none], SO.ints true .i64 ((colL n 0 (fun _ r => r.hd) i).set ((nxtL n i).getD ((n.arcs.getD i Arc.none).frm).toNat 0).toNat ((n.arcs.getD i Arc.none).to)), SO.ints true .i64 (colL n 0 (revF n) i), SO.ints true .i64 ((colL n 0 (fun _ r => r.cap) i).set ((nxtL n i).getD ((n.arcs.getD i Arc.none).frm).toNat 0).toNat ((n.arcs.getD i Arc.none).cap)), SO.ints true .i64 ((colL n 0 (fun _ r => r.arc) i).set ((nxtL n i).getD ((n.arcs.getD i Arc.none).frm).toNat 0).toNat ((i : Nat) : Int)), SO.bools true ((colL n false (fun _ r => r.back) i).set ((nxtL n i).getD ((n.arcs.getD i Arc.none).frm).toNat 0).toNat false), SO.ints true .i64 ((nxtL n i).set ((n.arcs.getD i Arc.none).frm).toNat (((nxtL n i).getD ((n.arcs.getD i Arc.none).frm).toNat 0) + 1)), .box [.slc 10 0 (((makeC n).First).length) none], .box [.val (.int .i64 ((n.arcs.getD i Arc.none).frm)), .val (.int .i64 ((n.arcs.getD i Arc.none).to)), .val (.int .i64 ((n.arcs.getD i Arc.none).cap))]]) rfl rfl (t_put (c0 := n.N) (c1 := n.S) (c2 := n.T) (nx := (nxtL n i)) (fi := (makeC n).First) (hd := (colL n 0 (fun _ r => r.hd) i)) (rv := (colL n 0 (revF n) i)) (cp := (colL n 0 (fun _ r => r.cap) i)) (ak := (colL n 0 (fun _ r => r.arc) i)) (bk := (colL n false (fun _ r => r.back) i)) (u := (n.arcs.getD i Arc.none).frm) (to := (n.arcs.getD i Arc.none).to) (most := (n.arcs.getD i Arc.none).cap) (arc := ((i : Nat) : Int)) (b := false) (nl := (makeC n).First.length) (lf := (makeC n).First.length) (lh := (rows n).length) (lr := (rows n).length) (lc := (rows n).length) (la := (rows n).length) (lb := (rows n).length) (⟨by simp only [ls, first_len, nxtL_len, colL_len], ⟨⟨by simp only [ls, colL_len], by simp only [ls, colL_len]⟩, by simp only [ls, colL_len], by simp only [ls, colL_len]⟩⟩) (by simp only [ls, nxtL_len]; omega) (by rw [hgF]; simp only [ls, colL_len]; omega) (by simp only [ls, colL_len, and_self]) (by simp only [ls, colL_len]; omega)) [11, 10, 4, 3, 5, 6, 7, 8, 9] ⟨.inr ⟨_, rfl, .inl rfl⟩, .inr ⟨_, rfl, .inl rfl⟩, .inr ⟨_, rfl, .inl rfl⟩, .inr ⟨_, rfl, .inl rfl⟩, .inr ⟨_, rfl, .inl rfl⟩, .inr ⟨_, rfl, .inl rfl⟩, .inr ⟨_, rfl, .inl rfl⟩, .inr ⟨_, rfl, .inl rfl⟩, .inr ⟨_, rfl, .inl rfl⟩, trivial⟩ rfl rfl ⟨fun h => .inl rfl, ⟨fun h => .inl rfl, ⟨fun h => .inl rfl, ⟨fun h => .inl rfl, ⟨fun h => .inl rfl, ⟨fun h => .inl rfl, ⟨fun h => .inl rfl, ⟨fun h => .inl rfl, ⟨fun h => .inl rfl, (fun y hy => by simp at hy)⟩⟩⟩⟩⟩⟩⟩⟩⟩ rfl rfl ?_)
  refine rw_t 11 rfl rfl rfl (do_assign rfl ?_)
  refine rw_nil ?_
  refine w_seq ?_
  -- region 14
  refine w_region ?_
  refine rw_t 75 rfl rfl rfl (do_move rfl ?_)
  refine rw_t 76 rfl rfl rfl (do_fieldaddr rfl ?_)
  refine rw_t 77 rfl rfl rfl (do_load_box rfl rfl rfl ?_)
  refine rw_t 78 rfl rfl rfl (do_fieldaddr rfl ?_)
  refine rw_t 79 rfl rfl rfl (do_load_box rfl rfl rfl ?_)
  refine rw_t 80 rfl rfl rfl (do_move rfl ?_)
  refine rw_t 81 rfl rfl rfl (n_callW (X' := .val (.int .i64 (((nxtL n i).set ((n.arcs.getD i Arc.none).frm).toNat (((nxtL n i).getD ((n.arcs.getD i Arc.none).frm).toNat 0) + 1)).getD ((n.arcs.getD i Arc.none).to).toNat 0))) (H' := [SO.arcs false n.arcs, .box [.val (.int .i64 n.N), .val (.int .i64 n.S), .val (.int .i64 n.T), .slc 0 0 n.arcs.length none], .box [.val (.int .i64 0), .val (.int .i64 0), .val (.int .i64 0), .val (.slice none 0 0), .val (.slice none 0 0), .val (.slice none 0 0), .val (.slice none 0 0), .val (.slice none 0 0), .val (.slice none 0 0)], SO.ints true .i64 ((makeC n).First), .box [.val (.int .i64 n.N), .val (.int .i64 n.S), .val (.int .i64 n.T), .slc 3 0 ((makeC n).First.length) none, .slc 5 0 ((rows n).length) none, .slc 6 0 ((rows n).length) none, .slc 7 0 ((rows n).length) none, .slc 8 0 ((rows n).length) none, .slc 9 0 ((rows n).length) none], SO.ints true .i64 (((colL n 0 (fun _ r => r.hd) i).set ((nxtL n i).getD ((n.arcs.getD i Arc.none).frm).toNat 0).toNat ((n.arcs.getD i Arc.none).to)).set (((nxtL n i).set ((n.arcs.getD i Arc.none).frm).toNat (((nxtL n i).getD ((n.arcs.getD i Arc.none).frm).toNat 0) + 1)).getD ((n.arcs.getD i Arc.none).to).toNat 0).toNat ((n.arcs.getD i Arc.none).frm)), SO.ints true .i64 (colL n 0 (revF n) i), SO.ints true .i64 (((colL n 0 (fun _ r => r.cap) i).set ((nxtL n i).getD ((n.arcs.getD i Arc.none).frm).toNat 0).toNat ((n.arcs.getD i Arc.none).cap)).set (((nxtL n i).set ((n.arcs.getD i Arc.none).frm).toNat (((nxtL n i).getD ((n.arcs.getD i Arc.none).frm).toNat 0) + 1)).getD ((n.arcs.getD i Arc.none).to).toNat 0).toNat 0), SO.ints true .i64 (((colL n 0 (fun _ r => r.arc) i).set ((nxtL n i).getD ((n.arcs.getD i Arc.none).frm).toNat 0).toNat ((i : Nat) : Int)).set (((nxtL n i).set ((n.arcs.getD i Arc.none).frm).toNat (((nxtL n i).getD ((n.arcs.getD i Arc.none).frm).toNat 0) + 1)).getD ((n.arcs.getD i Arc.none).to).toNat 0).toNat ((i : Nat) : Int)), SO.bools true (((colL n false (fun _ r => r.back) i).set ((nxtL n i).getD ((n.arcs.getD i Arc.none).frm).toNat 0).toNat false).set (((nxtL n i).set ((n.arcs.getD i Arc.none).frm).toNat (((nxtL n i).getD ((n.arcs.getD i Arc.none).frm).toNat 0) + 1)).getD ((n.arcs.getD i Arc.none).to).toNat 0).toNat true), SO.ints true .i64 (((nxtL n i).set ((n.arcs.getD i Arc.none).frm).toNat (((nxtL n i).getD ((n.arcs.getD i Arc.none).frm).toNat 0) + 1)).set ((n.arcs.getD i Arc.none).to).toNat ((((nxtL n i).set ((n.arcs.getD i Arc.none).frm).toNat (((nxtL n i).getD ((n.arcs.getD i Arc.none).frm).toNat 0) + 1)).getD ((n.arcs.getD i Arc.none).to).toNat 0) + 1)), .box [.slc 10 0 (((makeC n).First).length) none], .box [.val (.int .i64 ((n.arcs.getD i Arc.none).frm)), .val (.int .i64 ((n.arcs.getD i Arc.none).to)), .val (.int .i64 ((n.arcs.getD i Arc.none).cap))]]) rfl rfl (t_put (c0 := n.N) (c1 := n.S) (c2 := n.T) (nx := (nxtL n i).set ((n.arcs.getD i Arc.none).frm).toNat (((nxtL n i).getD ((n.arcs.getD i Arc.none).frm).toNat 0) + 1)) (fi := (makeC n).First) (hd := (colL n 0 (fun _ r => r.hd) i).set ((nxtL n i).getD ((n.arcs.getD i Arc.none).frm).toNat 0).toNat ((n.arcs.getD i Arc.none).to)) (rv := (colL n 0 (revF n) i)) (cp := (colL n 0 (fun _ r => r.cap) i).set ((nxtL n i).getD ((n.arcs.getD i Arc.none).frm).toNat 0).toNat ((n.arcs.getD i Arc.none).cap)) (ak := (colL n 0 (fun _ r => r.arc) i).set ((nxtL n i).getD ((n.arcs.getD i Arc.none).frm).toNat 0).toNat ((i : Nat) : Int)) (bk := (colL n false (fun _ r => r.back) i).set ((nxtL n i).getD ((n.arcs.getD i Arc.none).frm).toNat 0).toNat false) (u := (n.arcs.getD i Arc.none).to) (to := (n.arcs.getD i Arc.none).frm) (most := 0) (arc := ((i : Nat) : Int)) (b := true) (nl := (makeC n).First.length) (lf := (makeC n).First.length) (lh := (rows n).length) (lr := (rows n).length) (lc := (rows n).length) (la := (rows n).length) (lb := (rows n).length) (⟨by simp only [ls, first_len, nxtL_len, colL_len], ⟨⟨by simp only [ls, colL_len], by simp only [ls, colL_len]⟩, by simp only [ls, colL_len], by simp only [ls, colL_len]⟩⟩) (by simp only [ls, nxtL_len]; omega) (by rw [hgT2]; simp only [ls, colL_len]; omega) (by simp only [ls, colL_len, and_self]) (by simp only [ls, colL_len]; omega)) [11, 10, 4, 3, 5, 6, 7, 8, 9] ⟨.inr ⟨_, rfl, .inl rfl⟩, .inr ⟨_, rfl, .inl rfl⟩, .inr ⟨_, rfl, .inl rfl⟩, .inr ⟨_, rfl, .inl rfl⟩, .inr ⟨_, rfl, .inl rfl⟩, .inr ⟨_, rfl, .inl rfl⟩, .inr ⟨_, rfl, .inl rfl⟩, .inr ⟨_, rfl, .inl rfl⟩, .inr ⟨_, rfl, .inl rfl⟩, trivial⟩ rfl rfl ⟨fun h => .inl rfl, ⟨fun h => .inl rfl, ⟨fun h => .inl rfl, ⟨fun h => .inl rfl, ⟨fun h => .inl rfl, ⟨fun h => .inl rfl, ⟨fun h => .inl rfl, ⟨fun h => .inl rfl, ⟨fun h => .inl rfl, (fun y hy => by simp at hy)⟩⟩⟩⟩⟩⟩⟩⟩⟩ rfl rfl ?_)
  refine rw_t 12 rfl rfl rfl (do_assign rfl ?_)
  refine rw_nil ?_
  -- region 15
  refine wb_draw mixed [0, 1, 0, 0, 8, 0, 0, 0, 71, 327] [1023, 2047] [(9, 6, SO.ints true .i64 ((colL n 0 (revF n) i).set (((nxtL n i).getD ((n.arcs.getD i Arc.none).frm).toNat 0).toNat) (((nxtL n i).set ((n.arcs.getD i Arc.none).frm).toNat (((nxtL n i).getD ((n.arcs.getD i Arc.none).frm).toNat 0) + 1)).getD ((n.arcs.getD i Arc.none).to).toNat 0)))] (by kernel_rfl) (by kernel_rfl) rfl rfl rfl rfl rfl (hle hρ rfl) ?_
  refine rb_q 0 rfl rfl rfl rfl rfl rfl (do_fieldaddr rfl ⟨rfl, rfl⟩) (by rfl) ?_
  refine rb_q 1 rfl rfl rfl rfl rfl rfl (do_load_box rfl rfl rfl ⟨rfl, rfl⟩) (by rfl) ?_
  refine rb_q 2 rfl rfl rfl rfl rfl rfl (do_move rfl ⟨rfl, rfl⟩) (by rfl) ?_
  refine rb_q 3 rfl rfl rfl rfl rfl rfl (do_fieldaddr rfl ⟨rfl, rfl⟩) (by rfl) ?_
  refine rb_q 4 rfl rfl rfl rfl rfl rfl (do_load_box rfl rfl rfl ⟨rfl, rfl⟩) (by rfl) ?_
  refine rb_q 5 rfl rfl rfl rfl rfl rfl (do_move rfl ⟨rfl, rfl⟩) (by rfl) ?_
  refine rb_q 6 rfl rfl rfl rfl rfl rfl (do_move rfl ⟨rfl, rfl⟩) (by rfl) ?_
  refine rb_q 7 rfl rfl rfl rfl rfl rfl (do_move rfl ⟨rfl, rfl⟩) (by rfl) ?_
  refine rb_q 8 rfl rfl rfl rfl rfl rfl (do_ix0 rfl rfl rfl (by first | omega | (simp only [ls] <;> omega)) ⟨rfl, rfl⟩) (by rfl) ?_
  refine rb_w 9 0 6 rfl rfl rfl trivial rfl rfl rfl rfl rfl (do_store_arr (z := (((nxtL n i).set ((n.arcs.getD i Arc.none).frm).toNat (((nxtL n i).getD ((n.arcs.getD i Arc.none).frm).toNat 0) + 1)).getD ((n.arcs.getD i Arc.none).to).toNat 0)) rfl rfl rfl (by first | omega | (simp only [ls] <;> omega)) rfl (by decide) rfl ⟨rfl, rfl⟩) (by rfl) ?_
  refine rb_done (HB := [SO.arcs false n.arcs, .box [.val (.int .i64 n.N), .val (.int .i64 n.S), .val (.int .i64 n.T), .slc 0 0 n.arcs.length none], .box [.val (.int .i64 0), .val (.int .i64 0), .val (.int .i64 0), .val (.slice none 0 0), .val (.slice none 0 0), .val (.slice none 0 0), .val (.slice none 0 0), .val (.slice none 0 0), .val (.slice none 0 0)], SO.ints true .i64 ((makeC n).First), .box [.val (.int .i64 n.N), .val (.int .i64 n.S), .val (.int .i64 n.T), .slc 3 0 ((makeC n).First.length) none, .slc 5 0 ((rows n).length) none, .slc 6 0 ((rows n).length) none, .slc 7 0 ((rows n).length) none, .slc 8 0 ((rows n).length) none, .slc 9 0 ((rows n).length) none], SO.ints true .i64 (((colL n 0 (fun _ r => r.hd) i).set ((nxtL n i).getD ((n.arcs.getD i Arc.none).frm).toNat 0).toNat ((n.arcs.getD i Arc.none).to)).set (((nxtL n i).set ((n.arcs.getD i Arc.none).frm).toNat (((nxtL n i).getD ((n.arcs.getD i Arc.none).frm).toNat 0) + 1)).getD ((n.arcs.getD i Arc.none).to).toNat 0).toNat ((n.arcs.getD i Arc.none).frm)), SO.ints true .i64 ((colL n 0 (revF n) i).set (((nxtL n i).getD ((n.arcs.getD i Arc.none).frm).toNat 0).toNat) (((nxtL n i).set ((n.arcs.getD i Arc.none).frm).toNat (((nxtL n i).getD ((n.arcs.getD i Arc.none).frm).toNat 0) + 1)).getD ((n.arcs.getD i Arc.none).to).toNat 0)), SO.ints true .i64 (((colL n 0 (fun _ r => r.cap) i).set ((nxtL n i).getD ((n.arcs.getD i Arc.none).frm).toNat 0).toNat ((n.arcs.getD i Arc.none).cap)).set (((nxtL n i).set ((n.arcs.getD i Arc.none).frm).toNat (((nxtL n i).getD ((n.arcs.getD i Arc.none).frm).toNat 0) + 1)).getD ((n.arcs.getD i Arc.none).to).toNat 0).toNat 0), SO.ints true .i64 (((colL n 0 (fun _ r => r.arc) i).set ((nxtL n i).getD ((n.arcs.getD i Arc.none).frm).toNat 0).toNat ((i : Nat) : Int)).set (((nxtL n i).set ((n.arcs.getD i Arc.none).frm).toNat (((nxtL n i).getD ((n.arcs.getD i Arc.none).frm).toNat 0) + 1)).getD ((n.arcs.getD i Arc.none).to).toNat 0).toNat ((i : Nat) : Int)), SO.bools true (((colL n false (fun _ r => r.back) i).set ((nxtL n i).getD ((n.arcs.getD i Arc.none).frm).toNat 0).toNat false).set (((nxtL n i).set ((n.arcs.getD i Arc.none).frm).toNat (((nxtL n i).getD ((n.arcs.getD i Arc.none).frm).toNat 0) + 1)).getD ((n.arcs.getD i Arc.none).to).toNat 0).toNat true), SO.ints true .i64 (((nxtL n i).set ((n.arcs.getD i Arc.none).frm).toNat (((nxtL n i).getD ((n.arcs.getD i Arc.none).frm).toNat 0) + 1)).set ((n.arcs.getD i Arc.none).to).toNat ((((nxtL n i).set ((n.arcs.getD i Arc.none).frm).toNat (((nxtL n i).getD ((n.arcs.getD i Arc.none).frm).toNat 0) + 1)).getD ((n.arcs.getD i Arc.none).to).toNat 0) + 1)), .box [.slc 10 0 (((makeC n).First).length) none], .box [.val (.int .i64 ((n.arcs.getD i Arc.none).frm)), .val (.int .i64 ((n.arcs.getD i Arc.none).to)), .val (.int .i64 ((n.arcs.getD i Arc.none).cap))]]) rfl ?_
  refine rw_t 91 rfl rfl rfl (do_ix0 rfl rfl rfl (by first | omega | (simp only [ls] <;> omega)) ?_)
  refine rw_u rfl rfl (n_store_arr (z := ((nxtL n i).getD ((n.arcs.getD i Arc.none).frm).toNat 0)) rfl rfl rfl (by first | omega | (simp only [ls] <;> omega)) rfl (by decide) rfl ?_)
  refine rw_nil ?_
  -- region 16
  refine w_region ?_
  refine rw_t 92 rfl rfl rfl (do_add rfl rfl (by omega) ?_)
  refine rw_t 56 rfl rfl rfl (do_move rfl ?_)
  refine rw_nil ?_
  have hRi : (makeC n).Rev.getD (nxtJ n i (n.arcs.getD i Arc.none).frm.toNat).toNat 0 = nxtJ n i (n.arcs.getD i Arc.none).to.toNat := (rev_pair h (by omega) (j := (nxtJ n i (n.arcs.getD i Arc.none).to.toNat).toNat) (by omega) (by rw [hF.2, hT.2]) (by rw [hF.2, hT.2]; rfl)).trans (by omega)
  have hRj : (makeC n).Rev.getD (nxtJ n i (n.arcs.getD i Arc.none).to.toNat).toNat 0 = nxtJ n i (n.arcs.getD i Arc.none).frm.toNat := (rev_pair h (by omega) (j := (nxtJ n i (n.arcs.getD i Arc.none).frm.toNat).toNat) (by omega) (by rw [hF.2, hT.2]) (by rw [hF.2, hT.2]; rfl)).trans (by omega)
  refine ⟨i + 1, [0, 1, 2, 3, 4, 5, 6, 7, 8, 9, 10, 11], by dsimp only; omega, by omega, ⟨.inr ⟨_, rfl, .inl rfl⟩, .inr ⟨_, rfl, .inl rfl⟩, .inr ⟨_, rfl, .inl rfl⟩, .inr ⟨_, rfl, .inl rfl⟩, .inr ⟨_, rfl, .inl rfl⟩, .inr ⟨_, rfl, .inl (congrArg (SO.ints true .i64) (colL_step h (by omega) hne (by rw [hgF]) (by rw [hgT2]) rfl rfl))⟩, .inr ⟨_, rfl, .inl (congrArg (SO.ints true .i64) (colL_step h (by omega) hne (by rw [hgF]) (by rw [hgT2]) (by unfold revF; rw [hgT2, hgF, hRi]) (by unfold revF; rw [hgT2, hRj, hgF])))⟩, .inr ⟨_, rfl, .inl (congrArg (SO.ints true .i64) (colL_step h (by omega) hne (by rw [hgF]) (by rw [hgT2]) rfl rfl))⟩, .inr ⟨_, rfl, .inl (congrArg (SO.ints true .i64) (colL_step h (by omega) hne (by rw [hgF]) (by rw [hgT2]) rfl rfl))⟩, .inr ⟨_, rfl, .inl (congrArg (SO.bools true) (colL_step h (by omega) hne (by rw [hgF]) (by rw [hgT2]) rfl rfl))⟩, .inr ⟨_, rfl, .inl (congrArg (SO.ints true .i64) (nxtL_step h (by omega) hne))⟩, .inr ⟨_, rfl, .inl rfl⟩, trivial⟩, rfl, pre_ok rfl, ⟨⟨_, rfl, rfl⟩, ⟨_, rfl, rfl⟩, ⟨_, rfl, rfl⟩, ⟨_, rfl, rfl⟩, ⟨_, rfl, rfl⟩, ⟨_, rfl, rfl⟩, ⟨_, rfl, rfl⟩, trivial⟩⟩
end Go.Proofs

set_option linter.unusedVariables false
set_option linter.unusedSimpArgs false
namespace Go.Proofs
open Go Go.Sx Go.RowKit
theorem selK_mem {q : Int → Bool} {x : Int} : ∀ {k : Nat}, x ∈ selK q k → (0 ≤ x ∧ x < k) ∧ q x = true
  | 0, h => by simp [selK] at h
  | k + 1, h => by
    by_cases hq : q k = true
    · rw [selK_one hq, List.mem_append] at h
      rcases h with h | h
      · have := selK_mem h; exact ⟨by omega, this.2⟩
      · rw [List.mem_singleton] at h; subst h; exact ⟨by omega, hq⟩
    · rw [selK_none hq] at h
      have := selK_mem h; exact ⟨by omega, this.2⟩
theorem push_at {c : Csr} {p : Pre} {i : Nat} (h : i < (pushL c p).length) : (0 ≤ (pushL c p).getD i 0 ∧ (pushL c p).getD i 0 < c.Head.length) ∧ pushesP c p ((pushL c p).getD i 0) := by
  have := selK_mem (getD_mem 0 h)
  exact ⟨this.1, of_decide_eq_true this.2⟩
theorem stuck_at {c : Csr} (hn : 0 ≤ c.N) {p : Pre} {i : Nat} (h : i < (stuckL c p).length) : (0 ≤ (stuckL c p).getD i 0 ∧ (stuckL c p).getD i 0 < c.N) ∧ stuckP c p ((stuckL c p).getD i 0) := by
  have := selK_mem (getD_mem 0 h)
  unfold stuckL
  exact ⟨by omega, of_decide_eq_true this.2⟩
theorem wrap_small {x : Int} (h : 0 ≤ x ∧ x < 9223372036854775808) : IntKind.i64.wrap x = x := by
  exact in64 (by omega) (by omega)
theorem ix_in {x : Int} {n : Nat} (hx : 0 ≤ x ∧ x < 256) (hn : 0 < n) : 0 ≤ (IntKind.i64.wrap (x.tdiv 2)).tmod (n : Int) ∧ (IntKind.i64.wrap (x.tdiv 2)).tmod (n : Int) < n := by
  have h1 : x.tdiv 2 = x / 2 := Int.tdiv_eq_ediv_of_nonneg hx.1
  rw [h1, wrap_small (by omega), Int.tmod_eq_emod_of_nonneg (by omega)]
  exact ⟨Int.emod_nonneg _ (by omega), Int.emod_lt_of_pos _ (by omega)⟩
theorem step_push {c : Csr} (h : CsrG c) {p : Pre} (hp : refR c p) {a : Int} (ha : 0 ≤ a ∧ a < c.Head.length) (hq : pushesP c p a) : refR c (pushR c p a).1 := by
  unfold pushR; rw [if_pos ha, if_pos hq]; exact push_right h hp ha hq
theorem step_lift {c : Csr} (h : CsrG c) {p : Pre} (hp : refR c p) {u : Int} (hu : 0 ≤ u ∧ u < c.N) (hq : stuckP c p u) : refR c (liftR c p u).1 := by
  unfold liftR; rw [if_pos hu, if_pos hq]; exact lift_right h hp hu hq
theorem walk_push {c : Csr} (h : CsrG c) {p : Pre} (hp : refR c p) {i : Nat} (hi : i < (pushL c p).length) : refR c (pushR c p ((pushL c p).getD i 0)).1 := step_push h hp (push_at hi).1 (push_at hi).2
theorem walk_lift {c : Csr} (h : CsrG c) {p : Pre} (hp : refR c p) {i : Nat} (hi : i < (stuckL c p).length) : refR c (liftR c p ((stuckL c p).getD i 0)).1 := step_lift h hp (stuck_at (by have := h.n; omega) hi).1 (stuck_at (by have := h.n; omega) hi).2
end Go.Proofs

set_option linter.unusedVariables false
set_option linter.unusedSimpArgs false
namespace Go.Proofs
open Go Go.Sx Go.RowKit
theorem push_ok {c : Csr} {p : Pre} {i : Nat} (h : i < (pushL c p).length) : (pushR c p ((pushL c p).getD i 0)).2.2 = 0 := by
  obtain ⟨h1, h2⟩ := push_at h
  unfold pushR; rw [if_pos h1, if_pos h2]
theorem lift_ok {c : Csr} (hn : 0 ≤ c.N) {p : Pre} {i : Nat} (h : i < (stuckL c p).length) : (liftR c p ((stuckL c p).getD i 0)).2 = 0 := by
  obtain ⟨h1, h2⟩ := stuck_at hn h
  unfold liftR; rw [if_pos h1, if_pos h2]
end Go.Proofs

set_option linter.unusedVariables false
set_option linter.unusedSimpArgs false
namespace Go.Proofs
open Go Go.Sx Go.RowKit
def ixK (x : Int) (n : Nat) : Nat := ((IntKind.i64.wrap (x.tdiv 2)).tmod (n : Int)).toNat
/-- One move of Play's. -/
def stepK (c : Csr) (x : Int) (r : Pre) : Pre :=
  if 0 < (pushL c r).length ∧ (x.tmod 2 = 0 ∨ (stuckL c r).length = 0) then (pushR c r ((pushL c r).getD (ixK x (pushL c r).length) 0)).1
  else if 0 < (stuckL c r).length then (liftR c r ((stuckL c r).getD (ixK x (stuckL c r).length) 0)).1 else r
def playK (c : Csr) (l : List Int) : Nat → Pre
  | 0 => begC c
  | i + 1 => stepK c (l.getD i 0) (playK c l i)
theorem playK_push {c : Csr} {l : List Int} {i : Nat} {r : Pre} (hr : r = playK c l i) (h : 0 < (pushL c r).length ∧ ((l.getD i 0).tmod 2 = 0 ∨ (stuckL c r).length = 0)) : (pushR c r ((pushL c r).getD ((IntKind.i64.wrap ((l.getD i 0).tdiv 2)).tmod (((pushL c r).length : Nat) : Int)).toNat 0)).1 = playK c l (i + 1) := by
  subst hr; simp only [playK]; unfold stepK; rw [if_pos h]; rfl
theorem playK_lift {c : Csr} {l : List Int} {i : Nat} {r : Pre} (hr : r = playK c l i) (h : ¬ (0 < (pushL c r).length ∧ ((l.getD i 0).tmod 2 = 0 ∨ (stuckL c r).length = 0))) (h2 : 0 < (stuckL c r).length) : (liftR c r ((stuckL c r).getD ((IntKind.i64.wrap ((l.getD i 0).tdiv 2)).tmod (((stuckL c r).length : Nat) : Int)).toNat 0)).1 = playK c l (i + 1) := by
  subst hr; simp only [playK]; unfold stepK; rw [if_neg h, if_pos h2]; rfl
theorem playK_stop {c : Csr} {l : List Int} {i : Nat} (h1 : (pushL c (playK c l i)).length = 0) (h2 : (stuckL c (playK c l i)).length = 0) : ∀ j, playK c l (i + j) = playK c l i
  | 0 => rfl
  | j + 1 => by
    show stepK c (l.getD (i + j) 0) (playK c l (i + j)) = _
    rw [playK_stop h1 h2 j]
    unfold stepK
    rw [if_neg (by omega), if_neg (by omega)]
theorem playK_end {c : Csr} {l : List Int} {i m : Nat} {r : Pre} (hr : r = playK c l i) (h1 : (pushL c r).length = 0) (h2 : (stuckL c r).length = 0) (hm : i ≤ m) : r = playK c l m := by
  subst hr
  have := playK_stop h1 h2 (m - i)
  rw [show i + (m - i) = m by omega] at this
  exact this.symm
theorem playK_ref {c : Csr} (h : CsrQ c) {l : List Int} (hl : ∀ x ∈ l, 0 ≤ x ∧ x < 256) : ∀ i, i ≤ l.length → refR c (playK c l i)
  | 0, _ => beg_ref h
  | i + 1, hi => by
    have ih := playK_ref h hl i (by omega)
    have hx := hl _ (getD_mem 0 (show i < l.length by omega))
    simp only [playK]
    unfold stepK ixK
    split
    · rename_i hc
      have := ix_in hx hc.1
      exact walk_push h.toCsrG ih (by omega)
    · split
      · rename_i hc
        have := ix_in hx hc
        exact walk_lift h.toCsrG ih (by omega)
      · exact ih
/-- What is not right. -/
theorem wrong_ex {c : Csr} {p : Pre} (hp : refR c p) {v : Nat} (hv : v < c.N.toNat) {x : Int} (hx : x ≠ p.Ex.getD v 0) : ¬ refR c ⟨p.Res, p.Ex.set v x, p.H⟩ := fun hr => by
  have g1 := hp.1.1.2 v hv
  have g2 := hr.1.1.2 v hv
  have hl := hp.1.1.1.1.2.1
  unfold okV at g1 g2
  have e : (p.Ex.set v x).getD v 0 = x := by simp [List.getD, show v < p.Ex.length by omega]
  have a1 := g1.1.1.1
  have a2 := g2.1.1.1
  rw [e] at a2
  exact hx (a2.symm.trans a1)
theorem wrong_s {c : Csr} (h : CsrG c) {p : Pre} (hp : refR c p) {x : Int} (hx : x ≠ c.N) : ¬ refR c ⟨p.Res, p.Ex, p.H.set c.S.toNat x⟩ := fun hr => by
  have hS := h.s
  have hl := hp.1.1.1.1.2.2
  have e : (p.H.set c.S.toNat x).getD c.S.toNat 0 = x := by simp [List.getD, show c.S.toNat < p.H.length by omega]
  have := hr.2.1
  rw [e] at this
  exact hx this
theorem wrong_t {c : Csr} (h : CsrG c) {p : Pre} (hp : refR c p) {x : Int} (hx : x ≠ 0) : ¬ refR c ⟨p.Res, p.Ex, p.H.set c.T.toNat x⟩ := fun hr => by
  have hT := h.t
  have hl := hp.1.1.1.1.2.2
  have e : (p.H.set c.T.toNat x).getD c.T.toNat 0 = x := by simp [List.getD, show c.T.toNat < p.H.length by omega]
  have := hr.2.2
  rw [e] at this
  exact hx this
theorem wrong_h {c : Csr} {p : Pre} (hp : refR c p) {v : Nat} (hv : v < c.N.toNat) : ¬ refR c ⟨p.Res, p.Ex, p.H.set v (2 * c.N)⟩ := fun hr => by
  have g := hr.1.1.2 v hv
  have hl := hp.1.1.1.1.2.2
  unfold okV at g
  have e : (p.H.set v (2 * c.N)).getD v 0 = 2 * c.N := by simp [List.getD, show v < p.H.length by omega]
  have a := g.2
  dsimp only at a
  rw [e] at a
  exact a (Int.le_refl _)
theorem wrong_len {c : Csr} {p : Pre} (hp : refR c p) : ¬ refR c ⟨p.Res, p.Ex ++ [0], p.H⟩ := fun hr => by
  have h1 := hp.1.1.1.1.2.1
  have h2 := hr.1.1.1.1.2.1
  simp only [List.length_append, List.length_singleton] at h2
  omega
theorem wrong_res {c : Csr} (h : CsrG c) {p : Pre} (hp : refR c p) {a : Nat} (ha : a < c.Head.length) {x : Int} (hx : x ≠ p.Res.getD a 0) : ¬ refR c ⟨p.Res.set a x, p.Ex, p.H⟩ := fun hr => by
  have hl := hp.1.1.1.1.1
  have hne := h.rne a ha
  have p1 := hp.1.1.1.2 a ha
  have p2 := hr.1.1.1.2 a ha
  have e1 : (p.Res.set a x).getD a 0 = x := by simp [List.getD, show a < p.Res.length by omega]
  have e2 : (p.Res.set a x).getD (c.Rev.getD a 0).toNat 0 = p.Res.getD (c.Rev.getD a 0).toNat 0 := lget_ne (Ne.symm hne) _
  have a1 := p1.2.2
  have a2 := p2.2.2
  dsimp only at a2
  rw [e1, e2] at a2
  omega
theorem push_out (c : Csr) (p : Pre) {a : Int} (h : ¬ (0 ≤ a ∧ a < c.Head.length)) : (pushR c p a).2.2 = 2 := by unfold pushR; rw [if_neg h]
theorem lift_out (c : Csr) (p : Pre) : (liftR c p c.N).2 = 2 := by unfold liftR; rw [if_neg (by omega)]
theorem lift_s {c : Csr} (h : CsrG c) (p : Pre) : (liftR c p c.S).2 = 30 := by
  have hS := h.s
  unfold liftR; rw [if_pos hS, if_neg (fun q => q.2.1.1 rfl)]
end Go.Proofs

set_option linter.unusedVariables false
set_option linter.unusedSimpArgs false
namespace Go.Proofs
open Go Go.Sx Go.RowKit
-- f34 "acequia/acequialaw07.PreWrong$1"
set_option maxHeartbeats 8000000 in
set_option synthInstance.maxHeartbeats 400000 in
set_option synthInstance.maxSize 2000 in
theorem t_note0W (c : Csr) (h : CsrQ c) (q : Pre) (hq : refR c q) (p : Pre) (hp : refR c p) : Tri Try.prog 34 [.agg [.val (.int .i64 c.N), .val (.int .i64 c.S), .val (.int .i64 c.T), .slc 0 0 c.First.length none, .slc 1 0 c.Head.length none, .slc 2 0 c.Rev.length none, .slc 3 0 c.Cap.length none, .slc 4 0 c.Arc.length none, .slc 5 0 c.Back.length none], .agg [.slc 6 0 q.Res.length none, .slc 7 0 q.Ex.length none, .slc 8 0 q.H.length none], .agg [.slc 9 0 p.Res.length none, .slc 10 0 p.Ex.length none, .slc 11 0 p.H.length none], .ptr 12 0 0, .ptr 13 0 0] [SO.ints false .i64 c.First, SO.ints false .i64 c.Head, SO.ints false .i64 c.Rev, SO.ints false .i64 c.Cap, SO.ints false .i64 c.Arc, SO.bools false c.Back, SO.ints false .i64 q.Res, SO.ints false .i64 q.Ex, SO.ints false .i64 q.H, SO.ints false .i64 p.Res, SO.ints false .i64 p.Ex, SO.ints false .i64 p.H, .box [.val (.int .i64 0), .val (.int .i64 0), .val (.int .i64 0), .val (.slice none 0 0), .val (.slice none 0 0), .val (.slice none 0 0), .val (.slice none 0 0), .val (.slice none 0 0), .val (.slice none 0 0)], .box [.val (.slice none 0 0), .val (.slice none 0 0), .val (.slice none 0 0)]] (fun s H => s = .val (.bool true) ∧ H = [SO.ints false .i64 c.First, SO.ints false .i64 c.Head, SO.ints false .i64 c.Rev, SO.ints false .i64 c.Cap, SO.ints false .i64 c.Arc, SO.bools false c.Back, SO.ints false .i64 q.Res, SO.ints false .i64 q.Ex, SO.ints false .i64 q.H, SO.ints false .i64 p.Res, SO.ints false .i64 p.Ex, SO.ints false .i64 p.H, .box [.val (.int .i64 c.N), .val (.int .i64 c.S), .val (.int .i64 c.T), .slc 0 0 c.First.length none, .slc 1 0 c.Head.length none, .slc 2 0 c.Rev.length none, .slc 3 0 c.Cap.length none, .slc 4 0 c.Arc.length none, .slc 5 0 c.Back.length none], .box [.slc 9 0 p.Res.length none, .slc 10 0 p.Ex.length none, .slc 11 0 p.H.length none]]) := by
  refine tri_of_w (fn := Try.f34) Try.func34 rfl (by simp [Try.f34]) ?_
  intro ρ w hρ
  refine w_seq ?_
  -- region 0
  refine w_region ?_
  refine rw_t 5 rfl rfl rfl (n_box_agg (n := 14) rfl rfl ?_)
  refine rw_t 6 rfl rfl rfl (n_box_agg (n := 15) rfl rfl ?_)
  refine rw_t 7 rfl rfl rfl (n_box_agg (n := 16) rfl rfl ?_)
  refine rw_t 8 rfl rfl rfl (do_assign rfl ?_)
  refine rw_nil ?_
  refine w_midS (ι := Unit) (fun _ => [(8, .val (.bool false))]) (fun _ => [SO.ints false .i64 c.First, SO.ints false .i64 c.Head, SO.ints false .i64 c.Rev, SO.ints false .i64 c.Cap, SO.ints false .i64 c.Arc, SO.bools false c.Back, SO.ints false .i64 q.Res, SO.ints false .i64 q.Ex, SO.ints false .i64 q.H, SO.ints false .i64 p.Res, SO.ints false .i64 p.Ex, SO.ints false .i64 p.H, .box [.val (.int .i64 c.N), .val (.int .i64 c.S), .val (.int .i64 c.T), .slc 0 0 c.First.length none, .slc 1 0 c.Head.length none, .slc 2 0 c.Rev.length none, .slc 3 0 c.Cap.length none, .slc 4 0 c.Arc.length none, .slc 5 0 c.Back.length none], .box [.slc 9 0 p.Res.length none, .slc 10 0 p.Ex.length none, .slc 11 0 p.H.length none], .box [.val (.int .i64 c.N), .val (.int .i64 c.S), .val (.int .i64 c.T), .slc 0 0 c.First.length none, .slc 1 0 c.Head.length none, .slc 2 0 c.Rev.length none, .slc 3 0 c.Cap.length none, .slc 4 0 c.Arc.length none, .slc 5 0 c.Back.length none], .box [.slc 6 0 q.Res.length none, .slc 7 0 q.Ex.length none, .slc 8 0 q.H.length none], .box [.slc 9 0 p.Res.length none, .slc 10 0 p.Ex.length none, .slc 11 0 p.H.length none]]) (fun _ => True) hρ ?_ ?_
  · -- region 1
    refine w_any mixed ?_
    refine wa_drawZ [0, 0] [1, 7] [1] 2 rfl rfl (by decide) (by kernel_rfl) (by kernel_rfl) rfl rfl rfl (hle hρ rfl) ?_
    refine ra_q (j := 0) rfl rfl rfl rfl (n_load_boxagg [_, _, _, _, _, _, _, _, _] rfl rfl (Nat.le_of_ble_eq_true rfl) rfl ⟨rfl, rfl⟩) (by rfl) ?_
    refine ra_q (j := 1) rfl rfl rfl rfl (n_load_boxagg [_, _, _] rfl rfl (Nat.le_of_ble_eq_true rfl) rfl ⟨rfl, rfl⟩) (by rfl) ?_
    refine n_fin ?_ ?_
    · refine rw_u rfl rfl (n_store_whole rfl rfl rfl rfl rfl rfl ?_)
      refine rw_u rfl rfl (n_store_whole rfl rfl rfl rfl rfl rfl ?_)
      refine rw_nil ?_
      exact ⟨(), [0, 1, 2, 3, 4, 5, 6, 7, 8, 9, 10, 11, 12, 13, 14, 15, 16], trivial, ⟨.inr ⟨_, rfl, .inl rfl⟩, .inr ⟨_, rfl, .inl rfl⟩, .inr ⟨_, rfl, .inl rfl⟩, .inr ⟨_, rfl, .inl rfl⟩, .inr ⟨_, rfl, .inl rfl⟩, .inr ⟨_, rfl, .inl rfl⟩, .inr ⟨_, rfl, .inl rfl⟩, .inr ⟨_, rfl, .inl rfl⟩, .inr ⟨_, rfl, .inl rfl⟩, .inr ⟨_, rfl, .inl rfl⟩, .inr ⟨_, rfl, .inl rfl⟩, .inr ⟨_, rfl, .inl rfl⟩, .inr ⟨_, rfl, .inl rfl⟩, .inr ⟨_, rfl, .inl rfl⟩, .inr ⟨_, rfl, .inl rfl⟩, .inr ⟨_, rfl, .inl rfl⟩, .inr ⟨_, rfl, .inl rfl⟩, trivial⟩, rfl, pre_ok rfl, ⟨⟨_, rfl, rfl⟩, trivial⟩⟩
    refine all_cons ?_ ?_
    · refine rx_step [1, 2] rfl (by kernel_rfl) rfl ?_
      refine rx_cons ?_ ?_
      · refine ⟨_, rfl, rfl, rfl, n_load_boxagg [_, _, _] rfl rfl (Nat.le_of_ble_eq_true rfl) rfl ?_⟩
        refine rx_step [2] rfl (by kernel_rfl) rfl ?_
        refine rx_cons ?_ ?_
        · refine ⟨_, rfl, rfl, rfl, do_store_boxagg rfl rfl rfl (Nat.le_of_ble_eq_true rfl) rfl (allPlain rfl) ?_⟩
          refine rx_step [3] rfl (by kernel_rfl) rfl ?_
          refine rx_cons ?_ ?_
          · refine ⟨_, rfl, rfl, rfl, do_store_boxagg rfl rfl rfl (Nat.le_of_ble_eq_true rfl) rfl (allPlain rfl) ?_⟩
            refine rx_done (by kernel_rfl) ?_
            exact ⟨(), [0, 1, 2, 3, 4, 5, 6, 7, 8, 9, 10, 11, 12, 13, 14, 15, 16], trivial, ⟨.inr ⟨_, rfl, .inl rfl⟩, .inr ⟨_, rfl, .inl rfl⟩, .inr ⟨_, rfl, .inl rfl⟩, .inr ⟨_, rfl, .inl rfl⟩, .inr ⟨_, rfl, .inl rfl⟩, .inr ⟨_, rfl, .inl rfl⟩, .inr ⟨_, rfl, .inl rfl⟩, .inr ⟨_, rfl, .inl rfl⟩, .inr ⟨_, rfl, .inl rfl⟩, .inr ⟨_, rfl, .inl rfl⟩, .inr ⟨_, rfl, .inl rfl⟩, .inr ⟨_, rfl, .inl rfl⟩, .inr ⟨_, rfl, .inl rfl⟩, .inr ⟨_, rfl, .inl rfl⟩, .inr ⟨_, rfl, .inl rfl⟩, .inr ⟨_, rfl, .inl rfl⟩, .inr ⟨_, rfl, .inl rfl⟩, trivial⟩, rfl, pre_ok rfl, ⟨⟨_, rfl, rfl⟩, trivial⟩⟩
          exact rx_nil
        exact rx_nil
      refine rx_cons ?_ ?_
      · refine ⟨_, rfl, rfl, rfl, do_store_boxagg rfl rfl rfl (Nat.le_of_ble_eq_true rfl) rfl (allPlain rfl) ?_⟩
        refine rx_step [1] rfl (by kernel_rfl) rfl ?_
        refine rx_cons ?_ ?_
        · refine ⟨_, rfl, rfl, rfl, n_load_boxagg [_, _, _] rfl rfl (Nat.le_of_ble_eq_true rfl) rfl ?_⟩
          refine rx_step [3] rfl (by kernel_rfl) rfl ?_
          refine rx_cons ?_ ?_
          · refine ⟨_, rfl, rfl, rfl, do_store_boxagg rfl rfl rfl (Nat.le_of_ble_eq_true rfl) rfl (allPlain rfl) ?_⟩
            refine rx_done (by kernel_rfl) ?_
            exact ⟨(), [0, 1, 2, 3, 4, 5, 6, 7, 8, 9, 10, 11, 12, 13, 14, 15, 16], trivial, ⟨.inr ⟨_, rfl, .inl rfl⟩, .inr ⟨_, rfl, .inl rfl⟩, .inr ⟨_, rfl, .inl rfl⟩, .inr ⟨_, rfl, .inl rfl⟩, .inr ⟨_, rfl, .inl rfl⟩, .inr ⟨_, rfl, .inl rfl⟩, .inr ⟨_, rfl, .inl rfl⟩, .inr ⟨_, rfl, .inl rfl⟩, .inr ⟨_, rfl, .inl rfl⟩, .inr ⟨_, rfl, .inl rfl⟩, .inr ⟨_, rfl, .inl rfl⟩, .inr ⟨_, rfl, .inl rfl⟩, .inr ⟨_, rfl, .inl rfl⟩, .inr ⟨_, rfl, .inl rfl⟩, .inr ⟨_, rfl, .inl rfl⟩, .inr ⟨_, rfl, .inl rfl⟩, .inr ⟨_, rfl, .inl rfl⟩, trivial⟩, rfl, pre_ok rfl, ⟨⟨_, rfl, rfl⟩, trivial⟩⟩
          exact rx_nil
        exact rx_nil
      exact rx_nil
    exact all_nil
  rintro ⟨⟩ -
  refine w_seq ?_
  -- region 2
  refine w_region ?_
  refine rw_t 8 rfl rfl rfl (do_assign rfl ?_)
  refine rw_nil ?_
  refine w_ret ?_
  exact ret_eq (.inl rfl) (.cons (res_tmp rfl) .nil) [0, 1, 2, 3, 4, 5, 6, 7, 8, 9, 10, 11, 12, 13] (rfl) ⟨.inr ⟨_, rfl, .inl rfl⟩, .inr ⟨_, rfl, .inl rfl⟩, .inr ⟨_, rfl, .inl rfl⟩, .inr ⟨_, rfl, .inl rfl⟩, .inr ⟨_, rfl, .inl rfl⟩, .inr ⟨_, rfl, .inl rfl⟩, .inr ⟨_, rfl, .inl rfl⟩, .inr ⟨_, rfl, .inl rfl⟩, .inr ⟨_, rfl, .inl rfl⟩, .inr ⟨_, rfl, .inl rfl⟩, .inr ⟨_, rfl, .inl rfl⟩, .inr ⟨_, rfl, .inl rfl⟩, .inr ⟨_, rfl, .inl rfl⟩, .inr ⟨_, rfl, .inl rfl⟩, trivial⟩ rfl (pre_ok rfl)
-- f34 "acequia/acequialaw07.PreWrong$1"
set_option maxHeartbeats 8000000 in
set_option synthInstance.maxHeartbeats 400000 in
set_option synthInstance.maxSize 2000 in
theorem t_note1W (c : Csr) (h : CsrQ c) (q : Pre) (hq : refR c q) (p : Pre) (hp : refR c p) : Tri Try.prog 34 [.agg [.val (.int .i64 c.N), .val (.int .i64 c.S), .val (.int .i64 c.T), .slc 0 0 c.First.length none, .slc 1 0 c.Head.length none, .slc 2 0 c.Rev.length none, .slc 3 0 c.Cap.length none, .slc 4 0 c.Arc.length none, .slc 5 0 c.Back.length none], .agg [.slc 6 0 q.Res.length none, .slc 7 0 q.Ex.length none, .slc 8 0 q.H.length none], .agg [.slc 9 0 p.Res.length none, .slc 10 0 p.Ex.length none, .slc 11 0 p.H.length none], .ptr 12 0 0, .ptr 13 0 0] [SO.ints false .i64 c.First, SO.ints false .i64 c.Head, SO.ints false .i64 c.Rev, SO.ints false .i64 c.Cap, SO.ints false .i64 c.Arc, SO.bools false c.Back, SO.ints false .i64 q.Res, SO.ints false .i64 q.Ex, SO.ints false .i64 q.H, SO.ints false .i64 p.Res, SO.ints false .i64 p.Ex, SO.ints false .i64 p.H, .box [.val (.int .i64 c.N), .val (.int .i64 c.S), .val (.int .i64 c.T), .slc 0 0 c.First.length none, .slc 1 0 c.Head.length none, .slc 2 0 c.Rev.length none, .slc 3 0 c.Cap.length none, .slc 4 0 c.Arc.length none, .slc 5 0 c.Back.length none], .box [.slc 6 0 q.Res.length none, .slc 7 0 q.Ex.length none, .slc 8 0 q.H.length none]] (fun s H => s = .val (.bool true) ∧ H = [SO.ints false .i64 c.First, SO.ints false .i64 c.Head, SO.ints false .i64 c.Rev, SO.ints false .i64 c.Cap, SO.ints false .i64 c.Arc, SO.bools false c.Back, SO.ints false .i64 q.Res, SO.ints false .i64 q.Ex, SO.ints false .i64 q.H, SO.ints false .i64 p.Res, SO.ints false .i64 p.Ex, SO.ints false .i64 p.H, .box [.val (.int .i64 c.N), .val (.int .i64 c.S), .val (.int .i64 c.T), .slc 0 0 c.First.length none, .slc 1 0 c.Head.length none, .slc 2 0 c.Rev.length none, .slc 3 0 c.Cap.length none, .slc 4 0 c.Arc.length none, .slc 5 0 c.Back.length none], .box [.slc 9 0 p.Res.length none, .slc 10 0 p.Ex.length none, .slc 11 0 p.H.length none]]) := by
  refine tri_of_w (fn := Try.f34) Try.func34 rfl (by simp [Try.f34]) ?_
  intro ρ w hρ
  refine w_seq ?_
  -- region 0
  refine w_region ?_
  refine rw_t 5 rfl rfl rfl (n_box_agg (n := 14) rfl rfl ?_)
  refine rw_t 6 rfl rfl rfl (n_box_agg (n := 15) rfl rfl ?_)
  refine rw_t 7 rfl rfl rfl (n_box_agg (n := 16) rfl rfl ?_)
  refine rw_t 8 rfl rfl rfl (do_assign rfl ?_)
  refine rw_nil ?_
  refine w_midS (ι := Unit) (fun _ => [(8, .val (.bool false))]) (fun _ => [SO.ints false .i64 c.First, SO.ints false .i64 c.Head, SO.ints false .i64 c.Rev, SO.ints false .i64 c.Cap, SO.ints false .i64 c.Arc, SO.bools false c.Back, SO.ints false .i64 q.Res, SO.ints false .i64 q.Ex, SO.ints false .i64 q.H, SO.ints false .i64 p.Res, SO.ints false .i64 p.Ex, SO.ints false .i64 p.H, .box [.val (.int .i64 c.N), .val (.int .i64 c.S), .val (.int .i64 c.T), .slc 0 0 c.First.length none, .slc 1 0 c.Head.length none, .slc 2 0 c.Rev.length none, .slc 3 0 c.Cap.length none, .slc 4 0 c.Arc.length none, .slc 5 0 c.Back.length none], .box [.slc 9 0 p.Res.length none, .slc 10 0 p.Ex.length none, .slc 11 0 p.H.length none], .box [.val (.int .i64 c.N), .val (.int .i64 c.S), .val (.int .i64 c.T), .slc 0 0 c.First.length none, .slc 1 0 c.Head.length none, .slc 2 0 c.Rev.length none, .slc 3 0 c.Cap.length none, .slc 4 0 c.Arc.length none, .slc 5 0 c.Back.length none], .box [.slc 6 0 q.Res.length none, .slc 7 0 q.Ex.length none, .slc 8 0 q.H.length none], .box [.slc 9 0 p.Res.length none, .slc 10 0 p.Ex.length none, .slc 11 0 p.H.length none]]) (fun _ => True) hρ ?_ ?_
  · -- region 1
    refine w_any mixed ?_
    refine wa_drawZ [0, 0] [1, 7] [1] 2 rfl rfl (by decide) (by kernel_rfl) (by kernel_rfl) rfl rfl rfl (hle hρ rfl) ?_
    refine ra_q (j := 0) rfl rfl rfl rfl (n_load_boxagg [_, _, _, _, _, _, _, _, _] rfl rfl (Nat.le_of_ble_eq_true rfl) rfl ⟨rfl, rfl⟩) (by rfl) ?_
    refine ra_q (j := 1) rfl rfl rfl rfl (n_load_boxagg [_, _, _] rfl rfl (Nat.le_of_ble_eq_true rfl) rfl ⟨rfl, rfl⟩) (by rfl) ?_
    refine n_fin ?_ ?_
    · refine rw_u rfl rfl (n_store_whole rfl rfl rfl rfl rfl rfl ?_)
      refine rw_u rfl rfl (n_store_whole rfl rfl rfl rfl rfl rfl ?_)
      refine rw_nil ?_
      exact ⟨(), [0, 1, 2, 3, 4, 5, 6, 7, 8, 9, 10, 11, 12, 13, 14, 15, 16], trivial, ⟨.inr ⟨_, rfl, .inl rfl⟩, .inr ⟨_, rfl, .inl rfl⟩, .inr ⟨_, rfl, .inl rfl⟩, .inr ⟨_, rfl, .inl rfl⟩, .inr ⟨_, rfl, .inl rfl⟩, .inr ⟨_, rfl, .inl rfl⟩, .inr ⟨_, rfl, .inl rfl⟩, .inr ⟨_, rfl, .inl rfl⟩, .inr ⟨_, rfl, .inl rfl⟩, .inr ⟨_, rfl, .inl rfl⟩, .inr ⟨_, rfl, .inl rfl⟩, .inr ⟨_, rfl, .inl rfl⟩, .inr ⟨_, rfl, .inl rfl⟩, .inr ⟨_, rfl, .inl rfl⟩, .inr ⟨_, rfl, .inl rfl⟩, .inr ⟨_, rfl, .inl rfl⟩, .inr ⟨_, rfl, .inl rfl⟩, trivial⟩, rfl, pre_ok rfl, ⟨⟨_, rfl, rfl⟩, trivial⟩⟩
    refine all_cons ?_ ?_
    · refine rx_step [1, 2] rfl (by kernel_rfl) rfl ?_
      refine rx_cons ?_ ?_
      · refine ⟨_, rfl, rfl, rfl, n_load_boxagg [_, _, _] rfl rfl (Nat.le_of_ble_eq_true rfl) rfl ?_⟩
        refine rx_step [2] rfl (by kernel_rfl) rfl ?_
        refine rx_cons ?_ ?_
        · refine ⟨_, rfl, rfl, rfl, do_store_boxagg rfl rfl rfl (Nat.le_of_ble_eq_true rfl) rfl (allPlain rfl) ?_⟩
          refine rx_step [3] rfl (by kernel_rfl) rfl ?_
          refine rx_cons ?_ ?_
          · refine ⟨_, rfl, rfl, rfl, do_store_boxagg rfl rfl rfl (Nat.le_of_ble_eq_true rfl) rfl (allPlain rfl) ?_⟩
            refine rx_done (by kernel_rfl) ?_
            exact ⟨(), [0, 1, 2, 3, 4, 5, 6, 7, 8, 9, 10, 11, 12, 13, 14, 15, 16], trivial, ⟨.inr ⟨_, rfl, .inl rfl⟩, .inr ⟨_, rfl, .inl rfl⟩, .inr ⟨_, rfl, .inl rfl⟩, .inr ⟨_, rfl, .inl rfl⟩, .inr ⟨_, rfl, .inl rfl⟩, .inr ⟨_, rfl, .inl rfl⟩, .inr ⟨_, rfl, .inl rfl⟩, .inr ⟨_, rfl, .inl rfl⟩, .inr ⟨_, rfl, .inl rfl⟩, .inr ⟨_, rfl, .inl rfl⟩, .inr ⟨_, rfl, .inl rfl⟩, .inr ⟨_, rfl, .inl rfl⟩, .inr ⟨_, rfl, .inl rfl⟩, .inr ⟨_, rfl, .inl rfl⟩, .inr ⟨_, rfl, .inl rfl⟩, .inr ⟨_, rfl, .inl rfl⟩, .inr ⟨_, rfl, .inl rfl⟩, trivial⟩, rfl, pre_ok rfl, ⟨⟨_, rfl, rfl⟩, trivial⟩⟩
          exact rx_nil
        exact rx_nil
      refine rx_cons ?_ ?_
      · refine ⟨_, rfl, rfl, rfl, do_store_boxagg rfl rfl rfl (Nat.le_of_ble_eq_true rfl) rfl (allPlain rfl) ?_⟩
        refine rx_step [1] rfl (by kernel_rfl) rfl ?_
        refine rx_cons ?_ ?_
        · refine ⟨_, rfl, rfl, rfl, n_load_boxagg [_, _, _] rfl rfl (Nat.le_of_ble_eq_true rfl) rfl ?_⟩
          refine rx_step [3] rfl (by kernel_rfl) rfl ?_
          refine rx_cons ?_ ?_
          · refine ⟨_, rfl, rfl, rfl, do_store_boxagg rfl rfl rfl (Nat.le_of_ble_eq_true rfl) rfl (allPlain rfl) ?_⟩
            refine rx_done (by kernel_rfl) ?_
            exact ⟨(), [0, 1, 2, 3, 4, 5, 6, 7, 8, 9, 10, 11, 12, 13, 14, 15, 16], trivial, ⟨.inr ⟨_, rfl, .inl rfl⟩, .inr ⟨_, rfl, .inl rfl⟩, .inr ⟨_, rfl, .inl rfl⟩, .inr ⟨_, rfl, .inl rfl⟩, .inr ⟨_, rfl, .inl rfl⟩, .inr ⟨_, rfl, .inl rfl⟩, .inr ⟨_, rfl, .inl rfl⟩, .inr ⟨_, rfl, .inl rfl⟩, .inr ⟨_, rfl, .inl rfl⟩, .inr ⟨_, rfl, .inl rfl⟩, .inr ⟨_, rfl, .inl rfl⟩, .inr ⟨_, rfl, .inl rfl⟩, .inr ⟨_, rfl, .inl rfl⟩, .inr ⟨_, rfl, .inl rfl⟩, .inr ⟨_, rfl, .inl rfl⟩, .inr ⟨_, rfl, .inl rfl⟩, .inr ⟨_, rfl, .inl rfl⟩, trivial⟩, rfl, pre_ok rfl, ⟨⟨_, rfl, rfl⟩, trivial⟩⟩
          exact rx_nil
        exact rx_nil
      exact rx_nil
    exact all_nil
  rintro ⟨⟩ -
  refine w_seq ?_
  -- region 2
  refine w_region ?_
  refine rw_t 8 rfl rfl rfl (do_assign rfl ?_)
  refine rw_nil ?_
  refine w_ret ?_
  exact ret_eq (.inl rfl) (.cons (res_tmp rfl) .nil) [0, 1, 2, 3, 4, 5, 6, 7, 8, 9, 10, 11, 12, 13] (rfl) ⟨.inr ⟨_, rfl, .inl rfl⟩, .inr ⟨_, rfl, .inl rfl⟩, .inr ⟨_, rfl, .inl rfl⟩, .inr ⟨_, rfl, .inl rfl⟩, .inr ⟨_, rfl, .inl rfl⟩, .inr ⟨_, rfl, .inl rfl⟩, .inr ⟨_, rfl, .inl rfl⟩, .inr ⟨_, rfl, .inl rfl⟩, .inr ⟨_, rfl, .inl rfl⟩, .inr ⟨_, rfl, .inl rfl⟩, .inr ⟨_, rfl, .inl rfl⟩, .inr ⟨_, rfl, .inl rfl⟩, .inr ⟨_, rfl, .inl rfl⟩, .inr ⟨_, rfl, .inl rfl⟩, trivial⟩ rfl (pre_ok rfl)
-- f28 "acequia/acequialaw07.Play"
set_option maxHeartbeats 8000000 in
set_option synthInstance.maxHeartbeats 400000 in
set_option synthInstance.maxSize 2000 in
theorem t_PlayW (n : Net) (hsm : Small n) (l : List Int) (hlb : ∀ x ∈ l, 0 ≤ x ∧ x < 256) (hll : l.length ≤ 9223372036854775807) (m : Nat) (hm : m ≤ l.length) : Tri Try.prog 28 [.agg [.val (.int .i64 n.N), .val (.int .i64 n.S), .val (.int .i64 n.T), .slc 0 0 n.arcs.length none], .slc 1 0 m none, .func 34 [] [.ptr 2 0 0, .ptr 3 0 0]] [SO.arcs false n.arcs, SO.ints false .u8 l, .box [.val (.int .i64 0), .val (.int .i64 0), .val (.int .i64 0), .val (.slice none 0 0), .val (.slice none 0 0), .val (.slice none 0 0), .val (.slice none 0 0), .val (.slice none 0 0), .val (.slice none 0 0)], .box [.val (.slice none 0 0), .val (.slice none 0 0), .val (.slice none 0 0)]] (fun s H => s = .val (.bool true) ∧ H = [SO.arcs false n.arcs, SO.ints false .u8 l, .box [.val (.int .i64 ((makeC n).N)), .val (.int .i64 ((makeC n).S)), .val (.int .i64 ((makeC n).T)), .slc 4 0 ((makeC n).First.length) none, .slc 5 0 ((makeC n).Head.length) none, .slc 6 0 ((makeC n).Rev.length) none, .slc 7 0 ((makeC n).Cap.length) none, .slc 8 0 ((makeC n).Arc.length) none, .slc 9 0 ((makeC n).Back.length) none], .box [.slc 10 0 ((playK (makeC n) l m).Res.length) none, .slc 11 0 ((playK (makeC n) l m).Ex.length) none, .slc 12 0 ((playK (makeC n) l m).H.length) none], SO.ints true .i64 ((makeC n).First), SO.ints true .i64 ((makeC n).Head), SO.ints true .i64 ((makeC n).Rev), SO.ints true .i64 ((makeC n).Cap), SO.ints true .i64 ((makeC n).Arc), SO.bools true ((makeC n).Back), SO.ints true .i64 ((playK (makeC n) l m).Res), SO.ints true .i64 ((playK (makeC n) l m).Ex), SO.ints true .i64 ((playK (makeC n) l m).H)]) := by
  refine tri_of_w (fn := Try.f28) Try.func28 rfl (by simp [Try.f28]) ?_
  intro ρ w hρ
  refine w_seq ?_
  have hcq := make_q hsm
  have hg := hcq.toCsrG
  have hgT := hcq.toCsrT
  have hhl := hg.small
  have hN := hg.n
  have hSS := hg.s
  have hTT := hg.t
  -- region 0
  refine w_region ?_
  refine rw_t 3 rfl rfl rfl (n_box_agg (n := 4) rfl rfl ?_)
  refine rw_t 6 rfl rfl rfl (do_assign rfl ?_)
  refine rw_nil ?_
  refine w_seq ?_
  -- region 1
  refine w_region ?_
  refine rw_t 18 rfl rfl rfl (n_load_boxagg [_, _, _, _] rfl rfl (Nat.le_of_ble_eq_true rfl) rfl ?_)
  refine rw_t 19 rfl rfl rfl (n_callN (X' := .tup [.agg [.val (.int .i64 ((makeC n).N)), .val (.int .i64 ((makeC n).S)), .val (.int .i64 ((makeC n).T)), .slc 5 0 ((makeC n).First.length) none, .slc 6 0 ((makeC n).Head.length) none, .slc 7 0 ((makeC n).Rev.length) none, .slc 8 0 ((makeC n).Cap.length) none, .slc 9 0 ((makeC n).Arc.length) none, .slc 10 0 ((makeC n).Back.length) none], .val (.int .i64 0)]) (N' := [SO.ints true .i64 ((makeC n).First), SO.ints true .i64 ((makeC n).Head), SO.ints true .i64 ((makeC n).Rev), SO.ints true .i64 ((makeC n).Cap), SO.ints true .i64 ((makeC n).Arc), SO.bools true ((makeC n).Back)]) rfl rfl (t_pMake (n := n) (hsm.toNetOK)) [0] ⟨.inr ⟨_, rfl, srv⟩, trivial⟩ rfl rfl rfl rfl rfl ?_)
  refine rw_t 17 rfl rfl rfl (do_move rfl ?_)
  refine rw_t 20 rfl rfl rfl (do_extract rfl rfl ?_)
  refine rw_t 21 rfl rfl rfl (do_extract rfl rfl ?_)
  refine rw_t 7 rfl rfl rfl (n_alloc (n := 11) rfl ?_)
  refine rw_u rfl rfl (n_store_whole rfl rfl rfl rfl rfl rfl ?_)
  refine rw_t 8 rfl rfl rfl (do_assign rfl ?_)
  refine rw_nil ?_
  refine w_seq ?_
  refine w_seq ?_
  -- region 2
  refine w_region ?_
  refine rw_t 22 rfl rfl rfl (do_move rfl ?_)
  refine rw_t 23 rfl rfl rfl (do_bin rfl rfl rfl ?_)
  refine rw_nil ?_
  refine w_cond rfl (fun hc1 => ?_) (fun hc1 => ?_)
  · exfalso; simp at hc1
  refine w_skip ?_
  refine w_seq ?_
  -- region 4
  refine w_region ?_
  refine rw_t 24 rfl rfl rfl (n_load_boxagg [_, _, _, _, _, _, _, _, _] rfl rfl (Nat.le_of_ble_eq_true rfl) rfl ?_)
  refine rw_t 25 rfl rfl rfl (n_callN (X' := .agg [.slc 12 0 ((begC (makeC n)).Res.length) none, .slc 13 0 ((begC (makeC n)).Ex.length) none, .slc 14 0 ((begC (makeC n)).H.length) none]) (N' := [SO.ints true .i64 ((begC (makeC n)).Res), SO.ints true .i64 ((begC (makeC n)).Ex), SO.ints true .i64 ((begC (makeC n)).H)]) rfl rfl (t_Begin (c := (makeC n)) (hgT) ((beg_in_all hcq))) [5, 6, 7, 8, 9, 10] ⟨.inr ⟨_, rfl, srv⟩, .inr ⟨_, rfl, srv⟩, .inr ⟨_, rfl, srv⟩, .inr ⟨_, rfl, srv⟩, .inr ⟨_, rfl, srv⟩, .inr ⟨_, rfl, srv⟩, trivial⟩ rfl rfl rfl rfl rfl ?_)
  refine rw_t 9 rfl rfl rfl (n_alloc (n := 15) rfl ?_)
  refine rw_u rfl rfl (n_store_whole rfl rfl rfl rfl rfl rfl ?_)
  refine rw_nil ?_
  refine w_seq ?_
  refine w_seq ?_
  -- region 5
  refine w_region ?_
  refine rw_t 26 rfl rfl rfl (do_move rfl ?_)
  refine rw_t 27 rfl rfl rfl (n_load_boxagg [_, _, _, _, _, _, _, _, _] rfl rfl (Nat.le_of_ble_eq_true rfl) rfl ?_)
  refine rw_t 28 rfl rfl rfl (n_load_boxagg [_, _, _] rfl rfl (Nat.le_of_ble_eq_true rfl) rfl ?_)
  refine rw_t 29 rfl rfl rfl (n_load_boxagg [_, _, _] rfl rfl (Nat.le_of_ble_eq_true rfl) rfl ?_)
  refine rw_t 30 rfl rfl rfl (n_callW (X' := .val (.bool true)) (H' := [SO.arcs false n.arcs, SO.ints false .u8 l, .box [.val (.int .i64 ((makeC n).N)), .val (.int .i64 ((makeC n).S)), .val (.int .i64 ((makeC n).T)), .slc 5 0 ((makeC n).First.length) none, .slc 6 0 ((makeC n).Head.length) none, .slc 7 0 ((makeC n).Rev.length) none, .slc 8 0 ((makeC n).Cap.length) none, .slc 9 0 ((makeC n).Arc.length) none, .slc 10 0 ((makeC n).Back.length) none], .box [.slc 12 0 ((begC (makeC n)).Res.length) none, .slc 13 0 ((begC (makeC n)).Ex.length) none, .slc 14 0 ((begC (makeC n)).H.length) none], .box [.val (.int .i64 n.N), .val (.int .i64 n.S), .val (.int .i64 n.T), .slc 0 0 n.arcs.length none], SO.ints true .i64 ((makeC n).First), SO.ints true .i64 ((makeC n).Head), SO.ints true .i64 ((makeC n).Rev), SO.ints true .i64 ((makeC n).Cap), SO.ints true .i64 ((makeC n).Arc), SO.bools true ((makeC n).Back), .box [.val (.int .i64 ((makeC n).N)), .val (.int .i64 ((makeC n).S)), .val (.int .i64 ((makeC n).T)), .slc 5 0 ((makeC n).First.length) none, .slc 6 0 ((makeC n).Head.length) none, .slc 7 0 ((makeC n).Rev.length) none, .slc 8 0 ((makeC n).Cap.length) none, .slc 9 0 ((makeC n).Arc.length) none, .slc 10 0 ((makeC n).Back.length) none], SO.ints true .i64 ((begC (makeC n)).Res), SO.ints true .i64 ((begC (makeC n)).Ex), SO.ints true .i64 ((begC (makeC n)).H), .box [.slc 12 0 ((begC (makeC n)).Res.length) none, .slc 13 0 ((begC (makeC n)).Ex.length) none, .slc 14 0 ((begC (makeC n)).H.length) none]]) rfl rfl (t_note0W (c := (makeC n)) (q := (begC (makeC n))) (p := (begC (makeC n))) (hcq) ((beg_ref hcq)) ((beg_ref hcq))) [5, 6, 7, 8, 9, 10, 12, 13, 14, 12, 13, 14, 2, 3] ⟨.inr ⟨_, rfl, srv⟩, .inr ⟨_, rfl, srv⟩, .inr ⟨_, rfl, srv⟩, .inr ⟨_, rfl, srv⟩, .inr ⟨_, rfl, srv⟩, .inr ⟨_, rfl, srv⟩, .inr ⟨_, rfl, srv⟩, .inr ⟨_, rfl, srv⟩, .inr ⟨_, rfl, srv⟩, .inr ⟨_, rfl, srv⟩, .inr ⟨_, rfl, srv⟩, .inr ⟨_, rfl, srv⟩, .inr ⟨_, rfl, .inl rfl⟩, .inr ⟨_, rfl, .inl rfl⟩, trivial⟩ rfl rfl ⟨fun h => (by cases h), ⟨fun h => (by cases h), ⟨fun h => (by cases h), ⟨fun h => (by cases h), ⟨fun h => (by cases h), ⟨fun h => (by cases h), ⟨fun h => (by cases h), ⟨fun h => (by cases h), ⟨fun h => (by cases h), ⟨fun h => (by cases h), ⟨fun h => (by cases h), ⟨fun h => (by cases h), ⟨fun h => .inl rfl, ⟨fun h => .inl rfl, (fun y hy => by simp at hy)⟩⟩⟩⟩⟩⟩⟩⟩⟩⟩⟩⟩⟩⟩ rfl rfl ?_)
  refine rw_t 31 rfl rfl rfl (do_not rfl ?_)
  refine rw_nil ?_
  refine w_cond rfl (fun hc2 => ?_) (fun hc2 => ?_)
  · exfalso; first | (cases hc2; done) | exact (hc2 trivial) | (try simp only [bs] at hc2; first | omega | (simp_all; done) | (simp_all; omega))
  refine w_skip ?_
  refine w_seq ?_
  refine w_seq ?_
  -- region 7
  refine w_region ?_
  refine rw_t 32 rfl rfl rfl (do_move rfl ?_)
  refine rw_t 33 rfl rfl rfl (do_len rfl ?_)
  refine rw_t 34 rfl rfl rfl (do_move rfl ?_)
  refine rw_nil ?_
  refine w_block ?_
  refine w_loopS (ι := Nat × Pre) (fun q => [(2, .func 34 [] [.ptr 2 0 0, .ptr 3 0 0]), (7, .ptr 11 0 0), (9, .ptr 15 0 0), (32, .slc 1 0 m none), (33, .val (.int .i64 ((m : Nat) : Int))), (34, .val (.int .i64 ((q.1 : Nat) : Int)))]) (fun q => [SO.arcs false n.arcs, SO.ints false .u8 l, .box [.val (.int .i64 ((makeC n).N)), .val (.int .i64 ((makeC n).S)), .val (.int .i64 ((makeC n).T)), .slc 5 0 ((makeC n).First.length) none, .slc 6 0 ((makeC n).Head.length) none, .slc 7 0 ((makeC n).Rev.length) none, .slc 8 0 ((makeC n).Cap.length) none, .slc 9 0 ((makeC n).Arc.length) none, .slc 10 0 ((makeC n).Back.length) none], .box [.slc 12 0 q.2.Res.length none, .slc 13 0 q.2.Ex.length none, .slc 14 0 q.2.H.length none], .box [.val (.int .i64 n.N), .val (.int .i64 n.S), .val (.int .i64 n.T), .slc 0 0 n.arcs.length none], SO.ints true .i64 ((makeC n).First), SO.ints true .i64 ((makeC n).Head), SO.ints true .i64 ((makeC n).Rev), SO.ints true .i64 ((makeC n).Cap), SO.ints true .i64 ((makeC n).Arc), SO.bools true ((makeC n).Back), .box [.val (.int .i64 ((makeC n).N)), .val (.int .i64 ((makeC n).S)), .val (.int .i64 ((makeC n).T)), .slc 5 0 ((makeC n).First.length) none, .slc 6 0 ((makeC n).Head.length) none, .slc 7 0 ((makeC n).Rev.length) none, .slc 8 0 ((makeC n).Cap.length) none, .slc 9 0 ((makeC n).Arc.length) none, .slc 10 0 ((makeC n).Back.length) none], SO.ints true .i64 q.2.Res, SO.ints true .i64 q.2.Ex, SO.ints true .i64 q.2.H, .box [.slc 12 0 q.2.Res.length none, .slc 13 0 q.2.Ex.length none, .slc 14 0 q.2.H.length none]]) (fun q => m - q.1) (fun q => q.1 ≤ m ∧ refR (makeC n) q.2 ∧ q.2 = playK (makeC n) l q.1) ((0, begC (makeC n))) [0, 1, 2, 3, 4, 5, 6, 7, 8, 9, 10, 11, 12, 13, 14, 15] (⟨by simp, beg_ref hcq, rfl⟩) ⟨.inr ⟨_, rfl, .inl rfl⟩, .inr ⟨_, rfl, .inl rfl⟩, .inr ⟨_, rfl, .inl rfl⟩, .inr ⟨_, rfl, .inl rfl⟩, .inr ⟨_, rfl, .inl rfl⟩, .inr ⟨_, rfl, .inl rfl⟩, .inr ⟨_, rfl, .inl rfl⟩, .inr ⟨_, rfl, .inl rfl⟩, .inr ⟨_, rfl, .inl rfl⟩, .inr ⟨_, rfl, .inl rfl⟩, .inr ⟨_, rfl, .inl rfl⟩, .inr ⟨_, rfl, .inl rfl⟩, .inr ⟨_, rfl, .inl rfl⟩, .inr ⟨_, rfl, .inl rfl⟩, .inr ⟨_, rfl, .inl rfl⟩, .inr ⟨_, rfl, .inl rfl⟩, trivial⟩ rfl (pre_ok rfl) hρ ⟨⟨_, rfl, rfl⟩, ⟨_, rfl, rfl⟩, ⟨_, rfl, rfl⟩, ⟨_, rfl, rfl⟩, ⟨_, rfl, rfl⟩, ⟨_, rfl, rfl⟩, trivial⟩ ?_
  rintro ⟨i, r⟩ ⟨gi, gr, gk⟩
  dsimp only at gi gr gk ⊢
  refine w_seq ?_
  -- region 8
  refine w_region ?_
  refine rw_t 35 rfl rfl rfl (do_bin rfl rfl rfl ?_)
  refine rw_nil ?_
  refine w_seq ?_
  refine w_cond rfl (fun hc3 => ?_) (fun hc3 => ?_)
  all_goals try simp only [bs] at hc3
  rotate_left
  · refine w_exit ?_ -- exit 0
    refine w_seq ?_
    -- region 23
    refine w_region ?_
    refine rw_t 6 rfl rfl rfl (do_assign rfl ?_)
    refine rw_nil ?_
    have hfin : r = playK (makeC n) l m := gk.trans (by rw [show i = m by omega])
    rw [hfin]
    refine w_ret ?_
    exact ret_eq (.inl rfl) (.cons (res_tmp rfl) .nil) [0, 1, 2, 3, 5, 6, 7, 8, 9, 10, 12, 13, 14] (rfl) ⟨.inr ⟨_, rfl, .inl rfl⟩, .inr ⟨_, rfl, .inl rfl⟩, .inr ⟨_, rfl, .inl rfl⟩, .inr ⟨_, rfl, .inl rfl⟩, .inr ⟨_, rfl, .inl rfl⟩, .inr ⟨_, rfl, .inl rfl⟩, .inr ⟨_, rfl, .inl rfl⟩, .inr ⟨_, rfl, .inl rfl⟩, .inr ⟨_, rfl, .inl rfl⟩, .inr ⟨_, rfl, .inl rfl⟩, .inr ⟨_, rfl, .inl rfl⟩, .inr ⟨_, rfl, .inl rfl⟩, .inr ⟨_, rfl, .inl rfl⟩, trivial⟩ rfl (pre_ok rfl)
  refine w_skip ?_
  refine w_seq ?_
  refine w_block ?_
  refine w_seq ?_
  -- region 9
  refine w_region ?_
  refine rw_t 36 rfl rfl rfl (do_ixn rfl rfl rfl (by first | omega | (simp only [ls] <;> omega)) ?_)
  refine rw_t 37 rfl rfl rfl (do_load_arr rfl rfl (by first | omega | (simp only [ls] <;> omega)) rfl ?_)
  refine rw_as (.val (.int .u8 (l.getD i 0))) (val_congr (by simp)) ?_
  refine rw_t 11 rfl rfl rfl (do_assign rfl ?_)
  refine rw_nil ?_
  refine w_seq ?_
  have hin := refR_in hg gr
  have hpi := refR_push hg gr
  have hr1 := hin.res
  have hr2 := hin.ex
  have hr3 := hin.h
  have hpl : (pushL (makeC n) r).length ≤ (makeC n).Head.length := selK_len (pusQ (makeC n) r) (makeC n).Head.length
  have hsl : (stuckL (makeC n) r).length ≤ (makeC n).N.toNat := selK_len (stuQ (makeC n) r) (makeC n).N.toNat
  -- region 10
  refine w_region ?_
  refine rw_t 39 rfl rfl rfl (n_load_boxagg [_, _, _, _, _, _, _, _, _] rfl rfl (Nat.le_of_ble_eq_true rfl) rfl ?_)
  refine rw_t 40 rfl rfl rfl (n_load_boxagg [_, _, _] rfl rfl (Nat.le_of_ble_eq_true rfl) rfl ?_)
  refine rw_t 41 rfl rfl rfl (n_callN (X' := .tup [.slc 16 0 ((pushL (makeC n) r).length) none, .slc 17 0 ((stuckL (makeC n) r).length) none]) (N' := [SO.ints true .i64 (pushL (makeC n) r), SO.ints true .i64 (stuckL (makeC n) r)]) rfl rfl (t_May (c := (makeC n)) (p := r) (hgT) (hin)) [5, 6, 7, 8, 9, 10, 12, 13, 14] ⟨.inr ⟨_, rfl, srv⟩, .inr ⟨_, rfl, srv⟩, .inr ⟨_, rfl, srv⟩, .inr ⟨_, rfl, srv⟩, .inr ⟨_, rfl, srv⟩, .inr ⟨_, rfl, srv⟩, .inr ⟨_, rfl, srv⟩, .inr ⟨_, rfl, srv⟩, .inr ⟨_, rfl, srv⟩, trivial⟩ rfl rfl rfl rfl rfl ?_)
  refine rw_t 38 rfl rfl rfl (do_move rfl ?_)
  refine rw_t 42 rfl rfl rfl (do_extract rfl rfl ?_)
  refine rw_t 43 rfl rfl rfl (do_extract rfl rfl ?_)
  refine rw_t 12 rfl rfl rfl (do_assign rfl ?_)
  refine rw_t 13 rfl rfl rfl (do_assign rfl ?_)
  refine rw_nil ?_
  refine w_seq ?_
  have hxb := hlb _ (getD_mem 0 (show i < l.length by omega))
  -- region 11
  refine w_region ?_
  refine rw_t 44 rfl rfl rfl (do_move rfl ?_)
  refine rw_t 45 rfl rfl rfl (do_conv rfl ?_)
  refine rw_as (.val (.int .i64 (l.getD i 0))) (val_congr (wrap_small (x := l.getD i 0) (by omega))) ?_
  refine rw_t 14 rfl rfl rfl (do_assign rfl ?_)
  refine rw_nil ?_
  refine w_seq ?_
  -- region 12
  refine w_region ?_
  refine rw_t 15 rfl rfl rfl (n_alloc (n := 18) rfl ?_)
  refine rw_nil ?_
  refine w_seq ?_
  -- region 13
  refine w_region ?_
  refine rw_t 16 rfl rfl rfl (do_assign rfl ?_)
  refine rw_nil ?_
  refine w_seq ?_
  refine w_block ?_
  refine w_env [(2, .func 34 [] [.ptr 2 0 0, .ptr 3 0 0]), (7, .ptr 11 0 0), (9, .ptr 15 0 0), (11, .val (.int .u8 (l.getD i 0))), (12, .slc 16 0 ((pushL (makeC n) r).length) none), (13, .slc 17 0 ((stuckL (makeC n) r).length) none), (14, .val (.int .i64 (l.getD i 0))), (15, .ptr 18 0 0), (16, .val (.int .i64 0)), (32, .slc 1 0 m none), (33, .val (.int .i64 ((m : Nat) : Int))), (34, .val (.int .i64 ((i : Nat) : Int))), (35, .val (.bool (decide (((i : Nat) : Int) < ((m : Nat) : Int))))), (36, .ptr 1 i 0), (37, .val (.int .u8 (l.getD i 0))), (38, .tup [.slc 16 0 ((pushL (makeC n) r).length) none, .slc 17 0 ((stuckL (makeC n) r).length) none]), (39, .agg [.val (.int .i64 ((makeC n).N)), .val (.int .i64 ((makeC n).S)), .val (.int .i64 ((makeC n).T)), .slc 5 0 ((makeC n).First.length) none, .slc 6 0 ((makeC n).Head.length) none, .slc 7 0 ((makeC n).Rev.length) none, .slc 8 0 ((makeC n).Cap.length) none, .slc 9 0 ((makeC n).Arc.length) none, .slc 10 0 ((makeC n).Back.length) none]), (40, .agg [.slc 12 0 r.Res.length none, .slc 13 0 r.Ex.length none, .slc 14 0 r.H.length none]), (41, .tup [.slc 16 0 ((pushL (makeC n) r).length) none, .slc 17 0 ((stuckL (makeC n) r).length) none]), (42, .slc 16 0 ((pushL (makeC n) r).length) none), (43, .slc 17 0 ((stuckL (makeC n) r).length) none), (44, .val (.int .u8 (l.getD i 0))), (45, .val (.int .i64 (l.getD i 0)))] ⟨⟨_, rfl, rfl⟩, ⟨_, rfl, rfl⟩, ⟨_, rfl, rfl⟩, ⟨_, rfl, rfl⟩, ⟨_, rfl, rfl⟩, ⟨_, rfl, rfl⟩, ⟨_, rfl, rfl⟩, ⟨_, rfl, rfl⟩, ⟨_, rfl, rfl⟩, ⟨_, rfl, rfl⟩, ⟨_, rfl, rfl⟩, ⟨_, rfl, rfl⟩, ⟨_, rfl, rfl⟩, ⟨_, rfl, rfl⟩, ⟨_, rfl, rfl⟩, ⟨_, rfl, rfl⟩, ⟨_, rfl, rfl⟩, ⟨_, rfl, rfl⟩, ⟨_, rfl, rfl⟩, ⟨_, rfl, rfl⟩, ⟨_, rfl, rfl⟩, ⟨_, rfl, rfl⟩, ⟨_, rfl, rfl⟩, trivial⟩ ?_
  refine w_seqB 46 (((((pushL (makeC n) r).length : Nat) : Int) > 0 ∧ ((l.getD i 0).tmod 2 = 0 ∨ (((stuckL (makeC n) r).length : Nat) : Int) = 0))) ?_ ?_
  · -- region 15
    refine w_region ?_
    refine rw_t 47 rfl rfl rfl (do_move rfl ?_)
    refine rw_t 48 rfl rfl rfl (do_len rfl ?_)
    refine rw_t 49 rfl rfl rfl (do_bin rfl rfl rfl ?_)
    refine rw_t 50 rfl rfl rfl (do_move rfl ?_)
    refine rw_case 50 rfl (fun g1 => ?_) (fun g1 => ?_)
    · have kg1 := g1
      try simp only [bs] at kg1
      refine rw_gt 51 3 50 true rfl rfl rfl rfl rfl rfl g1 (do_move rfl ?_)
      refine rw_gt 52 3 50 true rfl rfl rfl rfl rfl rfl g1 (do_rem rfl rfl (by omega) ?_)
      refine rw_gt 53 3 50 true rfl rfl rfl rfl rfl rfl g1 (do_bin rfl rfl rfl ?_)
      refine rw_gt 54 3 50 true rfl rfl rfl rfl rfl rfl g1 (do_move rfl ?_)
      refine rw_case 54 rfl (fun g2 => ?_) (fun g2 => ?_)
      · have kg2 := g2
        try simp only [bs] at kg2
        refine rw_gf 55 7 54 false rfl rfl rfl rfl rfl rfl (by rw [g2]; decide) ?_
        refine rw_gf 56 7 54 false rfl rfl rfl rfl rfl rfl (by rw [g2]; decide) ?_
        refine rw_gf 57 7 54 false rfl rfl rfl rfl rfl rfl (by rw [g2]; decide) ?_
        refine rw_gt 58 3 50 true rfl rfl rfl rfl rfl rfl g1 (do_pick_t rfl g2 rfl ?_)
        refine rw_t 59 rfl rfl rfl (do_pick_t rfl g1 rfl ?_)
        refine rw_t 46 rfl rfl rfl (do_assign rfl ?_)
        refine rw_nil ?_
        refine ⟨rfl, ⟨_, rfl, by first | (simp; done) | (simp only [bs]; omega) | (simp [*]; done) | (simp; omega) | (constructor <;> intro h <;> simp_all <;> omega)⟩, ?_⟩
        repeat (refine ⟨⟨_, rfl, rfl⟩, ?_⟩)
        exact trivial
      · have kg2 := g2
        try simp only [bs] at kg2
        refine rw_gt 55 7 54 false rfl rfl rfl rfl rfl rfl g2 (do_move rfl ?_)
        refine rw_gt 56 7 54 false rfl rfl rfl rfl rfl rfl g2 (do_len rfl ?_)
        refine rw_gt 57 7 54 false rfl rfl rfl rfl rfl rfl g2 (do_bin rfl rfl rfl ?_)
        refine rw_gt 58 3 50 true rfl rfl rfl rfl rfl rfl g1 (do_pick_f rfl g2 rfl ?_)
        refine rw_t 59 rfl rfl rfl (do_pick_t rfl g1 rfl ?_)
        refine rw_t 46 rfl rfl rfl (do_assign rfl ?_)
        refine rw_nil ?_
        refine ⟨rfl, ⟨_, rfl, by first | (simp; done) | (simp only [bs]; omega) | (simp [*]; done) | (simp; omega) | (constructor <;> intro h <;> simp_all <;> omega)⟩, ?_⟩
        repeat (refine ⟨⟨_, rfl, rfl⟩, ?_⟩)
        exact trivial
    · have kg1 := g1
      try simp only [bs] at kg1
      refine rw_gf 51 3 50 true rfl rfl rfl rfl rfl rfl (by rw [g1]; decide) ?_
      refine rw_gf 52 3 50 true rfl rfl rfl rfl rfl rfl (by rw [g1]; decide) ?_
      refine rw_gf 53 3 50 true rfl rfl rfl rfl rfl rfl (by rw [g1]; decide) ?_
      refine rw_gf 54 3 50 true rfl rfl rfl rfl rfl rfl (by rw [g1]; decide) ?_
      refine rw_gu 55 7 54 false rfl rfl rfl rfl rfl rfl ?_
      refine rw_gu 56 7 54 false rfl rfl rfl rfl rfl rfl ?_
      refine rw_gu 57 7 54 false rfl rfl rfl rfl rfl rfl ?_
      refine rw_gf 58 3 50 true rfl rfl rfl rfl rfl rfl (by rw [g1]; decide) ?_
      refine rw_t 59 rfl rfl rfl (do_pick_f rfl g1 rfl ?_)
      refine rw_t 46 rfl rfl rfl (do_assign rfl ?_)
      refine rw_nil ?_
      refine ⟨rfl, ⟨_, rfl, by first | (simp; done) | (simp only [bs]; omega) | (simp [*]; done) | (simp; omega) | (constructor <;> intro h <;> simp_all <;> omega)⟩, ?_⟩
      repeat (refine ⟨⟨_, rfl, rfl⟩, ?_⟩)
      exact trivial
  intro b1 hb1
  refine w_condP hb1 rfl (fun hc4 => ?_) (fun hc4 => ?_)
  · have hix := ix_in hxb (show 0 < (pushL (makeC n) r).length by omega)
    have hixn : ((IntKind.i64.wrap ((l.getD i 0).tdiv 2)).tmod (((pushL (makeC n) r).length : Nat) : Int)).toNat < (pushL (makeC n) r).length := by omega
    have hok := push_ok hixn
    have hnx := walk_push hg gr hixn
    have hpk := playK_push gk (show 0 < (pushL (makeC n) r).length ∧ ((l.getD i 0).tmod 2 = 0 ∨ (stuckL (makeC n) r).length = 0) by omega)
    -- region 16
    refine w_env [(2, .func 34 [] [.ptr 2 0 0, .ptr 3 0 0]), (7, .ptr 11 0 0), (9, .ptr 15 0 0), (11, .val (.int .u8 (l.getD i 0))), (12, .slc 16 0 ((pushL (makeC n) r).length) none), (13, .slc 17 0 ((stuckL (makeC n) r).length) none), (14, .val (.int .i64 (l.getD i 0))), (15, .ptr 18 0 0), (32, .slc 1 0 m none), (33, .val (.int .i64 ((m : Nat) : Int))), (34, .val (.int .i64 ((i : Nat) : Int))), (35, .val (.bool (decide (((i : Nat) : Int) < ((m : Nat) : Int))))), (36, .ptr 1 i 0), (37, .val (.int .u8 (l.getD i 0))), (38, .tup [.slc 16 0 ((pushL (makeC n) r).length) none, .slc 17 0 ((stuckL (makeC n) r).length) none]), (39, .agg [.val (.int .i64 ((makeC n).N)), .val (.int .i64 ((makeC n).S)), .val (.int .i64 ((makeC n).T)), .slc 5 0 ((makeC n).First.length) none, .slc 6 0 ((makeC n).Head.length) none, .slc 7 0 ((makeC n).Rev.length) none, .slc 8 0 ((makeC n).Cap.length) none, .slc 9 0 ((makeC n).Arc.length) none, .slc 10 0 ((makeC n).Back.length) none]), (40, .agg [.slc 12 0 r.Res.length none, .slc 13 0 r.Ex.length none, .slc 14 0 r.H.length none]), (41, .tup [.slc 16 0 ((pushL (makeC n) r).length) none, .slc 17 0 ((stuckL (makeC n) r).length) none]), (42, .slc 16 0 ((pushL (makeC n) r).length) none), (43, .slc 17 0 ((stuckL (makeC n) r).length) none), (44, .val (.int .u8 (l.getD i 0))), (45, .val (.int .i64 (l.getD i 0))), (46, .val (.bool b1))] ⟨⟨_, rfl, rfl⟩, ⟨_, rfl, rfl⟩, ⟨_, rfl, rfl⟩, ⟨_, rfl, rfl⟩, ⟨_, rfl, rfl⟩, ⟨_, rfl, rfl⟩, ⟨_, rfl, rfl⟩, ⟨_, rfl, rfl⟩, ⟨_, rfl, rfl⟩, ⟨_, rfl, rfl⟩, ⟨_, rfl, rfl⟩, ⟨_, rfl, rfl⟩, ⟨_, rfl, rfl⟩, ⟨_, rfl, rfl⟩, ⟨_, rfl, rfl⟩, ⟨_, rfl, rfl⟩, ⟨_, rfl, rfl⟩, ⟨_, rfl, rfl⟩, ⟨_, rfl, rfl⟩, ⟨_, rfl, rfl⟩, ⟨_, rfl, rfl⟩, ⟨_, rfl, rfl⟩, ⟨_, rfl, rfl⟩, trivial⟩ ?_
    refine w_any mixed ?_
    refine w_late 13 [15] rfl mixed (by kernel_rfl) (fun c e H h => no_panic h) ?_
    refine w_late 14 [15] rfl mixed (by kernel_rfl) (fun c e H h => no_panic h) ?_
    refine wa_draw [0, 0, 0, 0, 8, 0, 32, 120, 252, 508, 1023, 2047, 4095, 4095, 4095] [32767, 65535] (by kernel_rfl) (by kernel_rfl) rfl rfl rfl (hle hρ rfl) ?_
    refine ra_q' rfl (some 61) rfl (j := 0) rfl rfl rfl (n_load_boxagg [_, _, _, _, _, _, _, _, _] rfl rfl (Nat.le_of_ble_eq_true rfl) rfl ⟨rfl, rfl⟩) (by rfl) ?_
    refine ra_q' rfl (some 62) rfl (j := 1) rfl rfl rfl (n_load_boxagg [_, _, _] rfl rfl (Nat.le_of_ble_eq_true rfl) rfl ⟨rfl, rfl⟩) (by rfl) ?_
    refine ra_q' rfl (some 63) rfl (j := 2) rfl rfl rfl (do_move rfl ⟨rfl, rfl⟩) (by rfl) ?_
    refine ra_q' rfl (some 64) rfl (j := 3) rfl rfl rfl (do_move rfl ⟨rfl, rfl⟩) (by rfl) ?_
    refine ra_q' rfl (some 65) rfl (j := 4) rfl rfl rfl (do_quo rfl rfl (by omega) ⟨rfl, rfl⟩) (by rfl) ?_
    refine ra_q' rfl (some 66) rfl (j := 5) rfl rfl rfl (do_move rfl ⟨rfl, rfl⟩) (by rfl) ?_
    refine ra_q' rfl (some 67) rfl (j := 6) rfl rfl rfl (do_len rfl ⟨rfl, rfl⟩) (by rfl) ?_
    refine ra_q' rfl (some 68) rfl (j := 7) rfl rfl rfl (do_rem rfl rfl (by omega) ⟨rfl, rfl⟩) (by rfl) ?_
    refine ra_q' rfl (some 69) rfl (j := 8) rfl rfl rfl (do_ix0 rfl rfl rfl (by first | omega | (simp only [ls] <;> omega)) ⟨rfl, rfl⟩) (by rfl) ?_
    refine ra_q' rfl (some 70) rfl (j := 9) rfl rfl rfl (do_load_arr rfl rfl (by first | omega | (simp only [ls] <;> omega)) rfl ⟨rfl, rfl⟩) (by rfl) ?_
    refine ra_n' rfl (some 71) rfl (j := 10) rfl rfl rfl (g_callN (X' := .tup [.agg [.slc 19 0 ((pushR (makeC n) r ((pushL (makeC n) r).getD (((IntKind.i64.wrap ((l.getD i 0).tdiv 2)).tmod (((pushL (makeC n) r).length : Nat) : Int)).toNat) 0)).1.Res.length) none, .slc 20 0 ((pushR (makeC n) r ((pushL (makeC n) r).getD (((IntKind.i64.wrap ((l.getD i 0).tdiv 2)).tmod (((pushL (makeC n) r).length : Nat) : Int)).toNat) 0)).1.Ex.length) none, .slc 21 0 ((pushR (makeC n) r ((pushL (makeC n) r).getD (((IntKind.i64.wrap ((l.getD i 0).tdiv 2)).tmod (((pushL (makeC n) r).length : Nat) : Int)).toNat) 0)).1.H.length) none], .val (.int .i64 ((pushR (makeC n) r ((pushL (makeC n) r).getD (((IntKind.i64.wrap ((l.getD i 0).tdiv 2)).tmod (((pushL (makeC n) r).length : Nat) : Int)).toNat) 0)).2.1)), .val (.int .i64 ((pushR (makeC n) r ((pushL (makeC n) r).getD (((IntKind.i64.wrap ((l.getD i 0).tdiv 2)).tmod (((pushL (makeC n) r).length : Nat) : Int)).toNat) 0)).2.2))]) (N' := [SO.ints true .i64 ((pushR (makeC n) r ((pushL (makeC n) r).getD (((IntKind.i64.wrap ((l.getD i 0).tdiv 2)).tmod (((pushL (makeC n) r).length : Nat) : Int)).toNat) 0)).1.Res), SO.ints true .i64 ((pushR (makeC n) r ((pushL (makeC n) r).getD (((IntKind.i64.wrap ((l.getD i 0).tdiv 2)).tmod (((pushL (makeC n) r).length : Nat) : Int)).toNat) 0)).1.Ex), SO.ints true .i64 ((pushR (makeC n) r ((pushL (makeC n) r).getD (((IntKind.i64.wrap ((l.getD i 0).tdiv 2)).tmod (((pushL (makeC n) r).length : Nat) : Int)).toNat) 0)).1.H)]) rfl rfl (t_Push (c := (makeC n)) (p := r) (a := ((pushL (makeC n) r).getD (((IntKind.i64.wrap ((l.getD i 0).tdiv 2)).tmod (((pushL (makeC n) r).length : Nat) : Int)).toNat) 0)) (hgT) (hin) (hpi)) [5, 6, 7, 8, 9, 10, 12, 13, 14] ⟨.inr ⟨_, rfl, srv⟩, .inr ⟨_, rfl, srv⟩, .inr ⟨_, rfl, srv⟩, .inr ⟨_, rfl, srv⟩, .inr ⟨_, rfl, srv⟩, .inr ⟨_, rfl, srv⟩, .inr ⟨_, rfl, srv⟩, .inr ⟨_, rfl, srv⟩, .inr ⟨_, rfl, srv⟩, trivial⟩ rfl rfl rfl rfl rfl ⟨rfl, rfl⟩) (by rfl) (by rfl) (by rfl) ?_
    refine ra_q' rfl (some 60) rfl (j := 11) rfl rfl rfl (do_move rfl ⟨rfl, rfl⟩) (by rfl) ?_
    refine ra_q' rfl (some 72) rfl (j := 12) rfl rfl rfl (do_extract rfl rfl ⟨rfl, rfl⟩) (by rfl) ?_
    refine ra_q' rfl (some 73) rfl (j := 13) rfl rfl rfl (do_extract rfl rfl ⟨rfl, rfl⟩) (by rfl) ?_
    refine ra_q' rfl (some 74) rfl (j := 14) rfl rfl rfl (do_extract rfl rfl ⟨rfl, rfl⟩) (by rfl) ?_
    refine n_done ?_
    refine rw_u rfl rfl (n_store_whole rfl rfl rfl rfl rfl rfl ?_)
    refine rw_t 16 rfl rfl rfl (do_assign rfl ?_)
    refine rw_nil ?_
    refine w_seq ?_
    refine w_seq ?_
    -- region 19
    refine w_region ?_
    refine rw_t 93 rfl rfl rfl (do_move rfl ?_)
    refine rw_t 94 rfl rfl rfl (do_bin rfl rfl rfl ?_)
    refine rw_t 95 rfl rfl rfl (do_move rfl ?_)
    have hkn1 : (((pushR (makeC n) r ((pushL (makeC n) r).getD (((IntKind.i64.wrap ((l.getD i 0).tdiv 2)).tmod (((pushL (makeC n) r).length : Nat) : Int)).toNat) 0)).2.2 != 0)) = false := by rw [hok]; rfl
    refine rw_gt 96 2 95 false rfl rfl rfl rfl rfl rfl hkn1 (do_move rfl ?_)
    refine rw_gt 97 2 95 false rfl rfl rfl rfl rfl rfl hkn1 (n_load_boxagg [_, _, _, _, _, _, _, _, _] rfl rfl (Nat.le_of_ble_eq_true rfl) rfl ?_)
    refine rw_gt 98 2 95 false rfl rfl rfl rfl rfl rfl hkn1 (n_load_boxagg [_, _, _] rfl rfl (Nat.le_of_ble_eq_true rfl) rfl ?_)
    refine rw_gt 99 2 95 false rfl rfl rfl rfl rfl rfl hkn1 (n_load_boxagg [_, _, _] rfl rfl (Nat.le_of_ble_eq_true rfl) rfl ?_)
    refine rw_gt 100 2 95 false rfl rfl rfl rfl rfl rfl hkn1 (n_callW (X' := .val (.bool true)) (H' := [SO.arcs false n.arcs, SO.ints false .u8 l, .box [.val (.int .i64 ((makeC n).N)), .val (.int .i64 ((makeC n).S)), .val (.int .i64 ((makeC n).T)), .slc 5 0 ((makeC n).First.length) none, .slc 6 0 ((makeC n).Head.length) none, .slc 7 0 ((makeC n).Rev.length) none, .slc 8 0 ((makeC n).Cap.length) none, .slc 9 0 ((makeC n).Arc.length) none, .slc 10 0 ((makeC n).Back.length) none], .box [.slc 19 0 (((pushR (makeC n) r ((pushL (makeC n) r).getD (((IntKind.i64.wrap ((l.getD i 0).tdiv 2)).tmod (((pushL (makeC n) r).length : Nat) : Int)).toNat) 0)).1).Res.length) none, .slc 20 0 (((pushR (makeC n) r ((pushL (makeC n) r).getD (((IntKind.i64.wrap ((l.getD i 0).tdiv 2)).tmod (((pushL (makeC n) r).length : Nat) : Int)).toNat) 0)).1).Ex.length) none, .slc 21 0 (((pushR (makeC n) r ((pushL (makeC n) r).getD (((IntKind.i64.wrap ((l.getD i 0).tdiv 2)).tmod (((pushL (makeC n) r).length : Nat) : Int)).toNat) 0)).1).H.length) none], .box [.val (.int .i64 n.N), .val (.int .i64 n.S), .val (.int .i64 n.T), .slc 0 0 n.arcs.length none], SO.ints true .i64 ((makeC n).First), SO.ints true .i64 ((makeC n).Head), SO.ints true .i64 ((makeC n).Rev), SO.ints true .i64 ((makeC n).Cap), SO.ints true .i64 ((makeC n).Arc), SO.bools true ((makeC n).Back), .box [.val (.int .i64 ((makeC n).N)), .val (.int .i64 ((makeC n).S)), .val (.int .i64 ((makeC n).T)), .slc 5 0 ((makeC n).First.length) none, .slc 6 0 ((makeC n).Head.length) none, .slc 7 0 ((makeC n).Rev.length) none, .slc 8 0 ((makeC n).Cap.length) none, .slc 9 0 ((makeC n).Arc.length) none, .slc 10 0 ((makeC n).Back.length) none], SO.ints true .i64 r.Res, SO.ints true .i64 r.Ex, SO.ints true .i64 r.H, .box [.slc 12 0 r.Res.length none, .slc 13 0 r.Ex.length none, .slc 14 0 r.H.length none], SO.ints true .i64 (pushL (makeC n) r), SO.ints true .i64 (stuckL (makeC n) r), .box [.slc 19 0 ((pushR (makeC n) r ((pushL (makeC n) r).getD (((IntKind.i64.wrap ((l.getD i 0).tdiv 2)).tmod (((pushL (makeC n) r).length : Nat) : Int)).toNat) 0)).1.Res.length) none, .slc 20 0 ((pushR (makeC n) r ((pushL (makeC n) r).getD (((IntKind.i64.wrap ((l.getD i 0).tdiv 2)).tmod (((pushL (makeC n) r).length : Nat) : Int)).toNat) 0)).1.Ex.length) none, .slc 21 0 ((pushR (makeC n) r ((pushL (makeC n) r).getD (((IntKind.i64.wrap ((l.getD i 0).tdiv 2)).tmod (((pushL (makeC n) r).length : Nat) : Int)).toNat) 0)).1.H.length) none], SO.ints true .i64 ((pushR (makeC n) r ((pushL (makeC n) r).getD (((IntKind.i64.wrap ((l.getD i 0).tdiv 2)).tmod (((pushL (makeC n) r).length : Nat) : Int)).toNat) 0)).1.Res), SO.ints true .i64 ((pushR (makeC n) r ((pushL (makeC n) r).getD (((IntKind.i64.wrap ((l.getD i 0).tdiv 2)).tmod (((pushL (makeC n) r).length : Nat) : Int)).toNat) 0)).1.Ex), SO.ints true .i64 ((pushR (makeC n) r ((pushL (makeC n) r).getD (((IntKind.i64.wrap ((l.getD i 0).tdiv 2)).tmod (((pushL (makeC n) r).length : Nat) : Int)).toNat) 0)).1.H)]) rfl rfl (t_note1W (c := (makeC n)) (q := r) (p := (pushR (makeC n) r ((pushL (makeC n) r).getD (((IntKind.i64.wrap ((l.getD i 0).tdiv 2)).tmod (((pushL (makeC n) r).length : Nat) : Int)).toNat) 0)).1) (hcq) (gr) (hnx)) [5, 6, 7, 8, 9, 10, 12, 13, 14, 19, 20, 21, 2, 3] ⟨.inr ⟨_, rfl, srv⟩, .inr ⟨_, rfl, srv⟩, .inr ⟨_, rfl, srv⟩, .inr ⟨_, rfl, srv⟩, .inr ⟨_, rfl, srv⟩, .inr ⟨_, rfl, srv⟩, .inr ⟨_, rfl, srv⟩, .inr ⟨_, rfl, srv⟩, .inr ⟨_, rfl, srv⟩, .inr ⟨_, rfl, srv⟩, .inr ⟨_, rfl, srv⟩, .inr ⟨_, rfl, srv⟩, .inr ⟨_, rfl, .inl rfl⟩, .inr ⟨_, rfl, .inl rfl⟩, trivial⟩ rfl rfl ⟨fun h => (by cases h), ⟨fun h => (by cases h), ⟨fun h => (by cases h), ⟨fun h => (by cases h), ⟨fun h => (by cases h), ⟨fun h => (by cases h), ⟨fun h => (by cases h), ⟨fun h => (by cases h), ⟨fun h => (by cases h), ⟨fun h => (by cases h), ⟨fun h => (by cases h), ⟨fun h => (by cases h), ⟨fun h => .inl rfl, ⟨fun h => .inl rfl, (fun y hy => by simp at hy)⟩⟩⟩⟩⟩⟩⟩⟩⟩⟩⟩⟩⟩⟩ rfl rfl ?_)
    refine rw_gt 101 2 95 false rfl rfl rfl rfl rfl rfl hkn1 (do_not rfl ?_)
    refine rw_t 102 rfl rfl rfl (do_pick_f rfl hkn1 rfl ?_)
    refine rw_nil ?_
    refine w_cond rfl (fun hc5 => ?_) (fun hc5 => ?_)
    · exfalso; first | (cases hc5; done) | exact (hc5 trivial) | (try simp only [bs] at hc5; first | omega | (simp_all; done) | (simp_all; omega))
    refine w_skip ?_
    -- region 21
    refine w_region ?_
    refine rw_t 103 rfl rfl rfl (n_load_boxagg [_, _, _] rfl rfl (Nat.le_of_ble_eq_true rfl) rfl ?_)
    refine rw_u rfl rfl (n_store_whole rfl rfl rfl rfl rfl rfl ?_)
    refine rw_nil ?_
    -- region 22
    refine w_region ?_
    refine rw_t 104 rfl rfl rfl (do_add rfl rfl (by omega) ?_)
    refine rw_t 34 rfl rfl rfl (do_move rfl ?_)
    refine rw_nil ?_
    refine ⟨(i + 1, (pushR (makeC n) r ((pushL (makeC n) r).getD (((IntKind.i64.wrap ((l.getD i 0).tdiv 2)).tmod (((pushL (makeC n) r).length : Nat) : Int)).toNat) 0)).1), [0, 1, 2, 3, 4, 5, 6, 7, 8, 9, 10, 11, 19, 20, 21, 15], by dsimp only; omega, ⟨by dsimp only; omega, hnx, hpk⟩, ⟨.inr ⟨_, rfl, .inl rfl⟩, .inr ⟨_, rfl, .inl rfl⟩, .inr ⟨_, rfl, .inl rfl⟩, .inr ⟨_, rfl, .inl rfl⟩, .inr ⟨_, rfl, .inl rfl⟩, .inr ⟨_, rfl, .inl rfl⟩, .inr ⟨_, rfl, .inl rfl⟩, .inr ⟨_, rfl, .inl rfl⟩, .inr ⟨_, rfl, .inl rfl⟩, .inr ⟨_, rfl, .inl rfl⟩, .inr ⟨_, rfl, .inl rfl⟩, .inr ⟨_, rfl, .inl rfl⟩, .inr ⟨_, rfl, .inl rfl⟩, .inr ⟨_, rfl, .inl rfl⟩, .inr ⟨_, rfl, .inl rfl⟩, .inr ⟨_, rfl, .inl rfl⟩, trivial⟩, rfl, pre_ok rfl, ⟨⟨_, rfl, rfl⟩, ⟨_, rfl, rfl⟩, ⟨_, rfl, rfl⟩, ⟨_, rfl, rfl⟩, ⟨_, rfl, rfl⟩, ⟨_, rfl, rfl⟩, trivial⟩⟩
  · refine w_seq ?_
    -- region 17
    refine w_region ?_
    refine rw_t 76 rfl rfl rfl (do_move rfl ?_)
    refine rw_t 77 rfl rfl rfl (do_len rfl ?_)
    refine rw_t 78 rfl rfl rfl (do_bin rfl rfl rfl ?_)
    refine rw_t 75 rfl rfl rfl (do_assign rfl ?_)
    refine rw_nil ?_
    refine w_cond rfl (fun hc6 => ?_) (fun hc6 => ?_)
    all_goals try simp only [bs] at hc6
    rotate_left
    · refine w_seq ?_
      -- region 14
      refine w_region ?_
      refine rw_t 6 rfl rfl rfl (do_assign rfl ?_)
      refine rw_nil ?_
      have hfin : r = playK (makeC n) l m := playK_end gk (by omega) (by omega) gi
      rw [hfin]
      refine w_ret ?_
      exact ret_eq (.inl rfl) (.cons (res_tmp rfl) .nil) [0, 1, 2, 3, 5, 6, 7, 8, 9, 10, 12, 13, 14] (rfl) ⟨.inr ⟨_, rfl, .inl rfl⟩, .inr ⟨_, rfl, .inl rfl⟩, .inr ⟨_, rfl, .inl rfl⟩, .inr ⟨_, rfl, .inl rfl⟩, .inr ⟨_, rfl, .inl rfl⟩, .inr ⟨_, rfl, .inl rfl⟩, .inr ⟨_, rfl, .inl rfl⟩, .inr ⟨_, rfl, .inl rfl⟩, .inr ⟨_, rfl, .inl rfl⟩, .inr ⟨_, rfl, .inl rfl⟩, .inr ⟨_, rfl, .inl rfl⟩, .inr ⟨_, rfl, .inl rfl⟩, .inr ⟨_, rfl, .inl rfl⟩, trivial⟩ rfl (pre_ok rfl)
    have hix := ix_in hxb (show 0 < (stuckL (makeC n) r).length by omega)
    have hixn : ((IntKind.i64.wrap ((l.getD i 0).tdiv 2)).tmod (((stuckL (makeC n) r).length : Nat) : Int)).toNat < (stuckL (makeC n) r).length := by omega
    have hok := lift_ok (c := (makeC n)) (by omega) hixn
    have hnx := walk_lift hg gr hixn
    have hpk := playK_lift gk (show ¬ (0 < (pushL (makeC n) r).length ∧ ((l.getD i 0).tmod 2 = 0 ∨ (stuckL (makeC n) r).length = 0)) by omega) (by omega)
    -- region 18
    refine w_env [(2, .func 34 [] [.ptr 2 0 0, .ptr 3 0 0]), (7, .ptr 11 0 0), (9, .ptr 15 0 0), (11, .val (.int .u8 (l.getD i 0))), (12, .slc 16 0 ((pushL (makeC n) r).length) none), (13, .slc 17 0 ((stuckL (makeC n) r).length) none), (14, .val (.int .i64 (l.getD i 0))), (15, .ptr 18 0 0), (32, .slc 1 0 m none), (33, .val (.int .i64 ((m : Nat) : Int))), (34, .val (.int .i64 ((i : Nat) : Int))), (35, .val (.bool (decide (((i : Nat) : Int) < ((m : Nat) : Int))))), (36, .ptr 1 i 0), (37, .val (.int .u8 (l.getD i 0))), (38, .tup [.slc 16 0 ((pushL (makeC n) r).length) none, .slc 17 0 ((stuckL (makeC n) r).length) none]), (39, .agg [.val (.int .i64 ((makeC n).N)), .val (.int .i64 ((makeC n).S)), .val (.int .i64 ((makeC n).T)), .slc 5 0 ((makeC n).First.length) none, .slc 6 0 ((makeC n).Head.length) none, .slc 7 0 ((makeC n).Rev.length) none, .slc 8 0 ((makeC n).Cap.length) none, .slc 9 0 ((makeC n).Arc.length) none, .slc 10 0 ((makeC n).Back.length) none]), (40, .agg [.slc 12 0 r.Res.length none, .slc 13 0 r.Ex.length none, .slc 14 0 r.H.length none]), (41, .tup [.slc 16 0 ((pushL (makeC n) r).length) none, .slc 17 0 ((stuckL (makeC n) r).length) none]), (42, .slc 16 0 ((pushL (makeC n) r).length) none), (43, .slc 17 0 ((stuckL (makeC n) r).length) none), (44, .val (.int .u8 (l.getD i 0))), (45, .val (.int .i64 (l.getD i 0))), (46, .val (.bool b1)), (75, .val (.bool (decide ((((stuckL (makeC n) r).length : Nat) : Int) > 0)))), (76, .slc 17 0 ((stuckL (makeC n) r).length) none), (77, .val (.int .i64 (((stuckL (makeC n) r).length : Nat) : Int))), (78, .val (.bool (decide ((((stuckL (makeC n) r).length : Nat) : Int) > 0))))] ⟨⟨_, rfl, rfl⟩, ⟨_, rfl, rfl⟩, ⟨_, rfl, rfl⟩, ⟨_, rfl, rfl⟩, ⟨_, rfl, rfl⟩, ⟨_, rfl, rfl⟩, ⟨_, rfl, rfl⟩, ⟨_, rfl, rfl⟩, ⟨_, rfl, rfl⟩, ⟨_, rfl, rfl⟩, ⟨_, rfl, rfl⟩, ⟨_, rfl, rfl⟩, ⟨_, rfl, rfl⟩, ⟨_, rfl, rfl⟩, ⟨_, rfl, rfl⟩, ⟨_, rfl, rfl⟩, ⟨_, rfl, rfl⟩, ⟨_, rfl, rfl⟩, ⟨_, rfl, rfl⟩, ⟨_, rfl, rfl⟩, ⟨_, rfl, rfl⟩, ⟨_, rfl, rfl⟩, ⟨_, rfl, rfl⟩, ⟨_, rfl, rfl⟩, ⟨_, rfl, rfl⟩, ⟨_, rfl, rfl⟩, ⟨_, rfl, rfl⟩, trivial⟩ ?_
    refine w_any mixed ?_
    refine w_late 13 [14] rfl mixed (by kernel_rfl) (fun c e H h => no_panic h) ?_
    refine wa_draw [0, 0, 0, 0, 8, 0, 32, 120, 252, 508, 1023, 2047, 4095, 4095] [16383, 32767] (by kernel_rfl) (by kernel_rfl) rfl rfl rfl (hle hρ rfl) ?_
    refine ra_q' rfl (some 80) rfl (j := 0) rfl rfl rfl (n_load_boxagg [_, _, _, _, _, _, _, _, _] rfl rfl (Nat.le_of_ble_eq_true rfl) rfl ⟨rfl, rfl⟩) (by rfl) ?_
    refine ra_q' rfl (some 81) rfl (j := 1) rfl rfl rfl (n_load_boxagg [_, _, _] rfl rfl (Nat.le_of_ble_eq_true rfl) rfl ⟨rfl, rfl⟩) (by rfl) ?_
    refine ra_q' rfl (some 82) rfl (j := 2) rfl rfl rfl (do_move rfl ⟨rfl, rfl⟩) (by rfl) ?_
    refine ra_q' rfl (some 83) rfl (j := 3) rfl rfl rfl (do_move rfl ⟨rfl, rfl⟩) (by rfl) ?_
    refine ra_q' rfl (some 84) rfl (j := 4) rfl rfl rfl (do_quo rfl rfl (by omega) ⟨rfl, rfl⟩) (by rfl) ?_
    refine ra_q' rfl (some 85) rfl (j := 5) rfl rfl rfl (do_move rfl ⟨rfl, rfl⟩) (by rfl) ?_
    refine ra_q' rfl (some 86) rfl (j := 6) rfl rfl rfl (do_len rfl ⟨rfl, rfl⟩) (by rfl) ?_
    refine ra_q' rfl (some 87) rfl (j := 7) rfl rfl rfl (do_rem rfl rfl (by omega) ⟨rfl, rfl⟩) (by rfl) ?_
    refine ra_q' rfl (some 88) rfl (j := 8) rfl rfl rfl (do_ix0 rfl rfl rfl (by first | omega | (simp only [ls] <;> omega)) ⟨rfl, rfl⟩) (by rfl) ?_
    refine ra_q' rfl (some 89) rfl (j := 9) rfl rfl rfl (do_load_arr rfl rfl (by first | omega | (simp only [ls] <;> omega)) rfl ⟨rfl, rfl⟩) (by rfl) ?_
    refine ra_n' rfl (some 90) rfl (j := 10) rfl rfl rfl (g_callN (X' := .tup [.agg [.slc 19 0 ((liftR (makeC n) r ((stuckL (makeC n) r).getD (((IntKind.i64.wrap ((l.getD i 0).tdiv 2)).tmod (((stuckL (makeC n) r).length : Nat) : Int)).toNat) 0)).1.Res.length) none, .slc 20 0 ((liftR (makeC n) r ((stuckL (makeC n) r).getD (((IntKind.i64.wrap ((l.getD i 0).tdiv 2)).tmod (((stuckL (makeC n) r).length : Nat) : Int)).toNat) 0)).1.Ex.length) none, .slc 21 0 ((liftR (makeC n) r ((stuckL (makeC n) r).getD (((IntKind.i64.wrap ((l.getD i 0).tdiv 2)).tmod (((stuckL (makeC n) r).length : Nat) : Int)).toNat) 0)).1.H.length) none], .val (.int .i64 ((liftR (makeC n) r ((stuckL (makeC n) r).getD (((IntKind.i64.wrap ((l.getD i 0).tdiv 2)).tmod (((stuckL (makeC n) r).length : Nat) : Int)).toNat) 0)).2))]) (N' := [SO.ints true .i64 ((liftR (makeC n) r ((stuckL (makeC n) r).getD (((IntKind.i64.wrap ((l.getD i 0).tdiv 2)).tmod (((stuckL (makeC n) r).length : Nat) : Int)).toNat) 0)).1.Res), SO.ints true .i64 ((liftR (makeC n) r ((stuckL (makeC n) r).getD (((IntKind.i64.wrap ((l.getD i 0).tdiv 2)).tmod (((stuckL (makeC n) r).length : Nat) : Int)).toNat) 0)).1.Ex), SO.ints true .i64 ((liftR (makeC n) r ((stuckL (makeC n) r).getD (((IntKind.i64.wrap ((l.getD i 0).tdiv 2)).tmod (((stuckL (makeC n) r).length : Nat) : Int)).toNat) 0)).1.H)]) rfl rfl (t_Lift (c := (makeC n)) (p := r) (u := ((stuckL (makeC n) r).getD (((IntKind.i64.wrap ((l.getD i 0).tdiv 2)).tmod (((stuckL (makeC n) r).length : Nat) : Int)).toNat) 0)) (hgT) (hin)) [5, 6, 7, 8, 9, 10, 12, 13, 14] ⟨.inr ⟨_, rfl, srv⟩, .inr ⟨_, rfl, srv⟩, .inr ⟨_, rfl, srv⟩, .inr ⟨_, rfl, srv⟩, .inr ⟨_, rfl, srv⟩, .inr ⟨_, rfl, srv⟩, .inr ⟨_, rfl, srv⟩, .inr ⟨_, rfl, srv⟩, .inr ⟨_, rfl, srv⟩, trivial⟩ rfl rfl rfl rfl rfl ⟨rfl, rfl⟩) (by rfl) (by rfl) (by rfl) ?_
    refine ra_q' rfl (some 79) rfl (j := 11) rfl rfl rfl (do_move rfl ⟨rfl, rfl⟩) (by rfl) ?_
    refine ra_q' rfl (some 91) rfl (j := 12) rfl rfl rfl (do_extract rfl rfl ⟨rfl, rfl⟩) (by rfl) ?_
    refine ra_q' rfl (some 92) rfl (j := 13) rfl rfl rfl (do_extract rfl rfl ⟨rfl, rfl⟩) (by rfl) ?_
    refine n_done ?_
    refine rw_u rfl rfl (n_store_whole rfl rfl rfl rfl rfl rfl ?_)
    refine rw_t 16 rfl rfl rfl (do_assign rfl ?_)
    refine rw_nil ?_
    refine w_seq ?_
    refine w_seq ?_
    -- region 19
    refine w_region ?_
    refine rw_t 93 rfl rfl rfl (do_move rfl ?_)
    refine rw_t 94 rfl rfl rfl (do_bin rfl rfl rfl ?_)
    refine rw_t 95 rfl rfl rfl (do_move rfl ?_)
    have hkn2 : (((liftR (makeC n) r ((stuckL (makeC n) r).getD (((IntKind.i64.wrap ((l.getD i 0).tdiv 2)).tmod (((stuckL (makeC n) r).length : Nat) : Int)).toNat) 0)).2 != 0)) = false := by rw [hok]; rfl
    refine rw_gt 96 2 95 false rfl rfl rfl rfl rfl rfl hkn2 (do_move rfl ?_)
    refine rw_gt 97 2 95 false rfl rfl rfl rfl rfl rfl hkn2 (n_load_boxagg [_, _, _, _, _, _, _, _, _] rfl rfl (Nat.le_of_ble_eq_true rfl) rfl ?_)
    refine rw_gt 98 2 95 false rfl rfl rfl rfl rfl rfl hkn2 (n_load_boxagg [_, _, _] rfl rfl (Nat.le_of_ble_eq_true rfl) rfl ?_)
    refine rw_gt 99 2 95 false rfl rfl rfl rfl rfl rfl hkn2 (n_load_boxagg [_, _, _] rfl rfl (Nat.le_of_ble_eq_true rfl) rfl ?_)
    refine rw_gt 100 2 95 false rfl rfl rfl rfl rfl rfl hkn2 (n_callW (X' := .val (.bool true)) (H' := [SO.arcs false n.arcs, SO.ints false .u8 l, .box [.val (.int .i64 ((makeC n).N)), .val (.int .i64 ((makeC n).S)), .val (.int .i64 ((makeC n).T)), .slc 5 0 ((makeC n).First.length) none, .slc 6 0 ((makeC n).Head.length) none, .slc 7 0 ((makeC n).Rev.length) none, .slc 8 0 ((makeC n).Cap.length) none, .slc 9 0 ((makeC n).Arc.length) none, .slc 10 0 ((makeC n).Back.length) none], .box [.slc 19 0 (((liftR (makeC n) r ((stuckL (makeC n) r).getD (((IntKind.i64.wrap ((l.getD i 0).tdiv 2)).tmod (((stuckL (makeC n) r).length : Nat) : Int)).toNat) 0)).1).Res.length) none, .slc 20 0 (((liftR (makeC n) r ((stuckL (makeC n) r).getD (((IntKind.i64.wrap ((l.getD i 0).tdiv 2)).tmod (((stuckL (makeC n) r).length : Nat) : Int)).toNat) 0)).1).Ex.length) none, .slc 21 0 (((liftR (makeC n) r ((stuckL (makeC n) r).getD (((IntKind.i64.wrap ((l.getD i 0).tdiv 2)).tmod (((stuckL (makeC n) r).length : Nat) : Int)).toNat) 0)).1).H.length) none], .box [.val (.int .i64 n.N), .val (.int .i64 n.S), .val (.int .i64 n.T), .slc 0 0 n.arcs.length none], SO.ints true .i64 ((makeC n).First), SO.ints true .i64 ((makeC n).Head), SO.ints true .i64 ((makeC n).Rev), SO.ints true .i64 ((makeC n).Cap), SO.ints true .i64 ((makeC n).Arc), SO.bools true ((makeC n).Back), .box [.val (.int .i64 ((makeC n).N)), .val (.int .i64 ((makeC n).S)), .val (.int .i64 ((makeC n).T)), .slc 5 0 ((makeC n).First.length) none, .slc 6 0 ((makeC n).Head.length) none, .slc 7 0 ((makeC n).Rev.length) none, .slc 8 0 ((makeC n).Cap.length) none, .slc 9 0 ((makeC n).Arc.length) none, .slc 10 0 ((makeC n).Back.length) none], SO.ints true .i64 r.Res, SO.ints true .i64 r.Ex, SO.ints true .i64 r.H, .box [.slc 12 0 r.Res.length none, .slc 13 0 r.Ex.length none, .slc 14 0 r.H.length none], SO.ints true .i64 (pushL (makeC n) r), SO.ints true .i64 (stuckL (makeC n) r), .box [.slc 19 0 ((liftR (makeC n) r ((stuckL (makeC n) r).getD (((IntKind.i64.wrap ((l.getD i 0).tdiv 2)).tmod (((stuckL (makeC n) r).length : Nat) : Int)).toNat) 0)).1.Res.length) none, .slc 20 0 ((liftR (makeC n) r ((stuckL (makeC n) r).getD (((IntKind.i64.wrap ((l.getD i 0).tdiv 2)).tmod (((stuckL (makeC n) r).length : Nat) : Int)).toNat) 0)).1.Ex.length) none, .slc 21 0 ((liftR (makeC n) r ((stuckL (makeC n) r).getD (((IntKind.i64.wrap ((l.getD i 0).tdiv 2)).tmod (((stuckL (makeC n) r).length : Nat) : Int)).toNat) 0)).1.H.length) none], SO.ints true .i64 ((liftR (makeC n) r ((stuckL (makeC n) r).getD (((IntKind.i64.wrap ((l.getD i 0).tdiv 2)).tmod (((stuckL (makeC n) r).length : Nat) : Int)).toNat) 0)).1.Res), SO.ints true .i64 ((liftR (makeC n) r ((stuckL (makeC n) r).getD (((IntKind.i64.wrap ((l.getD i 0).tdiv 2)).tmod (((stuckL (makeC n) r).length : Nat) : Int)).toNat) 0)).1.Ex), SO.ints true .i64 ((liftR (makeC n) r ((stuckL (makeC n) r).getD (((IntKind.i64.wrap ((l.getD i 0).tdiv 2)).tmod (((stuckL (makeC n) r).length : Nat) : Int)).toNat) 0)).1.H)]) rfl rfl (t_note1W (c := (makeC n)) (q := r) (p := (liftR (makeC n) r ((stuckL (makeC n) r).getD (((IntKind.i64.wrap ((l.getD i 0).tdiv 2)).tmod (((stuckL (makeC n) r).length : Nat) : Int)).toNat) 0)).1) (hcq) (gr) (hnx)) [5, 6, 7, 8, 9, 10, 12, 13, 14, 19, 20, 21, 2, 3] ⟨.inr ⟨_, rfl, srv⟩, .inr ⟨_, rfl, srv⟩, .inr ⟨_, rfl, srv⟩, .inr ⟨_, rfl, srv⟩, .inr ⟨_, rfl, srv⟩, .inr ⟨_, rfl, srv⟩, .inr ⟨_, rfl, srv⟩, .inr ⟨_, rfl, srv⟩, .inr ⟨_, rfl, srv⟩, .inr ⟨_, rfl, srv⟩, .inr ⟨_, rfl, srv⟩, .inr ⟨_, rfl, srv⟩, .inr ⟨_, rfl, .inl rfl⟩, .inr ⟨_, rfl, .inl rfl⟩, trivial⟩ rfl rfl ⟨fun h => (by cases h), ⟨fun h => (by cases h), ⟨fun h => (by cases h), ⟨fun h => (by cases h), ⟨fun h => (by cases h), ⟨fun h => (by cases h), ⟨fun h => (by cases h), ⟨fun h => (by cases h), ⟨fun h => (by cases h), ⟨fun h => (by cases h), ⟨fun h => (by cases h), ⟨fun h => (by cases h), ⟨fun h => .inl rfl, ⟨fun h => .inl rfl, (fun y hy => by simp at hy)⟩⟩⟩⟩⟩⟩⟩⟩⟩⟩⟩⟩⟩⟩ rfl rfl ?_)
    refine rw_gt 101 2 95 false rfl rfl rfl rfl rfl rfl hkn2 (do_not rfl ?_)
    refine rw_t 102 rfl rfl rfl (do_pick_f rfl hkn2 rfl ?_)
    refine rw_nil ?_
    refine w_cond rfl (fun hc7 => ?_) (fun hc7 => ?_)
    · exfalso; first | (cases hc7; done) | exact (hc7 trivial) | (try simp only [bs] at hc7; first | omega | (simp_all; done) | (simp_all; omega))
    refine w_skip ?_
    -- region 21
    refine w_region ?_
    refine rw_t 103 rfl rfl rfl (n_load_boxagg [_, _, _] rfl rfl (Nat.le_of_ble_eq_true rfl) rfl ?_)
    refine rw_u rfl rfl (n_store_whole rfl rfl rfl rfl rfl rfl ?_)
    refine rw_nil ?_
    -- region 22
    refine w_region ?_
    refine rw_t 104 rfl rfl rfl (do_add rfl rfl (by omega) ?_)
    refine rw_t 34 rfl rfl rfl (do_move rfl ?_)
    refine rw_nil ?_
    refine ⟨(i + 1, (liftR (makeC n) r ((stuckL (makeC n) r).getD (((IntKind.i64.wrap ((l.getD i 0).tdiv 2)).tmod (((stuckL (makeC n) r).length : Nat) : Int)).toNat) 0)).1), [0, 1, 2, 3, 4, 5, 6, 7, 8, 9, 10, 11, 19, 20, 21, 15], by dsimp only; omega, ⟨by dsimp only; omega, hnx, hpk⟩, ⟨.inr ⟨_, rfl, .inl rfl⟩, .inr ⟨_, rfl, .inl rfl⟩, .inr ⟨_, rfl, .inl rfl⟩, .inr ⟨_, rfl, .inl rfl⟩, .inr ⟨_, rfl, .inl rfl⟩, .inr ⟨_, rfl, .inl rfl⟩, .inr ⟨_, rfl, .inl rfl⟩, .inr ⟨_, rfl, .inl rfl⟩, .inr ⟨_, rfl, .inl rfl⟩, .inr ⟨_, rfl, .inl rfl⟩, .inr ⟨_, rfl, .inl rfl⟩, .inr ⟨_, rfl, .inl rfl⟩, .inr ⟨_, rfl, .inl rfl⟩, .inr ⟨_, rfl, .inl rfl⟩, .inr ⟨_, rfl, .inl rfl⟩, .inr ⟨_, rfl, .inl rfl⟩, trivial⟩, rfl, pre_ok rfl, ⟨⟨_, rfl, rfl⟩, ⟨_, rfl, rfl⟩, ⟨_, rfl, rfl⟩, ⟨_, rfl, rfl⟩, ⟨_, rfl, rfl⟩, ⟨_, rfl, rfl⟩, trivial⟩⟩
-- f13 "acequia/pre.Right"
set_option maxHeartbeats 8000000 in
set_option synthInstance.maxHeartbeats 400000 in
set_option synthInstance.maxSize 2000 in
theorem t_RightL (c : Csr) (x y z : List Int) (h : CsrT c) (ho : CapOne c) (ha : ArcIn c) (l1 l2 l3 : Nat) (hl : l1 = x.length ∧ l2 = y.length ∧ l3 = z.length) : Tri Try.prog 13 [.agg [.val (.int .i64 c.N), .val (.int .i64 c.S), .val (.int .i64 c.T), .slc 0 0 c.First.length none, .slc 1 0 c.Head.length none, .slc 2 0 c.Rev.length none, .slc 3 0 c.Cap.length none, .slc 4 0 c.Arc.length none, .slc 5 0 c.Back.length none], .agg [.slc 6 0 l1 none, .slc 7 0 l2 none, .slc 8 0 l3 none]] [SO.ints false .i64 c.First, SO.ints false .i64 c.Head, SO.ints false .i64 c.Rev, SO.ints false .i64 c.Cap, SO.ints false .i64 c.Arc, SO.bools false c.Back, SO.ints false .i64 x, SO.ints false .i64 y, SO.ints false .i64 z] (fun s H => s = .val (.bool (decide (preR c ⟨x, y, z⟩))) ∧ H = [SO.ints false .i64 c.First, SO.ints false .i64 c.Head, SO.ints false .i64 c.Rev, SO.ints false .i64 c.Cap, SO.ints false .i64 c.Arc, SO.bools false c.Back, SO.ints false .i64 x, SO.ints false .i64 y, SO.ints false .i64 z]) := by
  obtain ⟨rfl, rfl, rfl⟩ := hl
  exact t_Right c ⟨x, y, z⟩ h ho ha
theorem tmod_in {x n : Int} (hx : 0 ≤ x) (hn : 0 < n) : 0 ≤ x.tmod n ∧ x.tmod n < n := by
  rw [Int.tmod_eq_emod_of_nonneg hx]
  exact ⟨Int.emod_nonneg _ (by omega), Int.emod_lt_of_pos _ hn⟩
-- f7 "acequia/acequialaw07.PreWrong"
set_option maxHeartbeats 8000000 in
set_option synthInstance.maxHeartbeats 400000 in
set_option synthInstance.maxSize 2000 in
theorem t_PreWrong (n : Net) (hn : In64 n.N ∧ In64 n.S ∧ In64 n.T) (hna : ∀ a ∈ n.arcs, In64 a.frm ∧ In64 a.to ∧ In64 a.cap) (hnl : n.arcs.length ≤ 9223372036854775807) (l : List Int) (hll : l.length ≤ 9223372036854775807) (hlb : ∀ x ∈ l, 0 ≤ x ∧ x < 256) (x : Int) (hx : 0 ≤ x ∧ x < 256) (w : Int) (hw : 0 ≤ w ∧ w < 256) : Tri Try.prog 7 [.agg [.val (.int .i64 n.N), .val (.int .i64 n.S), .val (.int .i64 n.T), .slc 0 0 n.arcs.length none], .slc 1 0 l.length none, .val (.int .u8 x), .val (.int .u8 w)] [SO.arcs false n.arcs, SO.ints false .u8 l] (fun s H => s = .val (.bool true) ∧ H = [SO.arcs false n.arcs, SO.ints false .u8 l]) := by
  refine tri_of_w (fn := Try.f7) Try.func7 rfl (by simp [Try.f7]) ?_
  intro ρ w hρ
  refine w_seq ?_
  have hsm : Small (someNet n 20 50) := some_small n (by omega) (by omega) (by decide) hn hna
  have hcq := make_q hsm
  have hg := hcq.toCsrG
  have hgT := hcq.toCsrT
  have hhl := hg.small
  have hN := hg.n
  have hSS := hg.s
  have hTT := hg.t
  -- region 0
  refine w_region ?_
  refine rw_t 4 rfl rfl rfl (n_box_agg (n := 2) rfl rfl ?_)
  refine rw_t 8 rfl rfl rfl (do_assign rfl ?_)
  refine rw_nil ?_
  refine w_seq ?_
  -- region 1
  refine w_region ?_
  refine rw_t 20 rfl rfl rfl (n_load_boxagg [_, _, _, _] rfl rfl (Nat.le_of_ble_eq_true rfl) rfl ?_)
  refine rw_t 21 rfl rfl rfl (n_callN (X' := .agg [.val (.int .i64 ((someNet n 20 50).N)), .val (.int .i64 ((someNet n 20 50).S)), .val (.int .i64 ((someNet n 20 50).T)), .slc 3 0 ((someNet n 20 50).arcs.length) none]) (N' := [SO.arcs true ((someNet n 20 50).arcs)]) rfl rfl (t_Some (n := n) (va := 20) (ar := 50) (by omega) (by omega) (fun a ha => (hna a ha).2.2) (hnl)) [0] ⟨.inr ⟨_, rfl, srv⟩, trivial⟩ rfl rfl rfl rfl rfl ?_)
  refine rw_u rfl rfl (n_store_whole rfl rfl rfl rfl rfl rfl ?_)
  refine rw_nil ?_
  refine w_seq ?_
  -- region 2
  refine w_region ?_
  refine rw_t 9 rfl rfl rfl (n_alloc (n := 4) rfl ?_)
  refine rw_nil ?_
  refine w_seq ?_
  -- region 3
  refine w_region ?_
  refine rw_t 10 rfl rfl rfl (n_alloc (n := 5) rfl ?_)
  refine rw_nil ?_
  refine w_seq ?_
  refine w_seq ?_
  -- region 4
  refine w_draw mixed [0, 0, 0, 4, 12, 30, 0] [127, 255] (by kernel_rfl) (by kernel_rfl) rfl rfl rfl (hle hρ rfl) ?_
  refine ra_q (j := 0) rfl rfl rfl rfl (n_load_boxagg [_, _, _, _] rfl rfl (Nat.le_of_ble_eq_true rfl) rfl ⟨rfl, rfl⟩) (by rfl) ?_
  refine ra_q (j := 1) rfl rfl rfl rfl (do_move rfl ⟨rfl, rfl⟩) (by rfl) ?_
  refine ra_q (j := 2) rfl rfl rfl rfl (do_move rfl ⟨rfl, rfl⟩) (by rfl) ?_
  refine ra_q (j := 3) rfl rfl rfl rfl (do_len rfl ⟨rfl, rfl⟩) (by rfl) ?_
  refine ra_q (j := 4) rfl rfl rfl rfl (do_min rfl rfl ⟨rfl, rfl⟩) (by rfl) ?_
  refine ra_q (j := 5) rfl rfl rfl rfl (do_slice rfl rfl rfl rfl rfl (by omega) (by omega) (by omega) ⟨rfl, rfl⟩) (by rfl) ?_
  refine ra_q (j := 6) rfl rfl rfl rfl (do_makefunc rfl rfl ⟨rfl, rfl⟩) (by rfl) ?_
  refine n_done ?_
  refine rw_t 29 rfl rfl rfl (n_callW (X' := .val (.bool true)) (H' := [SO.arcs false n.arcs, SO.ints false .u8 l, .box [.val (.int .i64 ((someNet n 20 50).N)), .val (.int .i64 ((someNet n 20 50).S)), .val (.int .i64 ((someNet n 20 50).T)), .slc 3 0 ((someNet n 20 50).arcs.length) none], SO.arcs true ((someNet n 20 50).arcs), .box [.val (.int .i64 ((makeC (someNet n 20 50)).N)), .val (.int .i64 ((makeC (someNet n 20 50)).S)), .val (.int .i64 ((makeC (someNet n 20 50)).T)), .slc 6 0 ((makeC (someNet n 20 50)).First.length) none, .slc 7 0 ((makeC (someNet n 20 50)).Head.length) none, .slc 8 0 ((makeC (someNet n 20 50)).Rev.length) none, .slc 9 0 ((makeC (someNet n 20 50)).Cap.length) none, .slc 10 0 ((makeC (someNet n 20 50)).Arc.length) none, .slc 11 0 ((makeC (someNet n 20 50)).Back.length) none], .box [.slc 12 0 ((playK (makeC (someNet n 20 50)) l (((if 40 < ((l.length : Nat) : Int) then 40 else ((l.length : Nat) : Int)) - 0).toNat)).Res.length) none, .slc 13 0 ((playK (makeC (someNet n 20 50)) l (((if 40 < ((l.length : Nat) : Int) then 40 else ((l.length : Nat) : Int)) - 0).toNat)).Ex.length) none, .slc 14 0 ((playK (makeC (someNet n 20 50)) l (((if 40 < ((l.length : Nat) : Int) then 40 else ((l.length : Nat) : Int)) - 0).toNat)).H.length) none], SO.ints true .i64 ((makeC (someNet n 20 50)).First), SO.ints true .i64 ((makeC (someNet n 20 50)).Head), SO.ints true .i64 ((makeC (someNet n 20 50)).Rev), SO.ints true .i64 ((makeC (someNet n 20 50)).Cap), SO.ints true .i64 ((makeC (someNet n 20 50)).Arc), SO.bools true ((makeC (someNet n 20 50)).Back), SO.ints true .i64 ((playK (makeC (someNet n 20 50)) l (((if 40 < ((l.length : Nat) : Int) then 40 else ((l.length : Nat) : Int)) - 0).toNat)).Res), SO.ints true .i64 ((playK (makeC (someNet n 20 50)) l (((if 40 < ((l.length : Nat) : Int) then 40 else ((l.length : Nat) : Int)) - 0).toNat)).Ex), SO.ints true .i64 ((playK (makeC (someNet n 20 50)) l (((if 40 < ((l.length : Nat) : Int) then 40 else ((l.length : Nat) : Int)) - 0).toNat)).H)]) rfl rfl (t_PlayW (n := (someNet n 20 50)) (l := l) (m := ((if 40 < ((l.length : Nat) : Int) then 40 else ((l.length : Nat) : Int)) - 0).toNat) (hsm) (hlb) (hll) (by split <;> omega)) [3, 1, 4, 5] ⟨.inr ⟨_, rfl, srv⟩, .inr ⟨_, rfl, srv⟩, .inr ⟨_, rfl, .inl rfl⟩, .inr ⟨_, rfl, .inl rfl⟩, trivial⟩ rfl rfl ⟨fun h => (by cases h), ⟨fun h => (by cases h), ⟨fun h => .inl rfl, ⟨fun h => .inl rfl, (okNew_tail rfl)⟩⟩⟩⟩ rfl rfl ?_)
  refine rw_t 30 rfl rfl rfl (do_not rfl ?_)
  refine rw_nil ?_
  refine w_cond rfl (fun hc1 => ?_) (fun hc1 => ?_)
  · exfalso; simp at hc1
  refine w_skip ?_
  refine w_seq ?_
  have gr0 := playK_ref hcq hlb ((((if 40 < ((l.length : Nat) : Int) then 40 else ((l.length : Nat) : Int)) - 0).toNat)) (by split <;> omega)
  generalize hrr : playK (makeC (someNet n 20 50)) l ((((if 40 < ((l.length : Nat) : Int) then 40 else ((l.length : Nat) : Int)) - 0).toNat)) = r at gr0 ⊢
  have gr := gr0
  have hin := refR_in hg gr
  have hpi := refR_push hg gr
  have hr1 := hin.res
  have hr2 := hin.ex
  have hr3 := hin.h
  -- region 6
  refine w_region ?_
  refine rw_t 32 rfl rfl rfl (n_load_boxagg [_, _, _, _, _, _, _, _, _] rfl rfl (Nat.le_of_ble_eq_true rfl) rfl ?_)
  refine rw_t 33 rfl rfl rfl (n_load_boxagg [_, _, _] rfl rfl (Nat.le_of_ble_eq_true rfl) rfl ?_)
  refine rw_t 34 rfl rfl rfl (do_fieldaddr rfl ?_)
  refine rw_t 35 rfl rfl rfl (do_load_box rfl rfl rfl ?_)
  refine rw_t 36 rfl rfl rfl (do_len rfl ?_)
  refine rw_t 37 rfl rfl rfl (n_callN (X' := .tup [.agg [.slc 15 0 ((pushR (makeC (someNet n 20 50)) r ((r.Res.length : Nat) : Int)).1.Res.length) none, .slc 16 0 ((pushR (makeC (someNet n 20 50)) r ((r.Res.length : Nat) : Int)).1.Ex.length) none, .slc 17 0 ((pushR (makeC (someNet n 20 50)) r ((r.Res.length : Nat) : Int)).1.H.length) none], .val (.int .i64 ((pushR (makeC (someNet n 20 50)) r ((r.Res.length : Nat) : Int)).2.1)), .val (.int .i64 ((pushR (makeC (someNet n 20 50)) r ((r.Res.length : Nat) : Int)).2.2))]) (N' := [SO.ints true .i64 ((pushR (makeC (someNet n 20 50)) r ((r.Res.length : Nat) : Int)).1.Res), SO.ints true .i64 ((pushR (makeC (someNet n 20 50)) r ((r.Res.length : Nat) : Int)).1.Ex), SO.ints true .i64 ((pushR (makeC (someNet n 20 50)) r ((r.Res.length : Nat) : Int)).1.H)]) rfl rfl (t_Push (c := (makeC (someNet n 20 50))) (p := r) (a := ((r.Res.length : Nat) : Int)) (hgT) (hin) (hpi)) [6, 7, 8, 9, 10, 11, 12, 13, 14] ⟨.inr ⟨_, rfl, srv⟩, .inr ⟨_, rfl, srv⟩, .inr ⟨_, rfl, srv⟩, .inr ⟨_, rfl, srv⟩, .inr ⟨_, rfl, srv⟩, .inr ⟨_, rfl, srv⟩, .inr ⟨_, rfl, srv⟩, .inr ⟨_, rfl, srv⟩, .inr ⟨_, rfl, srv⟩, trivial⟩ rfl rfl rfl rfl rfl ?_)
  refine rw_t 31 rfl rfl rfl (do_move rfl ?_)
  refine rw_t 38 rfl rfl rfl (do_extract rfl rfl ?_)
  refine rw_t 39 rfl rfl rfl (do_extract rfl rfl ?_)
  refine rw_t 40 rfl rfl rfl (do_extract rfl rfl ?_)
  refine rw_t 11 rfl rfl rfl (n_alloc (n := 18) rfl ?_)
  refine rw_u rfl rfl (n_store_whole rfl rfl rfl rfl rfl rfl ?_)
  refine rw_t 12 rfl rfl rfl (do_assign rfl ?_)
  refine rw_t 13 rfl rfl rfl (do_assign rfl ?_)
  refine rw_nil ?_
  refine w_seq ?_
  -- region 7
  refine w_region ?_
  refine rw_t 42 rfl rfl rfl (n_load_boxagg [_, _, _, _, _, _, _, _, _] rfl rfl (Nat.le_of_ble_eq_true rfl) rfl ?_)
  refine rw_t 43 rfl rfl rfl (n_load_boxagg [_, _, _] rfl rfl (Nat.le_of_ble_eq_true rfl) rfl ?_)
  refine rw_t 44 rfl rfl rfl (do_fieldaddr rfl ?_)
  refine rw_t 45 rfl rfl rfl (do_load_box rfl rfl rfl ?_)
  refine rw_t 46 rfl rfl rfl (n_callN (X' := .tup [.agg [.slc 19 0 ((liftR (makeC (someNet n 20 50)) r ((makeC (someNet n 20 50)).N)).1.Res.length) none, .slc 20 0 ((liftR (makeC (someNet n 20 50)) r ((makeC (someNet n 20 50)).N)).1.Ex.length) none, .slc 21 0 ((liftR (makeC (someNet n 20 50)) r ((makeC (someNet n 20 50)).N)).1.H.length) none], .val (.int .i64 ((liftR (makeC (someNet n 20 50)) r ((makeC (someNet n 20 50)).N)).2))]) (N' := [SO.ints true .i64 ((liftR (makeC (someNet n 20 50)) r ((makeC (someNet n 20 50)).N)).1.Res), SO.ints true .i64 ((liftR (makeC (someNet n 20 50)) r ((makeC (someNet n 20 50)).N)).1.Ex), SO.ints true .i64 ((liftR (makeC (someNet n 20 50)) r ((makeC (someNet n 20 50)).N)).1.H)]) rfl rfl (t_Lift (c := (makeC (someNet n 20 50))) (p := r) (u := (makeC (someNet n 20 50)).N) (hgT) (hin)) [6, 7, 8, 9, 10, 11, 12, 13, 14] ⟨.inr ⟨_, rfl, srv⟩, .inr ⟨_, rfl, srv⟩, .inr ⟨_, rfl, srv⟩, .inr ⟨_, rfl, srv⟩, .inr ⟨_, rfl, srv⟩, .inr ⟨_, rfl, srv⟩, .inr ⟨_, rfl, srv⟩, .inr ⟨_, rfl, srv⟩, .inr ⟨_, rfl, srv⟩, trivial⟩ rfl rfl rfl rfl rfl ?_)
  refine rw_t 41 rfl rfl rfl (do_move rfl ?_)
  refine rw_t 47 rfl rfl rfl (do_extract rfl rfl ?_)
  refine rw_t 48 rfl rfl rfl (do_extract rfl rfl ?_)
  refine rw_t 14 rfl rfl rfl (n_alloc (n := 22) rfl ?_)
  refine rw_u rfl rfl (n_store_whole rfl rfl rfl rfl rfl rfl ?_)
  refine rw_t 15 rfl rfl rfl (do_assign rfl ?_)
  refine rw_nil ?_
  refine w_seq ?_
  -- region 8
  refine w_region ?_
  refine rw_t 50 rfl rfl rfl (n_load_boxagg [_, _, _, _, _, _, _, _, _] rfl rfl (Nat.le_of_ble_eq_true rfl) rfl ?_)
  refine rw_t 51 rfl rfl rfl (n_load_boxagg [_, _, _] rfl rfl (Nat.le_of_ble_eq_true rfl) rfl ?_)
  refine rw_t 52 rfl rfl rfl (do_fieldaddr rfl ?_)
  refine rw_t 53 rfl rfl rfl (do_load_box rfl rfl rfl ?_)
  refine rw_t 54 rfl rfl rfl (n_callN (X' := .tup [.agg [.slc 23 0 ((liftR (makeC (someNet n 20 50)) r ((makeC (someNet n 20 50)).S)).1.Res.length) none, .slc 24 0 ((liftR (makeC (someNet n 20 50)) r ((makeC (someNet n 20 50)).S)).1.Ex.length) none, .slc 25 0 ((liftR (makeC (someNet n 20 50)) r ((makeC (someNet n 20 50)).S)).1.H.length) none], .val (.int .i64 ((liftR (makeC (someNet n 20 50)) r ((makeC (someNet n 20 50)).S)).2))]) (N' := [SO.ints true .i64 ((liftR (makeC (someNet n 20 50)) r ((makeC (someNet n 20 50)).S)).1.Res), SO.ints true .i64 ((liftR (makeC (someNet n 20 50)) r ((makeC (someNet n 20 50)).S)).1.Ex), SO.ints true .i64 ((liftR (makeC (someNet n 20 50)) r ((makeC (someNet n 20 50)).S)).1.H)]) rfl rfl (t_Lift (c := (makeC (someNet n 20 50))) (p := r) (u := (makeC (someNet n 20 50)).S) (hgT) (hin)) [6, 7, 8, 9, 10, 11, 12, 13, 14] ⟨.inr ⟨_, rfl, srv⟩, .inr ⟨_, rfl, srv⟩, .inr ⟨_, rfl, srv⟩, .inr ⟨_, rfl, srv⟩, .inr ⟨_, rfl, srv⟩, .inr ⟨_, rfl, srv⟩, .inr ⟨_, rfl, srv⟩, .inr ⟨_, rfl, srv⟩, .inr ⟨_, rfl, srv⟩, trivial⟩ rfl rfl rfl rfl rfl ?_)
  refine rw_t 49 rfl rfl rfl (do_move rfl ?_)
  refine rw_t 55 rfl rfl rfl (do_extract rfl rfl ?_)
  refine rw_t 56 rfl rfl rfl (do_extract rfl rfl ?_)
  refine rw_t 16 rfl rfl rfl (n_alloc (n := 26) rfl ?_)
  refine rw_u rfl rfl (n_store_whole rfl rfl rfl rfl rfl rfl ?_)
  refine rw_t 17 rfl rfl rfl (do_assign rfl ?_)
  refine rw_nil ?_
  refine w_seq ?_
  refine w_seq ?_
  have hk1 := push_out (makeC (someNet n 20 50)) r (a := ((r.Res.length : Nat) : Int)) (by omega)
  have hk2 := lift_out (makeC (someNet n 20 50)) r
  have hk3 := lift_s hg r
  have hprr : preR (makeC (someNet n 20 50)) r := (preR_iff hcq.toCsrP r).2 gr
  -- region 9
  refine w_region ?_
  refine rw_t 57 rfl rfl rfl (do_move rfl ?_)
  refine rw_t 58 rfl rfl rfl (do_bin rfl rfl rfl ?_)
  refine rw_t 59 rfl rfl rfl (do_move rfl ?_)
  have hkn1 : (((pushR (makeC (someNet n 20 50)) r ((r.Res.length : Nat) : Int)).2.2 != 2)) = false := by rw [hk1]; rfl
  refine rw_gt 60 2 59 false rfl rfl rfl rfl rfl rfl hkn1 (do_move rfl ?_)
  refine rw_gt 61 2 59 false rfl rfl rfl rfl rfl rfl hkn1 (do_bin rfl rfl rfl ?_)
  refine rw_t 62 rfl rfl rfl (do_pick_f rfl hkn1 rfl ?_)
  refine rw_t 63 rfl rfl rfl (do_move rfl ?_)
  have hkn2 : (((liftR (makeC (someNet n 20 50)) r ((makeC (someNet n 20 50)).N)).2 != 2)) = false := by rw [hk2]; rfl
  refine rw_gt 64 6 63 false rfl rfl rfl rfl rfl rfl hkn2 (do_move rfl ?_)
  refine rw_gt 65 6 63 false rfl rfl rfl rfl rfl rfl hkn2 (do_bin rfl rfl rfl ?_)
  refine rw_t 66 rfl rfl rfl (do_pick_f rfl hkn2 rfl ?_)
  refine rw_nil ?_
  refine w_cond rfl (fun hc2 => ?_) (fun hc2 => ?_)
  · exfalso; rw [hk3] at hc2; exact absurd hc2 (by decide)
  refine w_skip ?_
  refine w_seq ?_
  -- region 11
  refine w_region ?_
  refine rw_t 67 rfl rfl rfl (n_load_boxagg [_, _, _] rfl rfl (Nat.le_of_ble_eq_true rfl) rfl ?_)
  refine rw_t 68 rfl rfl rfl (n_callN (X' := .agg [.slc 27 0 r.Res.length none, .slc 28 0 r.Ex.length none, .slc 29 0 r.H.length none]) (N' := [SO.ints true .i64 r.Res, SO.ints true .i64 r.Ex, SO.ints true .i64 r.H]) rfl rfl (t_Copy (p := r) (by omega)) [12, 13, 14] ⟨.inr ⟨_, rfl, srv⟩, .inr ⟨_, rfl, srv⟩, .inr ⟨_, rfl, srv⟩, trivial⟩ rfl rfl rfl rfl rfl ?_)
  refine rw_t 18 rfl rfl rfl (n_alloc (n := 30) rfl ?_)
  refine rw_u rfl rfl (n_store_whole rfl rfl rfl rfl rfl rfl ?_)
  refine rw_nil ?_
  refine w_seq ?_
  -- region 12
  refine w_region ?_
  refine rw_t 69 rfl rfl rfl (do_move rfl ?_)
  refine rw_t 70 rfl rfl rfl (do_conv rfl ?_)
  refine rw_as (.val (.int .i64 x)) (val_congr (wrap_small (x := x) (by omega))) ?_
  refine rw_t 71 rfl rfl rfl (do_fieldaddr rfl ?_)
  refine rw_t 72 rfl rfl rfl (do_load_box rfl rfl rfl ?_)
  refine rw_t 73 rfl rfl rfl (do_rem rfl rfl (by omega) ?_)
  refine rw_t 19 rfl rfl rfl (do_assign rfl ?_)
  refine rw_nil ?_
  refine w_seq ?_
  refine w_seq ?_
  have hvi := tmod_in (x := x) (n := (makeC (someNet n 20 50)).N) hx.1 (by omega)
  -- region 13
  refine w_region ?_
  refine rw_t 74 rfl rfl rfl (do_move rfl ?_)
  refine rw_t 75 rfl rfl rfl (do_rem rfl rfl (by omega) ?_)
  refine rw_nil ?_
  refine w_block ?_
  refine w_seq ?_
  -- region 17
  refine w_region ?_
  refine rw_t 94 rfl rfl rfl (do_bin rfl rfl rfl ?_)
  refine rw_t 93 rfl rfl rfl (do_assign rfl ?_)
  refine rw_nil ?_
  refine w_cond rfl (fun hc3 => ?_) (fun hc3 => ?_)
  all_goals try simp only [bs] at hc3
  · have hxb := ex_bound hg gr ((x.tmod (makeC (someNet n 20 50)).N).toNat)
    have hwr := wrong_ex gr (v := (x.tmod (makeC (someNet n 20 50)).N).toNat) (by omega) (x := r.Ex.getD (x.tmod (makeC (someNet n 20 50)).N).toNat 0 + 1) (by omega)
    -- region 18
    refine w_region ?_
    refine rw_t 95 rfl rfl rfl (do_fieldaddr rfl ?_)
    refine rw_t 96 rfl rfl rfl (do_load_box rfl rfl rfl ?_)
    refine rw_t 97 rfl rfl rfl (do_move rfl ?_)
    refine rw_t 98 rfl rfl rfl (do_ix0 rfl rfl rfl (by first | omega | (simp only [ls] <;> omega)) ?_)
    refine rw_t 99 rfl rfl rfl (do_load_arr rfl rfl (by first | omega | (simp only [ls] <;> omega)) rfl ?_)
    refine rw_t 100 rfl rfl rfl (do_add rfl rfl (by omega) ?_)
    refine rw_t 101 rfl rfl rfl (do_ix0 rfl rfl rfl (by first | omega | (simp only [ls] <;> omega)) ?_)
    refine rw_u rfl rfl (n_store_arr (z := ((r.Ex.getD ((x.tmod ((makeC (someNet n 20 50)).N)).toNat) 0) + 1)) rfl rfl rfl (by first | omega | (simp only [ls] <;> omega)) rfl (by decide) rfl ?_)
    refine rw_nil ?_
    refine w_seq ?_
    -- region 27
    refine w_region ?_
    refine rw_t 138 rfl rfl rfl (n_load_boxagg [_, _, _, _, _, _, _, _, _] rfl rfl (Nat.le_of_ble_eq_true rfl) rfl ?_)
    refine rw_t 139 rfl rfl rfl (n_load_boxagg [_, _, _] rfl rfl (Nat.le_of_ble_eq_true rfl) rfl ?_)
    refine rw_t 140 rfl rfl rfl (do_callR (X' := .val (.bool (decide (preR (makeC (someNet n 20 50)) ⟨r.Res, (r.Ex.set ((x.tmod ((makeC (someNet n 20 50)).N)).toNat) ((r.Ex.getD ((x.tmod ((makeC (someNet n 20 50)).N)).toNat) 0) + 1)), r.H⟩)))) rfl rfl (t_RightL (c := (makeC (someNet n 20 50))) (x := r.Res) (y := r.Ex.set ((x.tmod ((makeC (someNet n 20 50)).N)).toNat) ((r.Ex.getD ((x.tmod ((makeC (someNet n 20 50)).N)).toNat) 0) + 1)) (z := r.H) (l1 := r.Res.length) (l2 := r.Ex.length) (l3 := r.H.length) (hgT) (hcq.one) (hcq.arcin) (by simp [List.length_set])) [6, 7, 8, 9, 10, 11, 27, 28, 29] ⟨.inr ⟨_, rfl, srv⟩, .inr ⟨_, rfl, srv⟩, .inr ⟨_, rfl, srv⟩, .inr ⟨_, rfl, srv⟩, .inr ⟨_, rfl, srv⟩, .inr ⟨_, rfl, srv⟩, .inr ⟨_, rfl, srv⟩, .inr ⟨_, rfl, srv⟩, .inr ⟨_, rfl, srv⟩, trivial⟩ rfl rfl rfl ?_)
    refine rw_t 141 rfl rfl rfl (do_not rfl ?_)
    refine rw_t 142 rfl rfl rfl (do_move rfl ?_)
    have hkn3 : (!(decide (preR (makeC (someNet n 20 50)) ⟨r.Res, (r.Ex.set ((x.tmod ((makeC (someNet n 20 50)).N)).toNat) ((r.Ex.getD ((x.tmod ((makeC (someNet n 20 50)).N)).toNat) 0) + 1)), r.H⟩))) = true := by rw [Bool.not_eq_true', decide_eq_false_iff_not, preR_iff hcq.toCsrP]; exact hwr
    refine rw_gt 143 4 142 true rfl rfl rfl rfl rfl rfl hkn3 (n_load_boxagg [_, _, _, _, _, _, _, _, _] rfl rfl (Nat.le_of_ble_eq_true rfl) rfl ?_)
    refine rw_gt 144 4 142 true rfl rfl rfl rfl rfl rfl hkn3 (n_load_boxagg [_, _, _] rfl rfl (Nat.le_of_ble_eq_true rfl) rfl ?_)
    refine rw_gt 145 4 142 true rfl rfl rfl rfl rfl rfl hkn3 (do_callR (X' := .val (.bool (decide (preR (makeC (someNet n 20 50)) r)))) rfl rfl (t_Right (c := (makeC (someNet n 20 50))) (p := r) (hgT) (hcq.one) (hcq.arcin)) [6, 7, 8, 9, 10, 11, 12, 13, 14] ⟨.inr ⟨_, rfl, srv⟩, .inr ⟨_, rfl, srv⟩, .inr ⟨_, rfl, srv⟩, .inr ⟨_, rfl, srv⟩, .inr ⟨_, rfl, srv⟩, .inr ⟨_, rfl, srv⟩, .inr ⟨_, rfl, srv⟩, .inr ⟨_, rfl, srv⟩, .inr ⟨_, rfl, srv⟩, trivial⟩ rfl rfl rfl ?_)
    refine rw_t 146 rfl rfl rfl (do_pick_t rfl hkn3 rfl ?_)
    refine rw_t 147 rfl rfl rfl (do_move rfl ?_)
    have hkn4 : (decide (preR (makeC (someNet n 20 50)) r)) = true := by simp [hprr]
    refine rw_gt 148 9 147 true rfl rfl rfl rfl rfl rfl hkn4 (do_callR (X' := .val (.bool true)) rfl rfl (t_awake) [] trivial rfl rfl rfl ?_)
    refine rw_t 149 rfl rfl rfl (do_pick_t rfl hkn4 rfl ?_)
    refine rw_t 8 rfl rfl rfl (do_assign rfl ?_)
    refine rw_nil ?_
    refine w_ret ?_
    exact ret_eq (.inl rfl) (.cons (res_tmp rfl) .nil) [0, 1] (rfl) ⟨.inr ⟨_, rfl, .inl rfl⟩, .inr ⟨_, rfl, .inl rfl⟩, trivial⟩ rfl (pre_ok rfl)
  · refine w_seq ?_
    -- region 19
    refine w_region ?_
    refine rw_t 103 rfl rfl rfl (do_bin rfl rfl rfl ?_)
    refine rw_t 102 rfl rfl rfl (do_assign rfl ?_)
    refine rw_nil ?_
    refine w_cond rfl (fun hc4 => ?_) (fun hc4 => ?_)
    all_goals try simp only [bs] at hc4
    · have hhb := hin.hi (makeC (someNet n 20 50)).S.toNat
      have hhs := gr.2.1
      have hwr := wrong_s hg gr (x := r.H.getD (makeC (someNet n 20 50)).S.toNat 0 + 1) (by omega)
      -- region 20
      refine w_region ?_
      refine rw_t 104 rfl rfl rfl (do_fieldaddr rfl ?_)
      refine rw_t 105 rfl rfl rfl (do_load_box rfl rfl rfl ?_)
      refine rw_t 106 rfl rfl rfl (do_fieldaddr rfl ?_)
      refine rw_t 107 rfl rfl rfl (do_load_box rfl rfl rfl ?_)
      refine rw_t 108 rfl rfl rfl (do_ix0 rfl rfl rfl (by first | omega | (simp only [ls] <;> omega)) ?_)
      refine rw_t 109 rfl rfl rfl (do_load_arr rfl rfl (by first | omega | (simp only [ls] <;> omega)) rfl ?_)
      refine rw_t 110 rfl rfl rfl (do_add rfl rfl (by omega) ?_)
      refine rw_t 111 rfl rfl rfl (do_ix0 rfl rfl rfl (by first | omega | (simp only [ls] <;> omega)) ?_)
      refine rw_u rfl rfl (n_store_arr (z := ((r.H.getD (((makeC (someNet n 20 50)).S).toNat) 0) + 1)) rfl rfl rfl (by first | omega | (simp only [ls] <;> omega)) rfl (by decide) rfl ?_)
      refine rw_nil ?_
      refine w_seq ?_
      -- region 27
      refine w_region ?_
      refine rw_t 138 rfl rfl rfl (n_load_boxagg [_, _, _, _, _, _, _, _, _] rfl rfl (Nat.le_of_ble_eq_true rfl) rfl ?_)
      refine rw_t 139 rfl rfl rfl (n_load_boxagg [_, _, _] rfl rfl (Nat.le_of_ble_eq_true rfl) rfl ?_)
      refine rw_t 140 rfl rfl rfl (do_callR (X' := .val (.bool (decide (preR (makeC (someNet n 20 50)) ⟨r.Res, r.Ex, (r.H.set (((makeC (someNet n 20 50)).S).toNat) ((r.H.getD (((makeC (someNet n 20 50)).S).toNat) 0) + 1))⟩)))) rfl rfl (t_RightL (c := (makeC (someNet n 20 50))) (x := r.Res) (y := r.Ex) (z := r.H.set (((makeC (someNet n 20 50)).S).toNat) ((r.H.getD (((makeC (someNet n 20 50)).S).toNat) 0) + 1)) (l1 := r.Res.length) (l2 := r.Ex.length) (l3 := r.H.length) (hgT) (hcq.one) (hcq.arcin) (by simp [List.length_set])) [6, 7, 8, 9, 10, 11, 27, 28, 29] ⟨.inr ⟨_, rfl, srv⟩, .inr ⟨_, rfl, srv⟩, .inr ⟨_, rfl, srv⟩, .inr ⟨_, rfl, srv⟩, .inr ⟨_, rfl, srv⟩, .inr ⟨_, rfl, srv⟩, .inr ⟨_, rfl, srv⟩, .inr ⟨_, rfl, srv⟩, .inr ⟨_, rfl, srv⟩, trivial⟩ rfl rfl rfl ?_)
      refine rw_t 141 rfl rfl rfl (do_not rfl ?_)
      refine rw_t 142 rfl rfl rfl (do_move rfl ?_)
      have hkn5 : (!(decide (preR (makeC (someNet n 20 50)) ⟨r.Res, r.Ex, (r.H.set (((makeC (someNet n 20 50)).S).toNat) ((r.H.getD (((makeC (someNet n 20 50)).S).toNat) 0) + 1))⟩))) = true := by rw [Bool.not_eq_true', decide_eq_false_iff_not, preR_iff hcq.toCsrP]; exact hwr
      refine rw_gt 143 4 142 true rfl rfl rfl rfl rfl rfl hkn5 (n_load_boxagg [_, _, _, _, _, _, _, _, _] rfl rfl (Nat.le_of_ble_eq_true rfl) rfl ?_)
      refine rw_gt 144 4 142 true rfl rfl rfl rfl rfl rfl hkn5 (n_load_boxagg [_, _, _] rfl rfl (Nat.le_of_ble_eq_true rfl) rfl ?_)
      refine rw_gt 145 4 142 true rfl rfl rfl rfl rfl rfl hkn5 (do_callR (X' := .val (.bool (decide (preR (makeC (someNet n 20 50)) r)))) rfl rfl (t_Right (c := (makeC (someNet n 20 50))) (p := r) (hgT) (hcq.one) (hcq.arcin)) [6, 7, 8, 9, 10, 11, 12, 13, 14] ⟨.inr ⟨_, rfl, srv⟩, .inr ⟨_, rfl, srv⟩, .inr ⟨_, rfl, srv⟩, .inr ⟨_, rfl, srv⟩, .inr ⟨_, rfl, srv⟩, .inr ⟨_, rfl, srv⟩, .inr ⟨_, rfl, srv⟩, .inr ⟨_, rfl, srv⟩, .inr ⟨_, rfl, srv⟩, trivial⟩ rfl rfl rfl ?_)
      refine rw_t 146 rfl rfl rfl (do_pick_t rfl hkn5 rfl ?_)
      refine rw_t 147 rfl rfl rfl (do_move rfl ?_)
      have hkn6 : (decide (preR (makeC (someNet n 20 50)) r)) = true := by simp [hprr]
      refine rw_gt 148 9 147 true rfl rfl rfl rfl rfl rfl hkn6 (do_callR (X' := .val (.bool true)) rfl rfl (t_awake) [] trivial rfl rfl rfl ?_)
      refine rw_t 149 rfl rfl rfl (do_pick_t rfl hkn6 rfl ?_)
      refine rw_t 8 rfl rfl rfl (do_assign rfl ?_)
      refine rw_nil ?_
      refine w_ret ?_
      exact ret_eq (.inl rfl) (.cons (res_tmp rfl) .nil) [0, 1] (rfl) ⟨.inr ⟨_, rfl, .inl rfl⟩, .inr ⟨_, rfl, .inl rfl⟩, trivial⟩ rfl (pre_ok rfl)
    · refine w_seq ?_
      -- region 21
      refine w_region ?_
      refine rw_t 113 rfl rfl rfl (do_bin rfl rfl rfl ?_)
      refine rw_t 112 rfl rfl rfl (do_assign rfl ?_)
      refine rw_nil ?_
      refine w_cond rfl (fun hc5 => ?_) (fun hc5 => ?_)
      all_goals try simp only [bs] at hc5
      · have hhb := hin.hi (makeC (someNet n 20 50)).T.toNat
        have hht := gr.2.2
        have hwr := wrong_t hg gr (x := r.H.getD (makeC (someNet n 20 50)).T.toNat 0 + 1) (by omega)
        -- region 22
        refine w_region ?_
        refine rw_t 114 rfl rfl rfl (do_fieldaddr rfl ?_)
        refine rw_t 115 rfl rfl rfl (do_load_box rfl rfl rfl ?_)
        refine rw_t 116 rfl rfl rfl (do_fieldaddr rfl ?_)
        refine rw_t 117 rfl rfl rfl (do_load_box rfl rfl rfl ?_)
        refine rw_t 118 rfl rfl rfl (do_ix0 rfl rfl rfl (by first | omega | (simp only [ls] <;> omega)) ?_)
        refine rw_t 119 rfl rfl rfl (do_load_arr rfl rfl (by first | omega | (simp only [ls] <;> omega)) rfl ?_)
        refine rw_t 120 rfl rfl rfl (do_add rfl rfl (by omega) ?_)
        refine rw_t 121 rfl rfl rfl (do_ix0 rfl rfl rfl (by first | omega | (simp only [ls] <;> omega)) ?_)
        refine rw_u rfl rfl (n_store_arr (z := ((r.H.getD (((makeC (someNet n 20 50)).T).toNat) 0) + 1)) rfl rfl rfl (by first | omega | (simp only [ls] <;> omega)) rfl (by decide) rfl ?_)
        refine rw_nil ?_
        refine w_seq ?_
        -- region 27
        refine w_region ?_
        refine rw_t 138 rfl rfl rfl (n_load_boxagg [_, _, _, _, _, _, _, _, _] rfl rfl (Nat.le_of_ble_eq_true rfl) rfl ?_)
        refine rw_t 139 rfl rfl rfl (n_load_boxagg [_, _, _] rfl rfl (Nat.le_of_ble_eq_true rfl) rfl ?_)
        refine rw_t 140 rfl rfl rfl (do_callR (X' := .val (.bool (decide (preR (makeC (someNet n 20 50)) ⟨r.Res, r.Ex, (r.H.set (((makeC (someNet n 20 50)).T).toNat) ((r.H.getD (((makeC (someNet n 20 50)).T).toNat) 0) + 1))⟩)))) rfl rfl (t_RightL (c := (makeC (someNet n 20 50))) (x := r.Res) (y := r.Ex) (z := r.H.set (((makeC (someNet n 20 50)).T).toNat) ((r.H.getD (((makeC (someNet n 20 50)).T).toNat) 0) + 1)) (l1 := r.Res.length) (l2 := r.Ex.length) (l3 := r.H.length) (hgT) (hcq.one) (hcq.arcin) (by simp [List.length_set])) [6, 7, 8, 9, 10, 11, 27, 28, 29] ⟨.inr ⟨_, rfl, srv⟩, .inr ⟨_, rfl, srv⟩, .inr ⟨_, rfl, srv⟩, .inr ⟨_, rfl, srv⟩, .inr ⟨_, rfl, srv⟩, .inr ⟨_, rfl, srv⟩, .inr ⟨_, rfl, srv⟩, .inr ⟨_, rfl, srv⟩, .inr ⟨_, rfl, srv⟩, trivial⟩ rfl rfl rfl ?_)
        refine rw_t 141 rfl rfl rfl (do_not rfl ?_)
        refine rw_t 142 rfl rfl rfl (do_move rfl ?_)
        have hkn7 : (!(decide (preR (makeC (someNet n 20 50)) ⟨r.Res, r.Ex, (r.H.set (((makeC (someNet n 20 50)).T).toNat) ((r.H.getD (((makeC (someNet n 20 50)).T).toNat) 0) + 1))⟩))) = true := by rw [Bool.not_eq_true', decide_eq_false_iff_not, preR_iff hcq.toCsrP]; exact hwr
        refine rw_gt 143 4 142 true rfl rfl rfl rfl rfl rfl hkn7 (n_load_boxagg [_, _, _, _, _, _, _, _, _] rfl rfl (Nat.le_of_ble_eq_true rfl) rfl ?_)
        refine rw_gt 144 4 142 true rfl rfl rfl rfl rfl rfl hkn7 (n_load_boxagg [_, _, _] rfl rfl (Nat.le_of_ble_eq_true rfl) rfl ?_)
        refine rw_gt 145 4 142 true rfl rfl rfl rfl rfl rfl hkn7 (do_callR (X' := .val (.bool (decide (preR (makeC (someNet n 20 50)) r)))) rfl rfl (t_Right (c := (makeC (someNet n 20 50))) (p := r) (hgT) (hcq.one) (hcq.arcin)) [6, 7, 8, 9, 10, 11, 12, 13, 14] ⟨.inr ⟨_, rfl, srv⟩, .inr ⟨_, rfl, srv⟩, .inr ⟨_, rfl, srv⟩, .inr ⟨_, rfl, srv⟩, .inr ⟨_, rfl, srv⟩, .inr ⟨_, rfl, srv⟩, .inr ⟨_, rfl, srv⟩, .inr ⟨_, rfl, srv⟩, .inr ⟨_, rfl, srv⟩, trivial⟩ rfl rfl rfl ?_)
        refine rw_t 146 rfl rfl rfl (do_pick_t rfl hkn7 rfl ?_)
        refine rw_t 147 rfl rfl rfl (do_move rfl ?_)
        have hkn8 : (decide (preR (makeC (someNet n 20 50)) r)) = true := by simp [hprr]
        refine rw_gt 148 9 147 true rfl rfl rfl rfl rfl rfl hkn8 (do_callR (X' := .val (.bool true)) rfl rfl (t_awake) [] trivial rfl rfl rfl ?_)
        refine rw_t 149 rfl rfl rfl (do_pick_t rfl hkn8 rfl ?_)
        refine rw_t 8 rfl rfl rfl (do_assign rfl ?_)
        refine rw_nil ?_
        refine w_ret ?_
        exact ret_eq (.inl rfl) (.cons (res_tmp rfl) .nil) [0, 1] (rfl) ⟨.inr ⟨_, rfl, .inl rfl⟩, .inr ⟨_, rfl, .inl rfl⟩, trivial⟩ rfl (pre_ok rfl)
      · refine w_seq ?_
        -- region 23
        refine w_region ?_
        refine rw_t 123 rfl rfl rfl (do_bin rfl rfl rfl ?_)
        refine rw_t 122 rfl rfl rfl (do_assign rfl ?_)
        refine rw_nil ?_
        refine w_cond rfl (fun hc6 => ?_) (fun hc6 => ?_)
        all_goals try simp only [bs] at hc6
        · have hwr := wrong_h gr (v := (x.tmod (makeC (someNet n 20 50)).N).toNat) (by omega)
          -- region 24
          refine w_region ?_
          refine rw_t 124 rfl rfl rfl (do_fieldaddr rfl ?_)
          refine rw_t 125 rfl rfl rfl (do_load_box rfl rfl rfl ?_)
          refine rw_t 126 rfl rfl rfl (do_move rfl ?_)
          refine rw_t 127 rfl rfl rfl (do_fieldaddr rfl ?_)
          refine rw_t 128 rfl rfl rfl (do_load_box rfl rfl rfl ?_)
          refine rw_t 129 rfl rfl rfl (do_mul rfl rfl (by omega) ?_)
          refine rw_t 130 rfl rfl rfl (do_ix0 rfl rfl rfl (by first | omega | (simp only [ls] <;> omega)) ?_)
          refine rw_u rfl rfl (n_store_arr (z := (2 * (makeC (someNet n 20 50)).N)) rfl rfl rfl (by first | omega | (simp only [ls] <;> omega)) rfl (by decide) rfl ?_)
          refine rw_nil ?_
          refine w_seq ?_
          -- region 27
          refine w_region ?_
          refine rw_t 138 rfl rfl rfl (n_load_boxagg [_, _, _, _, _, _, _, _, _] rfl rfl (Nat.le_of_ble_eq_true rfl) rfl ?_)
          refine rw_t 139 rfl rfl rfl (n_load_boxagg [_, _, _] rfl rfl (Nat.le_of_ble_eq_true rfl) rfl ?_)
          refine rw_t 140 rfl rfl rfl (do_callR (X' := .val (.bool (decide (preR (makeC (someNet n 20 50)) ⟨r.Res, r.Ex, (r.H.set ((x.tmod ((makeC (someNet n 20 50)).N)).toNat) (2 * (makeC (someNet n 20 50)).N))⟩)))) rfl rfl (t_RightL (c := (makeC (someNet n 20 50))) (x := r.Res) (y := r.Ex) (z := r.H.set ((x.tmod ((makeC (someNet n 20 50)).N)).toNat) (2 * (makeC (someNet n 20 50)).N)) (l1 := r.Res.length) (l2 := r.Ex.length) (l3 := r.H.length) (hgT) (hcq.one) (hcq.arcin) (by simp [List.length_set])) [6, 7, 8, 9, 10, 11, 27, 28, 29] ⟨.inr ⟨_, rfl, srv⟩, .inr ⟨_, rfl, srv⟩, .inr ⟨_, rfl, srv⟩, .inr ⟨_, rfl, srv⟩, .inr ⟨_, rfl, srv⟩, .inr ⟨_, rfl, srv⟩, .inr ⟨_, rfl, srv⟩, .inr ⟨_, rfl, srv⟩, .inr ⟨_, rfl, srv⟩, trivial⟩ rfl rfl rfl ?_)
          refine rw_t 141 rfl rfl rfl (do_not rfl ?_)
          refine rw_t 142 rfl rfl rfl (do_move rfl ?_)
          have hkn9 : (!(decide (preR (makeC (someNet n 20 50)) ⟨r.Res, r.Ex, (r.H.set ((x.tmod ((makeC (someNet n 20 50)).N)).toNat) (2 * (makeC (someNet n 20 50)).N))⟩))) = true := by rw [Bool.not_eq_true', decide_eq_false_iff_not, preR_iff hcq.toCsrP]; exact hwr
          refine rw_gt 143 4 142 true rfl rfl rfl rfl rfl rfl hkn9 (n_load_boxagg [_, _, _, _, _, _, _, _, _] rfl rfl (Nat.le_of_ble_eq_true rfl) rfl ?_)
          refine rw_gt 144 4 142 true rfl rfl rfl rfl rfl rfl hkn9 (n_load_boxagg [_, _, _] rfl rfl (Nat.le_of_ble_eq_true rfl) rfl ?_)
          refine rw_gt 145 4 142 true rfl rfl rfl rfl rfl rfl hkn9 (do_callR (X' := .val (.bool (decide (preR (makeC (someNet n 20 50)) r)))) rfl rfl (t_Right (c := (makeC (someNet n 20 50))) (p := r) (hgT) (hcq.one) (hcq.arcin)) [6, 7, 8, 9, 10, 11, 12, 13, 14] ⟨.inr ⟨_, rfl, srv⟩, .inr ⟨_, rfl, srv⟩, .inr ⟨_, rfl, srv⟩, .inr ⟨_, rfl, srv⟩, .inr ⟨_, rfl, srv⟩, .inr ⟨_, rfl, srv⟩, .inr ⟨_, rfl, srv⟩, .inr ⟨_, rfl, srv⟩, .inr ⟨_, rfl, srv⟩, trivial⟩ rfl rfl rfl ?_)
          refine rw_t 146 rfl rfl rfl (do_pick_t rfl hkn9 rfl ?_)
          refine rw_t 147 rfl rfl rfl (do_move rfl ?_)
          have hkn10 : (decide (preR (makeC (someNet n 20 50)) r)) = true := by simp [hprr]
          refine rw_gt 148 9 147 true rfl rfl rfl rfl rfl rfl hkn10 (do_callR (X' := .val (.bool true)) rfl rfl (t_awake) [] trivial rfl rfl rfl ?_)
          refine rw_t 149 rfl rfl rfl (do_pick_t rfl hkn10 rfl ?_)
          refine rw_t 8 rfl rfl rfl (do_assign rfl ?_)
          refine rw_nil ?_
          refine w_ret ?_
          exact ret_eq (.inl rfl) (.cons (res_tmp rfl) .nil) [0, 1] (rfl) ⟨.inr ⟨_, rfl, .inl rfl⟩, .inr ⟨_, rfl, .inl rfl⟩, trivial⟩ rfl (pre_ok rfl)
        · refine w_seq ?_
          -- region 25
          refine w_region ?_
          refine rw_t 132 rfl rfl rfl (do_bin rfl rfl rfl ?_)
          refine rw_t 131 rfl rfl rfl (do_assign rfl ?_)
          refine rw_nil ?_
          refine w_cond rfl (fun hc7 => ?_) (fun hc7 => ?_)
          all_goals try simp only [bs] at hc7
          · have hwr := wrong_len gr
            -- region 26
            refine w_region ?_
            refine rw_t 133 rfl rfl rfl (do_fieldaddr rfl ?_)
            refine rw_t 134 rfl rfl rfl (do_load_box rfl rfl rfl ?_)
            refine rw_t 135 rfl rfl rfl (n_bs (nm := 31) Int (encI .i64) 0 [0] rfl rfl rfl rfl rfl (fun _ => rfl) (fun _ _ h => by simp [encI] at h; subst h; rfl) rfl ?_)
            refine rw_t 136 rfl rfl rfl (n_app_own (nm := 32) rfl rfl rfl rfl rfl (by first | omega | (simp only [ls] <;> omega)) (by first | omega | (simp only [ls] <;> omega)) (by omega) (by omega) rfl ?_)
            refine rw_t 137 rfl rfl rfl (do_fieldaddr rfl ?_)
            refine rw_u rfl rfl (n_store_box (f := 1) rfl rfl rfl (Nat.le_of_ble_eq_true rfl) rfl ?_)
            refine rw_nil ?_
            refine w_seq ?_
            -- region 27
            refine w_region ?_
            refine rw_t 138 rfl rfl rfl (n_load_boxagg [_, _, _, _, _, _, _, _, _] rfl rfl (Nat.le_of_ble_eq_true rfl) rfl ?_)
            refine rw_t 139 rfl rfl rfl (n_load_boxagg [_, _, _] rfl rfl (Nat.le_of_ble_eq_true rfl) rfl ?_)
            refine rw_t 140 rfl rfl rfl (do_callR (X' := .val (.bool (decide (preR (makeC (someNet n 20 50)) ⟨r.Res, (r.Ex ++ [0]), r.H⟩)))) rfl rfl (t_RightL (c := (makeC (someNet n 20 50))) (x := r.Res) (y := r.Ex ++ [0]) (z := r.H) (l1 := r.Res.length) (l2 := (r.Ex.length + 1)) (l3 := r.H.length) (hgT) (hcq.one) (hcq.arcin) (by simp [List.length_set])) [6, 7, 8, 9, 10, 11, 27, 32, 29] ⟨.inr ⟨_, rfl, srv⟩, .inr ⟨_, rfl, srv⟩, .inr ⟨_, rfl, srv⟩, .inr ⟨_, rfl, srv⟩, .inr ⟨_, rfl, srv⟩, .inr ⟨_, rfl, srv⟩, .inr ⟨_, rfl, srv⟩, .inr ⟨_, rfl, srv⟩, .inr ⟨_, rfl, srv⟩, trivial⟩ rfl rfl rfl ?_)
            refine rw_t 141 rfl rfl rfl (do_not rfl ?_)
            refine rw_t 142 rfl rfl rfl (do_move rfl ?_)
            have hkn11 : (!(decide (preR (makeC (someNet n 20 50)) ⟨r.Res, (r.Ex ++ [0]), r.H⟩))) = true := by rw [Bool.not_eq_true', decide_eq_false_iff_not, preR_iff hcq.toCsrP]; exact hwr
            refine rw_gt 143 4 142 true rfl rfl rfl rfl rfl rfl hkn11 (n_load_boxagg [_, _, _, _, _, _, _, _, _] rfl rfl (Nat.le_of_ble_eq_true rfl) rfl ?_)
            refine rw_gt 144 4 142 true rfl rfl rfl rfl rfl rfl hkn11 (n_load_boxagg [_, _, _] rfl rfl (Nat.le_of_ble_eq_true rfl) rfl ?_)
            refine rw_gt 145 4 142 true rfl rfl rfl rfl rfl rfl hkn11 (do_callR (X' := .val (.bool (decide (preR (makeC (someNet n 20 50)) r)))) rfl rfl (t_Right (c := (makeC (someNet n 20 50))) (p := r) (hgT) (hcq.one) (hcq.arcin)) [6, 7, 8, 9, 10, 11, 12, 13, 14] ⟨.inr ⟨_, rfl, srv⟩, .inr ⟨_, rfl, srv⟩, .inr ⟨_, rfl, srv⟩, .inr ⟨_, rfl, srv⟩, .inr ⟨_, rfl, srv⟩, .inr ⟨_, rfl, srv⟩, .inr ⟨_, rfl, srv⟩, .inr ⟨_, rfl, srv⟩, .inr ⟨_, rfl, srv⟩, trivial⟩ rfl rfl rfl ?_)
            refine rw_t 146 rfl rfl rfl (do_pick_t rfl hkn11 rfl ?_)
            refine rw_t 147 rfl rfl rfl (do_move rfl ?_)
            have hkn12 : (decide (preR (makeC (someNet n 20 50)) r)) = true := by simp [hprr]
            refine rw_gt 148 9 147 true rfl rfl rfl rfl rfl rfl hkn12 (do_callR (X' := .val (.bool true)) rfl rfl (t_awake) [] trivial rfl rfl rfl ?_)
            refine rw_t 149 rfl rfl rfl (do_pick_t rfl hkn12 rfl ?_)
            refine rw_t 8 rfl rfl rfl (do_assign rfl ?_)
            refine rw_nil ?_
            refine w_ret ?_
            exact ret_eq (.inl rfl) (.cons (res_tmp rfl) .nil) [0, 1] (rfl) ⟨.inr ⟨_, rfl, .inl rfl⟩, .inr ⟨_, rfl, .inl rfl⟩, trivial⟩ rfl (pre_ok rfl)
          · refine w_seq ?_
            refine w_seq ?_
            -- region 14
            refine w_region ?_
            refine rw_t 76 rfl rfl rfl (do_fieldaddr rfl ?_)
            refine rw_t 77 rfl rfl rfl (do_load_box rfl rfl rfl ?_)
            refine rw_t 78 rfl rfl rfl (do_len rfl ?_)
            refine rw_t 79 rfl rfl rfl (do_bin rfl rfl rfl ?_)
            refine rw_nil ?_
            refine w_cond rfl (fun hc8 => ?_) (fun hc8 => ?_)
            all_goals try simp only [bs] at hc8
            · refine w_seq ?_
              -- region 15
              refine w_region ?_
              refine rw_t 80 rfl rfl rfl (do_callR (X' := .val (.bool true)) rfl rfl (t_awake) [] trivial rfl rfl rfl ?_)
              refine rw_t 8 rfl rfl rfl (do_assign rfl ?_)
              refine rw_nil ?_
              refine w_ret ?_
              exact ret_eq (.inl rfl) (.cons (res_tmp rfl) .nil) [0, 1] (rfl) ⟨.inr ⟨_, rfl, .inl rfl⟩, .inr ⟨_, rfl, .inl rfl⟩, trivial⟩ rfl (pre_ok rfl)
            refine w_skip ?_
            have hai := tmod_in (x := IntKind.i64.wrap x) (n := ((r.Res.length : Nat) : Int)) (by rw [wrap_small (x := x) (by omega)]; exact hx.1) (by omega)
            have hpr := gr.1.1.1.2 ((IntKind.i64.wrap x).tmod ((r.Res.length : Nat) : Int)).toNat (by omega)
            have hcp := hg.cp ((IntKind.i64.wrap x).tmod ((r.Res.length : Nat) : Int)).toNat (by omega)
            have hwr := wrong_res hg gr (a := ((IntKind.i64.wrap x).tmod ((r.Res.length : Nat) : Int)).toNat) (by omega) (x := r.Res.getD ((IntKind.i64.wrap x).tmod ((r.Res.length : Nat) : Int)).toNat 0 + 1) (by omega)
            -- region 16
            refine w_draw mixed [0, 1, 0, 4, 0, 16, 48, 124] [255, 511, 1023, 2047, 4095] (by kernel_rfl) (by kernel_rfl) rfl rfl rfl (hle hρ rfl) ?_
            refine ra_q (j := 0) rfl rfl rfl rfl (do_fieldaddr rfl ⟨rfl, rfl⟩) (by rfl) ?_
            refine ra_q (j := 1) rfl rfl rfl rfl (do_load_box rfl rfl rfl ⟨rfl, rfl⟩) (by rfl) ?_
            refine ra_q (j := 2) rfl rfl rfl rfl (do_move rfl ⟨rfl, rfl⟩) (by rfl) ?_
            refine ra_q (j := 3) rfl rfl rfl rfl (do_conv rfl ⟨rfl, rfl⟩) (by rfl) ?_
            refine ra_q (j := 4) rfl rfl rfl rfl (do_fieldaddr rfl ⟨rfl, rfl⟩) (by rfl) ?_
            refine ra_q (j := 5) rfl rfl rfl rfl (do_load_box rfl rfl rfl ⟨rfl, rfl⟩) (by rfl) ?_
            refine ra_q (j := 6) rfl rfl rfl rfl (do_len rfl ⟨rfl, rfl⟩) (by rfl) ?_
            refine ra_q (j := 7) rfl rfl rfl rfl (do_rem rfl rfl (by omega) ⟨rfl, rfl⟩) (by rfl) ?_
            refine n_done ?_
            refine rw_t 89 rfl rfl rfl (do_ix0 rfl rfl rfl (by first | omega | (simp only [ls] <;> omega)) ?_)
            refine rw_t 90 rfl rfl rfl (do_load_arr rfl rfl (by first | omega | (simp only [ls] <;> omega)) rfl ?_)
            refine rw_t 91 rfl rfl rfl (do_add rfl rfl (by omega) ?_)
            refine rw_t 92 rfl rfl rfl (do_ix0 rfl rfl rfl (by first | omega | (simp only [ls] <;> omega)) ?_)
            refine rw_u rfl rfl (n_store_arr (z := ((r.Res.getD (((IntKind.i64.wrap x).tmod ((r.Res.length : Nat) : Int)).toNat) 0) + 1)) rfl rfl rfl (by first | omega | (simp only [ls] <;> omega)) rfl (by decide) rfl ?_)
            refine rw_nil ?_
            refine w_seq ?_
            -- region 27
            refine w_region ?_
            refine rw_t 138 rfl rfl rfl (n_load_boxagg [_, _, _, _, _, _, _, _, _] rfl rfl (Nat.le_of_ble_eq_true rfl) rfl ?_)
            refine rw_t 139 rfl rfl rfl (n_load_boxagg [_, _, _] rfl rfl (Nat.le_of_ble_eq_true rfl) rfl ?_)
            refine rw_t 140 rfl rfl rfl (do_callR (X' := .val (.bool (decide (preR (makeC (someNet n 20 50)) ⟨(r.Res.set (((IntKind.i64.wrap x).tmod ((r.Res.length : Nat) : Int)).toNat) ((r.Res.getD (((IntKind.i64.wrap x).tmod ((r.Res.length : Nat) : Int)).toNat) 0) + 1)), r.Ex, r.H⟩)))) rfl rfl (t_RightL (c := (makeC (someNet n 20 50))) (x := r.Res.set (((IntKind.i64.wrap x).tmod ((r.Res.length : Nat) : Int)).toNat) ((r.Res.getD (((IntKind.i64.wrap x).tmod ((r.Res.length : Nat) : Int)).toNat) 0) + 1)) (y := r.Ex) (z := r.H) (l1 := r.Res.length) (l2 := r.Ex.length) (l3 := r.H.length) (hgT) (hcq.one) (hcq.arcin) (by simp [List.length_set])) [6, 7, 8, 9, 10, 11, 27, 28, 29] ⟨.inr ⟨_, rfl, srv⟩, .inr ⟨_, rfl, srv⟩, .inr ⟨_, rfl, srv⟩, .inr ⟨_, rfl, srv⟩, .inr ⟨_, rfl, srv⟩, .inr ⟨_, rfl, srv⟩, .inr ⟨_, rfl, srv⟩, .inr ⟨_, rfl, srv⟩, .inr ⟨_, rfl, srv⟩, trivial⟩ rfl rfl rfl ?_)
            refine rw_t 141 rfl rfl rfl (do_not rfl ?_)
            refine rw_t 142 rfl rfl rfl (do_move rfl ?_)
            have hkn13 : (!(decide (preR (makeC (someNet n 20 50)) ⟨(r.Res.set (((IntKind.i64.wrap x).tmod ((r.Res.length : Nat) : Int)).toNat) ((r.Res.getD (((IntKind.i64.wrap x).tmod ((r.Res.length : Nat) : Int)).toNat) 0) + 1)), r.Ex, r.H⟩))) = true := by rw [Bool.not_eq_true', decide_eq_false_iff_not, preR_iff hcq.toCsrP]; exact hwr
            refine rw_gt 143 4 142 true rfl rfl rfl rfl rfl rfl hkn13 (n_load_boxagg [_, _, _, _, _, _, _, _, _] rfl rfl (Nat.le_of_ble_eq_true rfl) rfl ?_)
            refine rw_gt 144 4 142 true rfl rfl rfl rfl rfl rfl hkn13 (n_load_boxagg [_, _, _] rfl rfl (Nat.le_of_ble_eq_true rfl) rfl ?_)
            refine rw_gt 145 4 142 true rfl rfl rfl rfl rfl rfl hkn13 (do_callR (X' := .val (.bool (decide (preR (makeC (someNet n 20 50)) r)))) rfl rfl (t_Right (c := (makeC (someNet n 20 50))) (p := r) (hgT) (hcq.one) (hcq.arcin)) [6, 7, 8, 9, 10, 11, 12, 13, 14] ⟨.inr ⟨_, rfl, srv⟩, .inr ⟨_, rfl, srv⟩, .inr ⟨_, rfl, srv⟩, .inr ⟨_, rfl, srv⟩, .inr ⟨_, rfl, srv⟩, .inr ⟨_, rfl, srv⟩, .inr ⟨_, rfl, srv⟩, .inr ⟨_, rfl, srv⟩, .inr ⟨_, rfl, srv⟩, trivial⟩ rfl rfl rfl ?_)
            refine rw_t 146 rfl rfl rfl (do_pick_t rfl hkn13 rfl ?_)
            refine rw_t 147 rfl rfl rfl (do_move rfl ?_)
            have hkn14 : (decide (preR (makeC (someNet n 20 50)) r)) = true := by simp [hprr]
            refine rw_gt 148 9 147 true rfl rfl rfl rfl rfl rfl hkn14 (do_callR (X' := .val (.bool true)) rfl rfl (t_awake) [] trivial rfl rfl rfl ?_)
            refine rw_t 149 rfl rfl rfl (do_pick_t rfl hkn14 rfl ?_)
            refine rw_t 8 rfl rfl rfl (do_assign rfl ?_)
            refine rw_nil ?_
            refine w_ret ?_
            exact ret_eq (.inl rfl) (.cons (res_tmp rfl) .nil) [0, 1] (rfl) ⟨.inr ⟨_, rfl, .inl rfl⟩, .inr ⟨_, rfl, .inl rfl⟩, trivial⟩ rfl (pre_ok rfl)
end Go.Proofs
