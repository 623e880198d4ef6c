/- RelaxedStrict answers true for every input that can be read, and leaves the input as it was. Part 3. -/
import Derived.Test.YtnjmdlnaelpakaaW2
set_option linter.unusedVariables false
set_option linter.unusedSimpArgs false
set_option linter.unusedVariables false
namespace Go.Proofs
open Go Go.Sx Go.RowKit
set_option maxHeartbeats 8000000 in
theorem t_begun (n : Net) (h : NetOK n) (hs : n.N ≤ 64 ∧ n.arcs.length ≤ 64) : Tri Try.prog 8 [n.sv 0] [SO.arcs false n.arcs] (fun s H => s = .tup [(makeC n).sv 1, (begP n).sv 7] ∧ H = [SO.arcs false n.arcs, SO.ints true .i64 (makeC n).First, SO.ints true .i64 (makeC n).Head, SO.ints true .i64 (makeC n).Rev, SO.ints true .i64 (makeC n).Cap, SO.ints true .i64 (makeC n).Arc, SO.bools true (makeC n).Back, SO.ints true .i64 (begP n).Res, SO.ints true .i64 (begP n).Ex, SO.ints true .i64 (begP n).H]) := by
  refine tri_of_w (fn := Try.f8) Try.func8 rfl (by simp [Try.f8]) ?_
  intro ρ w hρ
  refine w_seq ?_
  have hlo := h.lo
  have hS := h.s
  refine w_region ?_
  refine rw_t 1 rfl rfl rfl (n_box_agg (n := 1) rfl  rfl ?_)
  refine rw_t 2 rfl rfl rfl (n_alloc (n := 2) rfl ?_)
  refine rw_t 3 rfl rfl rfl (n_alloc (n := 3) rfl ?_)
  refine rw_nil ?_
  refine w_seq ?_
  refine w_region ?_
  first
    | refine rw_t 14 rfl rfl rfl (do_load_box rfl rfl rfl ?_)
    | refine rw_t 14 rfl rfl rfl (do_load_arr rfl rfl (by first | omega | (simp only [ls]; omega)) rfl ?_)
    | refine rw_t 14 rfl rfl rfl (n_load_boxagg [_, _, _, _] rfl rfl (Nat.le_of_ble_eq_true rfl) rfl ?_)
    | refine rw_t 14 rfl rfl rfl (n_load_arragg [_, _, _, _] rfl rfl rfl (by omega) rfl ?_)
  refine rw_t 15 rfl rfl rfl (n_callN (X' := .tup [(makeC n).sv 4, .val (.int .i64 0)]) (N := [SO.ints true .i64 (makeC n).First, SO.ints true .i64 (makeC n).Head, SO.ints true .i64 (makeC n).Rev, SO.ints true .i64 (makeC n).Cap, SO.ints true .i64 (makeC n).Arc, SO.bools true (makeC n).Back]) (N' := [SO.ints true .i64 (makeC n).First, SO.ints true .i64 (makeC n).Head, SO.ints true .i64 (makeC n).Rev, SO.ints true .i64 (makeC n).Cap, SO.ints true .i64 (makeC n).Arc, SO.bools true (makeC n).Back]) rfl rfl (t_Make n h hs) [0] ⟨.inr ⟨_, rfl, srv⟩, trivial⟩ rfl rfl rfl rfl rfl ?_)
  refine rw_t 13 rfl rfl rfl (do_move rfl ?_)
  refine rw_t 16 rfl rfl rfl (do_extract rfl rfl ?_)
  refine rw_t 17 rfl rfl rfl (do_extract rfl rfl ?_)
  refine rw_t 4 rfl rfl rfl (n_alloc (n := 10) rfl ?_)
  first
    | refine rw_u rfl rfl (n_store_box rfl rfl rfl (Nat.le_of_ble_eq_true rfl) rfl ?_)
    | refine rw_u rfl rfl (n_store_arr rfl rfl rfl (by first | omega | (simp only [ls]; omega)) rfl (by decide) rfl ?_)
    | refine rw_u rfl rfl (n_store_whole rfl rfl rfl rfl rfl rfl ?_)
  refine rw_t 5 rfl rfl rfl (do_assign rfl ?_)
  refine rw_nil ?_
  refine w_seq ?_
  refine w_region ?_
  refine rw_t 18 rfl rfl rfl (do_fieldaddr rfl ?_)
  first
    | refine rw_t 19 rfl rfl rfl (do_load_box rfl rfl rfl ?_)
    | refine rw_t 19 rfl rfl rfl (do_load_arr rfl rfl (by first | omega | (simp only [ls]; omega)) rfl ?_)
    | refine rw_t 19 rfl rfl rfl (n_load_boxagg [_] rfl rfl (Nat.le_of_ble_eq_true rfl) rfl ?_)
    | refine rw_t 19 rfl rfl rfl (n_load_arragg [_] rfl rfl rfl (by omega) rfl ?_)
  refine rw_t 20 rfl rfl rfl (do_len rfl ?_)
  refine rw_t 21 rfl rfl rfl (n_make (nm := 11) Int (encI .i64) 0 rfl rfl rfl (fun _ => rfl) (fun _ _ h => by simp [encI] at h; subst h; rfl) (by omega) (by omega) (by omega) rfl ?_)
  refine rw_t 6 rfl rfl rfl (do_assign rfl ?_)
  refine rw_le (.slc 11 0 n.arcs.length none) cap_none ?_
  refine rw_nil ?_
  refine w_seq ?_
  refine w_region ?_
  refine rw_t 22 rfl rfl rfl (do_fieldaddr rfl ?_)
  first
    | refine rw_t 23 rfl rfl rfl (do_load_box rfl rfl rfl ?_)
    | refine rw_t 23 rfl rfl rfl (do_load_arr rfl rfl (by first | omega | (simp only [ls]; omega)) rfl ?_)
    | refine rw_t 23 rfl rfl rfl (n_load_boxagg [_] rfl rfl (Nat.le_of_ble_eq_true rfl) rfl ?_)
    | refine rw_t 23 rfl rfl rfl (n_load_arragg [_] rfl rfl rfl (by omega) rfl ?_)
  refine rw_t 24 rfl rfl rfl (n_make (nm := 12) Int (encI .i64) 0 rfl rfl rfl (fun _ => rfl) (fun _ _ h => by simp [encI] at h; subst h; rfl) (by omega) (by omega) (by omega) rfl ?_)
  refine rw_t 7 rfl rfl rfl (do_assign rfl ?_)
  refine rw_le (.slc 12 0 n.N.toNat none) cap_none ?_
  refine rw_nil ?_
  refine w_seq ?_
  refine w_seq ?_
  refine w_region ?_
  refine rw_t 25 rfl rfl rfl (do_fieldaddr rfl ?_)
  first
    | refine rw_t 26 rfl rfl rfl (do_load_box rfl rfl rfl ?_)
    | refine rw_t 26 rfl rfl rfl (do_load_arr rfl rfl (by first | omega | (simp only [ls]; omega)) rfl ?_)
    | refine rw_t 26 rfl rfl rfl (n_load_boxagg [_] rfl rfl (Nat.le_of_ble_eq_true rfl) rfl ?_)
    | refine rw_t 26 rfl rfl rfl (n_load_arragg [_] rfl rfl rfl (by omega) rfl ?_)
  refine rw_t 27 rfl rfl rfl (do_len rfl ?_)
  refine rw_t 28 rfl rfl rfl (do_move rfl ?_)
  refine rw_nil ?_
  refine w_block ?_ -- block 0
  refine w_loopS (ι := Nat) (fun i => [(1, .ptr 1 0 0), (2, .ptr 2 0 0), (3, .ptr 3 0 0), (4, .ptr 10 0 0), (6, .slc 11 0 n.arcs.length none), (7, .slc 12 0 n.N.toNat none), (26, .slc 0 0 n.arcs.length none), (27, .val (.int .i64 ((n.arcs.length : Nat)))), (28, .val (.int .i64 ((i : Nat))))]) (fun i => [SO.arcs false n.arcs, .box [.val (.int .i64 n.N), .val (.int .i64 n.S), .val (.int .i64 n.T), .slc 0 0 n.arcs.length none], .box [.val (.int .i64 0), .val (.int .i64 0), .val (.int .i64 0), .val (.slice none 0 0), .val (.slice none 0 0), .val (.slice none 0 0), .val (.slice none 0 0), .val (.slice none 0 0), .val (.slice none 0 0)], .box [.val (.slice none 0 0), .val (.slice none 0 0), .val (.slice none 0 0)], SO.ints true .i64 (makeC n).First, SO.ints true .i64 (makeC n).Head, SO.ints true .i64 (makeC n).Rev, SO.ints true .i64 (makeC n).Cap, SO.ints true .i64 (makeC n).Arc, SO.bools true (makeC n).Back, .box [.val (.int .i64 (makeC n).N), .val (.int .i64 (makeC n).S), .val (.int .i64 (makeC n).T), .slc 4 0 (makeC n).First.length none, .slc 5 0 (makeC n).Head.length none, .slc 6 0 (makeC n).Rev.length none, .slc 7 0 (makeC n).Cap.length none, .slc 8 0 (makeC n).Arc.length none, .slc 9 0 (makeC n).Back.length none], SO.ints true .i64 (begF n i), SO.ints true .i64 (begX n i)]) (fun i => n.arcs.length - i) (fun i => i ≤ n.arcs.length) (0) [0, 1, 2, 3, 4, 5, 6, 7, 8, 9, 10, 11, 12] (by simp) ⟨shR rfl, shR rfl, shR rfl, shR rfl, shR rfl, shR rfl, shR rfl, shR rfl, shR rfl, shR rfl, shR rfl, shR rfl, shR rfl, trivial⟩ rfl (pre_ok rfl) hρ ⟨⟨_, rfl, rfl⟩, ⟨_, rfl, rfl⟩, ⟨_, rfl, rfl⟩, ⟨_, rfl, rfl⟩, ⟨_, rfl, rfl⟩, ⟨_, rfl, rfl⟩, ⟨_, rfl, rfl⟩, ⟨_, rfl, rfl⟩, ⟨_, rfl, rfl⟩, trivial⟩ ?_
  intro i hi
  refine w_seq ?_
  refine w_region ?_
  refine rw_t 29 rfl rfl rfl (do_bin rfl rfl rfl ?_)
  refine rw_nil ?_
  refine w_seq ?_
  refine w_cond rfl (fun hc1 => ?_) (fun hc1 => ?_)
  all_goals try simp only [bs] at hc1
  rotate_left
  · refine w_exit ?_
    refine w_seq ?_
    have hi' : i = n.arcs.length := by omega
    subst hi'
    refine w_region ?_
    first
      | refine rw_t 70 rfl rfl rfl (do_load_box rfl rfl rfl ?_)
      | refine rw_t 70 rfl rfl rfl (do_load_arr rfl rfl (by first | omega | (simp only [ls]; omega)) rfl ?_)
      | refine rw_t 70 rfl rfl rfl (n_load_boxagg [_, _, _, _, _, _, _, _, _] rfl rfl (Nat.le_of_ble_eq_true rfl) rfl ?_)
      | refine rw_t 70 rfl rfl rfl (n_load_arragg [_, _, _, _, _, _, _, _, _] rfl rfl rfl (by omega) rfl ?_)
    refine rw_t 71 rfl rfl rfl (do_move rfl ?_)
    refine rw_t 72 rfl rfl rfl (n_callN (X' := .tup [.slc 13 0 (makeC n).Head.length none, .val (.int .i64 0)]) (N := [SO.ints true .i64 (resOf (makeC n) (begF n n.arcs.length) (makeC n).Head.length)]) (N' := [SO.ints true .i64 (resOf (makeC n) (begF n n.arcs.length) (makeC n).Head.length)]) rfl rfl (t_rRes (makeC n) (begF n n.arcs.length) (make_len h hs) (res_in h (begF_len n _) (begF_in h _ (Nat.le_refl _)))) [4, 5, 6, 7, 8, 9, 11] ⟨.inr ⟨_, rfl, srv⟩, .inr ⟨_, rfl, srv⟩, .inr ⟨_, rfl, srv⟩, .inr ⟨_, rfl, srv⟩, .inr ⟨_, rfl, srv⟩, .inr ⟨_, rfl, srv⟩, .inr ⟨_, rfl, srv⟩, trivial⟩ rfl rfl (by rw [begF_len]; rfl) rfl rfl ?_)
    refine rw_t 69 rfl rfl rfl (do_move rfl ?_)
    refine rw_t 73 rfl rfl rfl (do_extract rfl rfl ?_)
    refine rw_t 74 rfl rfl rfl (do_extract rfl rfl ?_)
    refine rw_t 10 rfl rfl rfl (do_assign rfl ?_)
    refine rw_t 11 rfl rfl rfl (do_assign rfl ?_)
    refine rw_nil ?_
    refine w_seq ?_
    refine w_region ?_
    refine rw_t 75 rfl rfl rfl (do_fieldaddr rfl ?_)
    first
      | refine rw_t 76 rfl rfl rfl (do_load_box rfl rfl rfl ?_)
      | refine rw_t 76 rfl rfl rfl (do_load_arr rfl rfl (by first | omega | (simp only [ls]; omega)) rfl ?_)
      | refine rw_t 76 rfl rfl rfl (n_load_boxagg [_] rfl rfl (Nat.le_of_ble_eq_true rfl) rfl ?_)
      | refine rw_t 76 rfl rfl rfl (n_load_arragg [_] rfl rfl rfl (by omega) rfl ?_)
    refine rw_t 77 rfl rfl rfl (n_make (nm := 14) Int (encI .i64) 0 rfl rfl rfl (fun _ => rfl) (fun _ _ h => by simp [encI] at h; subst h; rfl) (by omega) (by omega) (by omega) rfl ?_)
    refine rw_t 12 rfl rfl rfl (do_assign rfl ?_)
    refine rw_le (.slc 14 0 n.N.toNat none) cap_none ?_
    refine rw_nil ?_
    refine w_seq ?_
    refine w_region ?_
    refine rw_t 78 rfl rfl rfl (do_move rfl ?_)
    refine rw_t 79 rfl rfl rfl (do_fieldaddr rfl ?_)
    first
      | refine rw_t 80 rfl rfl rfl (do_load_box rfl rfl rfl ?_)
      | refine rw_t 80 rfl rfl rfl (do_load_arr rfl rfl (by first | omega | (simp only [ls]; omega)) rfl ?_)
      | refine rw_t 80 rfl rfl rfl (n_load_boxagg [_] rfl rfl (Nat.le_of_ble_eq_true rfl) rfl ?_)
      | refine rw_t 80 rfl rfl rfl (n_load_arragg [_] rfl rfl rfl (by omega) rfl ?_)
    refine rw_t 81 rfl rfl rfl (do_fieldaddr rfl ?_)
    first
      | refine rw_t 82 rfl rfl rfl (do_load_box rfl rfl rfl ?_)
      | refine rw_t 82 rfl rfl rfl (do_load_arr rfl rfl (by first | omega | (simp only [ls]; omega)) rfl ?_)
      | refine rw_t 82 rfl rfl rfl (n_load_boxagg [_] rfl rfl (Nat.le_of_ble_eq_true rfl) rfl ?_)
      | refine rw_t 82 rfl rfl rfl (n_load_arragg [_] rfl rfl rfl (by omega) rfl ?_)
    first
      | refine rw_t 83 rfl rfl rfl (do_ixn rfl rfl rfl (by omega) ?_)
      | refine rw_t 83 rfl rfl rfl (do_ix0 rfl rfl rfl (by omega) ?_)
      | refine rw_t 83 rfl rfl rfl (do_ix rfl rfl rfl (by omega) ?_)
    first
      | refine rw_u rfl rfl (n_store_box rfl rfl rfl (Nat.le_of_ble_eq_true rfl) rfl ?_)
      | refine rw_u rfl rfl (n_store_arr rfl rfl rfl (by first | omega | (simp only [ls]; omega)) rfl (by decide) rfl ?_)
      | refine rw_u rfl rfl (n_store_whole rfl rfl rfl rfl rfl rfl ?_)
    refine rw_nil ?_
    refine w_seq ?_
    refine w_region ?_
    first
      | refine rw_t 84 rfl rfl rfl (do_load_box rfl rfl rfl ?_)
      | refine rw_t 84 rfl rfl rfl (do_load_arr rfl rfl (by first | omega | (simp only [ls]; omega)) rfl ?_)
      | refine rw_t 84 rfl rfl rfl (n_load_boxagg [_, _, _, _, _, _, _, _, _] rfl rfl (Nat.le_of_ble_eq_true rfl) rfl ?_)
      | refine rw_t 84 rfl rfl rfl (n_load_arragg [_, _, _, _, _, _, _, _, _] rfl rfl rfl (by omega) rfl ?_)
    refine rw_t 85 rfl rfl rfl (do_move rfl ?_)
    refine rw_t 86 rfl rfl rfl (do_move rfl ?_)
    refine rw_t 87 rfl rfl rfl (do_move rfl ?_)
    refine rw_t 88 rfl rfl rfl (do_build (out := [_, _, _]) rfl rfl ?_)
    first
      | refine rw_u rfl rfl (n_store_box rfl rfl rfl (Nat.le_of_ble_eq_true rfl) rfl ?_)
      | refine rw_u rfl rfl (n_store_arr rfl rfl rfl (by first | omega | (simp only [ls]; omega)) rfl (by decide) rfl ?_)
      | refine rw_u rfl rfl (n_store_whole rfl rfl rfl rfl rfl rfl ?_)
    first
      | refine rw_u rfl rfl (n_store_box rfl rfl rfl (Nat.le_of_ble_eq_true rfl) rfl ?_)
      | refine rw_u rfl rfl (n_store_arr rfl rfl rfl (by first | omega | (simp only [ls]; omega)) rfl (by decide) rfl ?_)
      | refine rw_u rfl rfl (n_store_whole rfl rfl rfl rfl rfl rfl ?_)
    refine rw_nil ?_
    refine w_ret ?_
    have e1 : (begP n).Res.length = (makeC n).Head.length := by simp [begP, resOf_len]
    have e2 : (begP n).Ex.length = n.N.toNat := by simp [begP, begX_len]
    have e3 : (begP n).H.length = n.N.toNat := by simp [begP, begH]
    exact ret_eq (.inl rfl) (.cons (res_agg rfl rfl (Nat.le_of_ble_eq_true rfl)) (.cons (res_agg rfl rfl (Nat.le_of_ble_eq_true rfl)) .nil)) [0, 4, 5, 6, 7, 8, 9, 13, 12, 14] (by show SV.tup [SV.agg [.val (.int .i64 (makeC n).N), .val (.int .i64 (makeC n).S), .val (.int .i64 (makeC n).T), .slc 4 0 (makeC n).First.length none, .slc 5 0 (makeC n).Head.length none, .slc 6 0 (makeC n).Rev.length none, .slc 7 0 (makeC n).Cap.length none, .slc 8 0 (makeC n).Arc.length none, .slc 9 0 (makeC n).Back.length none], SV.agg [.slc 13 0 (makeC n).Head.length none, .slc 12 0 n.N.toNat none, .slc 14 0 n.N.toNat none]] = SV.tup [SV.agg [.val (.int .i64 (makeC n).N), .val (.int .i64 (makeC n).S), .val (.int .i64 (makeC n).T), .slc 4 0 (makeC n).First.length none, .slc 5 0 (makeC n).Head.length none, .slc 6 0 (makeC n).Rev.length none, .slc 7 0 (makeC n).Cap.length none, .slc 8 0 (makeC n).Arc.length none, .slc 9 0 (makeC n).Back.length none], SV.agg [.slc 13 0 (begP n).Res.length none, .slc 12 0 (begP n).Ex.length none, .slc 14 0 (begP n).H.length none]]; rw [e1, e2, e3]) ⟨shR rfl, shR rfl, shR rfl, shR rfl, shR rfl, shR rfl, shR rfl, shR rfl, shR rfl, shR rfl, trivial⟩ rfl (pre_ok rfl)
  refine w_skip ?_
  refine w_seq ?_
  refine w_block ?_ -- block 1
  refine w_seq ?_
  have ha := h.arc (i := i) (by omega)
  have hx := begX_in h i hi
  have hp := h.part i
  have hp1 := h.part (i + 1)
  rw [capSum_next (by omega)] at hp1
  refine w_region ?_
  refine rw_t 30 rfl rfl rfl (do_move rfl ?_)
  first
    | refine rw_t 31 rfl rfl rfl (do_ixn rfl rfl rfl (by omega) ?_)
    | refine rw_t 31 rfl rfl rfl (do_ix0 rfl rfl rfl (by omega) ?_)
    | refine rw_t 31 rfl rfl rfl (do_ix rfl rfl rfl (by omega) ?_)
  first
    | refine rw_t 32 rfl rfl rfl (do_load_box rfl rfl rfl ?_)
    | refine rw_t 32 rfl rfl rfl (do_load_arr rfl rfl (by first | omega | (simp only [ls]; omega)) rfl ?_)
    | refine rw_t 32 rfl rfl rfl (n_load_boxagg [_, _, _] rfl rfl (Nat.le_of_ble_eq_true rfl) rfl ?_)
    | refine rw_t 32 rfl rfl rfl (n_load_arragg [_, _, _] rfl rfl rfl (by omega) rfl ?_)
  refine rw_t 9 rfl rfl rfl (n_alloc (n := 13) rfl ?_)
  refine rw_t 8 rfl rfl rfl (do_assign rfl ?_)
  first
    | refine rw_u rfl rfl (n_store_box rfl rfl rfl (Nat.le_of_ble_eq_true rfl) rfl ?_)
    | refine rw_u rfl rfl (n_store_arr rfl rfl rfl (by first | omega | (simp only [ls]; omega)) rfl (by decide) rfl ?_)
    | refine rw_u rfl rfl (n_store_whole rfl rfl rfl rfl rfl rfl ?_)
  refine rw_nil ?_
  refine w_seqB 44 ((n.arcs.getD i Arc.none).frm = n.S ∧ (n.arcs.getD i Arc.none).to ≠ n.S) ?_ ?_
  · -- region 7
    refine w_region ?_
    refine rw_t 33 rfl rfl rfl (do_fieldaddr rfl ?_)
    first
      | refine rw_t 34 rfl rfl rfl (do_load_box rfl rfl rfl ?_)
      | refine rw_t 34 rfl rfl rfl (do_load_arr rfl rfl (by first | omega | (simp only [ls]; omega)) rfl ?_)
      | refine rw_t 34 rfl rfl rfl (n_load_boxagg [_] rfl rfl (Nat.le_of_ble_eq_true rfl) rfl ?_)
      | refine rw_t 34 rfl rfl rfl (n_load_arragg [_] rfl rfl rfl (by omega) rfl ?_)
    refine rw_t 35 rfl rfl rfl (do_fieldaddr rfl ?_)
    first
      | refine rw_t 36 rfl rfl rfl (do_load_box rfl rfl rfl ?_)
      | refine rw_t 36 rfl rfl rfl (do_load_arr rfl rfl (by first | omega | (simp only [ls]; omega)) rfl ?_)
      | refine rw_t 36 rfl rfl rfl (n_load_boxagg [_] rfl rfl (Nat.le_of_ble_eq_true rfl) rfl ?_)
      | refine rw_t 36 rfl rfl rfl (n_load_arragg [_] rfl rfl rfl (by omega) rfl ?_)
    refine rw_t 37 rfl rfl rfl (do_bin rfl rfl rfl ?_)
    refine rw_t 38 rfl rfl rfl (do_move rfl ?_)
    refine rw_case 38 rfl (fun g1 => ?_) (fun g1 => ?_)
    · have kg1 := g1
      try simp only [bs] at kg1
      refine rw_gt 39 5 38 true rfl rfl rfl rfl rfl rfl (by first | rfl | assumption | (simp only [bs]; omega) | (simp [*]; done)) (do_fieldaddr rfl ?_)
      first
        | refine rw_gt 40 5 38 true rfl rfl rfl rfl rfl rfl (by first | rfl | assumption | (simp only [bs]; omega) | (simp [*]; done)) (do_load_box rfl rfl rfl ?_)
        | refine rw_gt 40 5 38 true rfl rfl rfl rfl rfl rfl (by first | rfl | assumption | (simp only [bs]; omega) | (simp [*]; done)) (do_load_arr rfl rfl (by first | omega | (simp only [ls]; omega)) rfl ?_)
        | refine rw_gt 40 5 38 true rfl rfl rfl rfl rfl rfl (by first | rfl | assumption | (simp only [bs]; omega) | (simp [*]; done)) (n_load_boxagg [_] rfl rfl (Nat.le_of_ble_eq_true rfl) rfl ?_)
        | refine rw_gt 40 5 38 true rfl rfl rfl rfl rfl rfl (by first | rfl | assumption | (simp only [bs]; omega) | (simp [*]; done)) (n_load_arragg [_] rfl rfl rfl (by omega) rfl ?_)
      refine rw_gt 41 5 38 true rfl rfl rfl rfl rfl rfl (by first | rfl | assumption | (simp only [bs]; omega) | (simp [*]; done)) (do_fieldaddr rfl ?_)
      first
        | refine rw_gt 42 5 38 true rfl rfl rfl rfl rfl rfl (by first | rfl | assumption | (simp only [bs]; omega) | (simp [*]; done)) (do_load_box rfl rfl rfl ?_)
        | refine rw_gt 42 5 38 true rfl rfl rfl rfl rfl rfl (by first | rfl | assumption | (simp only [bs]; omega) | (simp [*]; done)) (do_load_arr rfl rfl (by first | omega | (simp only [ls]; omega)) rfl ?_)
        | refine rw_gt 42 5 38 true rfl rfl rfl rfl rfl rfl (by first | rfl | assumption | (simp only [bs]; omega) | (simp [*]; done)) (n_load_boxagg [_] rfl rfl (Nat.le_of_ble_eq_true rfl) rfl ?_)
        | refine rw_gt 42 5 38 true rfl rfl rfl rfl rfl rfl (by first | rfl | assumption | (simp only [bs]; omega) | (simp [*]; done)) (n_load_arragg [_] rfl rfl rfl (by omega) rfl ?_)
      refine rw_gt 43 5 38 true rfl rfl rfl rfl rfl rfl (by first | rfl | assumption | (simp only [bs]; omega) | (simp [*]; done)) (do_bin rfl rfl rfl ?_)
      refine rw_t 44 rfl rfl rfl (do_pick_t rfl (by first | rfl | assumption | (simp only [bs]; omega) | (simp [*]; done)) rfl ?_)
      refine rw_nil ?_
      refine ⟨rfl, ⟨_, rfl, by first | (simp only [bs]; omega) | (simp; done) | (simp; omega) | (constructor <;> intro h <;> simp_all <;> omega)⟩, ?_⟩
      repeat (refine ⟨⟨_, rfl, rfl⟩, ?_⟩)
      exact trivial
    · have kg1 := g1
      try simp only [bs] at kg1
      refine rw_gf 39 5 38 true rfl rfl rfl rfl rfl rfl (by first | decide | (simp only [bs]; omega) | (simp [*]; done) | (intro h; simp_all)) ?_
      refine rw_gf 40 5 38 true rfl rfl rfl rfl rfl rfl (by first | decide | (simp only [bs]; omega) | (simp [*]; done) | (intro h; simp_all)) ?_
      refine rw_gf 41 5 38 true rfl rfl rfl rfl rfl rfl (by first | decide | (simp only [bs]; omega) | (simp [*]; done) | (intro h; simp_all)) ?_
      refine rw_gf 42 5 38 true rfl rfl rfl rfl rfl rfl (by first | decide | (simp only [bs]; omega) | (simp [*]; done) | (intro h; simp_all)) ?_
      refine rw_gf 43 5 38 true rfl rfl rfl rfl rfl rfl (by first | decide | (simp only [bs]; omega) | (simp [*]; done) | (intro h; simp_all)) ?_
      refine rw_t 44 rfl rfl rfl (do_pick_f rfl (by first | rfl | assumption | (simp only [bs]; omega) | (simp [*]; done)) rfl ?_)
      refine rw_nil ?_
      refine ⟨rfl, ⟨_, rfl, by first | (simp only [bs]; omega) | (simp; done) | (simp; omega) | (constructor <;> intro h <;> simp_all <;> omega)⟩, ?_⟩
      repeat (refine ⟨⟨_, rfl, rfl⟩, ?_⟩)
      exact trivial
  intro b1 hb1
  refine w_condP hb1 rfl (fun hc2 => ?_) (fun hc2 => ?_)
  · refine w_seq ?_
    have hx1 := hx (n.arcs.getD i Arc.none).frm.toNat
    have hx2 := hx (n.arcs.getD i Arc.none).to.toNat
    have hl1 := begX_len n i
    have hl2 := begF_len n i
    refine w_region ?_
    refine rw_t 45 rfl rfl rfl (do_move rfl ?_)
    refine rw_t 46 rfl rfl rfl (do_move rfl ?_)
    refine rw_t 47 rfl rfl rfl (do_fieldaddr rfl ?_)
    first
      | refine rw_t 48 rfl rfl rfl (do_load_box rfl rfl rfl ?_)
      | refine rw_t 48 rfl rfl rfl (do_load_arr rfl rfl (by first | omega | (simp only [ls]; omega)) rfl ?_)
      | refine rw_t 48 rfl rfl rfl (n_load_boxagg [_] rfl rfl (Nat.le_of_ble_eq_true rfl) rfl ?_)
      | refine rw_t 48 rfl rfl rfl (n_load_arragg [_] rfl rfl rfl (by omega) rfl ?_)
    first
      | refine rw_t 49 rfl rfl rfl (do_ixn rfl rfl rfl (by omega) ?_)
      | refine rw_t 49 rfl rfl rfl (do_ix0 rfl rfl rfl (by omega) ?_)
      | refine rw_t 49 rfl rfl rfl (do_ix rfl rfl rfl (by omega) ?_)
    first
      | refine rw_u rfl rfl (n_store_box rfl rfl rfl (Nat.le_of_ble_eq_true rfl) rfl ?_)
      | refine rw_u rfl rfl (n_store_arr rfl rfl rfl (by first | omega | (simp only [ls]; omega)) rfl (by decide) rfl ?_)
      | refine rw_u rfl rfl (n_store_whole rfl rfl rfl rfl rfl rfl ?_)
    refine rw_nil ?_
    refine w_seq ?_
    refine w_draw mixed [0, 0, 2, 7, 15, 0, 32] [127, 255, 511] (by kernel_rfl) (by kernel_rfl) rfl rfl rfl (hle hρ rfl) ?_
    refine ra_q (j := 0) rfl rfl rfl rfl (do_move rfl ⟨rfl, rfl⟩) (by rfl) ?_
    refine ra_q (j := 1) rfl rfl rfl rfl (do_fieldaddr rfl ⟨rfl, rfl⟩) (by rfl) ?_
    first
      | refine ra_q (j := 2) rfl rfl rfl rfl (do_load_box rfl rfl rfl ⟨rfl, rfl⟩) (by rfl) ?_
      | refine ra_q (j := 2) rfl rfl rfl rfl (do_load_arr rfl rfl (by first | omega | (simp only [ls]; omega)) rfl ⟨rfl, rfl⟩) (by rfl) ?_
      | refine ra_q (j := 2) rfl rfl rfl rfl (n_load_boxagg [_] rfl rfl (Nat.le_of_ble_eq_true rfl) rfl ⟨rfl, rfl⟩) (by rfl) ?_
      | refine ra_q (j := 2) rfl rfl rfl rfl (n_load_arragg [_] rfl rfl rfl (by omega) rfl ⟨rfl, rfl⟩) (by rfl) ?_
    first
      | refine ra_q (j := 3) rfl rfl rfl rfl (do_ixn rfl rfl rfl (by omega) ⟨rfl, rfl⟩) (by rfl) ?_
      | refine ra_q (j := 3) rfl rfl rfl rfl (do_ix0 rfl rfl rfl (by omega) ⟨rfl, rfl⟩) (by rfl) ?_
      | refine ra_q (j := 3) rfl rfl rfl rfl (do_ix rfl rfl rfl (by omega) ⟨rfl, rfl⟩) (by rfl) ?_
    first
      | refine ra_q (j := 4) rfl rfl rfl rfl (do_load_box rfl rfl rfl ⟨rfl, rfl⟩) (by rfl) ?_
      | refine ra_q (j := 4) rfl rfl rfl rfl (do_load_arr rfl rfl (by first | omega | (simp only [ls]; omega)) rfl ⟨rfl, rfl⟩) (by rfl) ?_
      | refine ra_q (j := 4) rfl rfl rfl rfl (n_load_boxagg [_] rfl rfl (Nat.le_of_ble_eq_true rfl) rfl ⟨rfl, rfl⟩) (by rfl) ?_
      | refine ra_q (j := 4) rfl rfl rfl rfl (n_load_arragg [_] rfl rfl rfl (by omega) rfl ⟨rfl, rfl⟩) (by rfl) ?_
    refine ra_q (j := 5) rfl rfl rfl rfl (do_fieldaddr rfl ⟨rfl, rfl⟩) (by rfl) ?_
    first
      | refine ra_q (j := 6) rfl rfl rfl rfl (do_load_box rfl rfl rfl ⟨rfl, rfl⟩) (by rfl) ?_
      | refine ra_q (j := 6) rfl rfl rfl rfl (do_load_arr rfl rfl (by first | omega | (simp only [ls]; omega)) rfl ⟨rfl, rfl⟩) (by rfl) ?_
      | refine ra_q (j := 6) rfl rfl rfl rfl (n_load_boxagg [_] rfl rfl (Nat.le_of_ble_eq_true rfl) rfl ⟨rfl, rfl⟩) (by rfl) ?_
      | refine ra_q (j := 6) rfl rfl rfl rfl (n_load_arragg [_] rfl rfl rfl (by omega) rfl ⟨rfl, rfl⟩) (by rfl) ?_
    refine n_done ?_
    refine rw_t 57 rfl rfl rfl (do_sub rfl rfl (by omega) ?_)
    first
      | refine rw_t 58 rfl rfl rfl (do_ixn rfl rfl rfl (by omega) ?_)
      | refine rw_t 58 rfl rfl rfl (do_ix0 rfl rfl rfl (by omega) ?_)
      | refine rw_t 58 rfl rfl rfl (do_ix rfl rfl rfl (by omega) ?_)
    first
      | refine rw_u rfl rfl (n_store_box rfl rfl rfl (Nat.le_of_ble_eq_true rfl) rfl ?_)
      | refine rw_u rfl rfl (n_store_arr rfl rfl rfl (by first | omega | (simp only [ls]; omega)) rfl (by decide) rfl ?_)
      | refine rw_u rfl rfl (n_store_whole rfl rfl rfl rfl rfl rfl ?_)
    refine rw_nil ?_
    have hg : ((begX n i).set (n.arcs.getD i Arc.none).frm.toNat ((begX n i).getD (n.arcs.getD i Arc.none).frm.toNat 0 - (n.arcs.getD i Arc.none).cap)).getD (n.arcs.getD i Arc.none).to.toNat 0 = (begX n i).getD (n.arcs.getD i Arc.none).to.toNat 0 := by rw [getD_set _ _ _ _ (by omega), if_neg (by omega)]
    refine w_draw mixed [0, 0, 2, 7, 15, 0, 32] [127, 255, 511] (by kernel_rfl) (by kernel_rfl) rfl rfl rfl (hle hρ rfl) ?_
    refine ra_q (j := 0) rfl rfl rfl rfl (do_move rfl ⟨rfl, rfl⟩) (by rfl) ?_
    refine ra_q (j := 1) rfl rfl rfl rfl (do_fieldaddr rfl ⟨rfl, rfl⟩) (by rfl) ?_
    first
      | refine ra_q (j := 2) rfl rfl rfl rfl (do_load_box rfl rfl rfl ⟨rfl, rfl⟩) (by rfl) ?_
      | refine ra_q (j := 2) rfl rfl rfl rfl (do_load_arr rfl rfl (by first | omega | (simp only [ls]; omega)) rfl ⟨rfl, rfl⟩) (by rfl) ?_
      | refine ra_q (j := 2) rfl rfl rfl rfl (n_load_boxagg [_] rfl rfl (Nat.le_of_ble_eq_true rfl) rfl ⟨rfl, rfl⟩) (by rfl) ?_
      | refine ra_q (j := 2) rfl rfl rfl rfl (n_load_arragg [_] rfl rfl rfl (by omega) rfl ⟨rfl, rfl⟩) (by rfl) ?_
    first
      | refine ra_q (j := 3) rfl rfl rfl rfl (do_ixn rfl rfl rfl (by omega) ⟨rfl, rfl⟩) (by rfl) ?_
      | refine ra_q (j := 3) rfl rfl rfl rfl (do_ix0 rfl rfl rfl (by omega) ⟨rfl, rfl⟩) (by rfl) ?_
      | refine ra_q (j := 3) rfl rfl rfl rfl (do_ix rfl rfl rfl (by omega) ⟨rfl, rfl⟩) (by rfl) ?_
    first
      | refine ra_q (j := 4) rfl rfl rfl rfl (do_load_box rfl rfl rfl ⟨rfl, rfl⟩) (by rfl) ?_
      | refine ra_q (j := 4) rfl rfl rfl rfl (do_load_arr rfl rfl (by first | omega | (simp only [ls]; omega)) rfl ⟨rfl, rfl⟩) (by rfl) ?_
      | refine ra_q (j := 4) rfl rfl rfl rfl (n_load_boxagg [_] rfl rfl (Nat.le_of_ble_eq_true rfl) rfl ⟨rfl, rfl⟩) (by rfl) ?_
      | refine ra_q (j := 4) rfl rfl rfl rfl (n_load_arragg [_] rfl rfl rfl (by omega) rfl ⟨rfl, rfl⟩) (by rfl) ?_
    refine ra_q (j := 5) rfl rfl rfl rfl (do_fieldaddr rfl ⟨rfl, rfl⟩) (by rfl) ?_
    first
      | refine ra_q (j := 6) rfl rfl rfl rfl (do_load_box rfl rfl rfl ⟨rfl, rfl⟩) (by rfl) ?_
      | refine ra_q (j := 6) rfl rfl rfl rfl (do_load_arr rfl rfl (by first | omega | (simp only [ls]; omega)) rfl ⟨rfl, rfl⟩) (by rfl) ?_
      | refine ra_q (j := 6) rfl rfl rfl rfl (n_load_boxagg [_] rfl rfl (Nat.le_of_ble_eq_true rfl) rfl ⟨rfl, rfl⟩) (by rfl) ?_
      | refine ra_q (j := 6) rfl rfl rfl rfl (n_load_arragg [_] rfl rfl rfl (by omega) rfl ⟨rfl, rfl⟩) (by rfl) ?_
    refine n_done ?_
    refine rw_t 66 rfl rfl rfl (do_add rfl rfl (by omega) ?_)
    first
      | refine rw_t 67 rfl rfl rfl (do_ixn rfl rfl rfl (by omega) ?_)
      | refine rw_t 67 rfl rfl rfl (do_ix0 rfl rfl rfl (by omega) ?_)
      | refine rw_t 67 rfl rfl rfl (do_ix rfl rfl rfl (by omega) ?_)
    first
      | refine rw_u rfl rfl (n_store_box rfl rfl rfl (Nat.le_of_ble_eq_true rfl) rfl ?_)
      | refine rw_u rfl rfl (n_store_arr rfl rfl rfl (by first | omega | (simp only [ls]; omega)) rfl (by decide) rfl ?_)
      | refine rw_u rfl rfl (n_store_whole rfl rfl rfl rfl rfl rfl ?_)
    refine rw_nil ?_
    refine w_region ?_
    refine rw_t 68 rfl rfl rfl (do_add rfl rfl (by omega) ?_)
    refine rw_t 28 rfl rfl rfl (do_move rfl ?_)
    refine rw_nil ?_
    refine ⟨i + 1, [0, 1, 2, 3, 4, 5, 6, 7, 8, 9, 10, 11, 12], by dsimp only; omega, by omega, ⟨shR rfl, shR rfl, shR rfl, shR rfl, shR rfl, shR rfl, shR rfl, shR rfl, shR rfl, shR rfl, shR rfl, .inr ⟨_, rfl, .inl (congrArg (SO.ints true .i64) (if_pos hc2))⟩, .inr ⟨_, rfl, .inl (congrArg (SO.ints true .i64) (if_pos hc2))⟩, trivial⟩, rfl, pre_ok rfl, ⟨⟨_, rfl, rfl⟩, ⟨_, rfl, rfl⟩, ⟨_, rfl, rfl⟩, ⟨_, rfl, rfl⟩, ⟨_, rfl, rfl⟩, ⟨_, rfl, rfl⟩, ⟨_, rfl, rfl⟩, ⟨_, rfl, rfl⟩, ⟨_, rfl, rfl⟩, trivial⟩⟩
  · refine w_skip ?_
    refine w_region ?_
    refine rw_t 68 rfl rfl rfl (do_add rfl rfl (by omega) ?_)
    refine rw_t 28 rfl rfl rfl (do_move rfl ?_)
    refine rw_nil ?_
    refine ⟨i + 1, [0, 1, 2, 3, 4, 5, 6, 7, 8, 9, 10, 11, 12], by dsimp only; omega, by omega, ⟨shR rfl, shR rfl, shR rfl, shR rfl, shR rfl, shR rfl, shR rfl, shR rfl, shR rfl, shR rfl, shR rfl, .inr ⟨_, rfl, .inl (congrArg (SO.ints true .i64) (if_neg hc2))⟩, .inr ⟨_, rfl, .inl (congrArg (SO.ints true .i64) (if_neg hc2))⟩, trivial⟩, rfl, pre_ok rfl, ⟨⟨_, rfl, rfl⟩, ⟨_, rfl, rfl⟩, ⟨_, rfl, rfl⟩, ⟨_, rfl, rfl⟩, ⟨_, rfl, rfl⟩, ⟨_, rfl, rfl⟩, ⟨_, rfl, rfl⟩, ⟨_, rfl, rfl⟩, ⟨_, rfl, rfl⟩, trivial⟩⟩
end Go.Proofs

set_option linter.unusedVariables false
namespace Go.Proofs
open Go Go.Sx Go.RowKit
/-- A move; a move to be made to fit. -/
structure Event where
  who : Int
  what : Int
  u : Int
  arc : Int
  d : Int
  h : Int
  low : Int
abbrev Event.sv (e : Event) : SV := .agg [.val (.int .i64 e.who), .val (.int .u8 e.what), .val (.int .i64 e.u), .val (.int .i64 e.arc), .val (.int .i64 e.d), .val (.int .i64 e.h), .val (.int .i64 e.low)]
structure Act where
  e : Event
  raw : Bool
  fit : Int
abbrev Act.sv (x : Act) : SV := .agg [.val (.int .i64 x.e.who), .val (.int .u8 x.e.what), .val (.int .i64 x.e.u), .val (.int .i64 x.e.arc), .val (.int .i64 x.e.d), .val (.int .i64 x.e.h), .val (.int .i64 x.e.low), .val (.bool x.raw), .val (.int .u8 x.fit)]
/-- A row that is right enough to be walked over. -/
structure CsrOK (c : Csr) : Prop extends CsrLen c where
  s : 0 ≤ c.S ∧ c.S < c.N
  t : 0 ≤ c.T ∧ c.T < c.N
  st : c.S ≠ c.T
  mono : ∀ v, v < c.N.toNat → 0 ≤ c.First.getD v 0 ∧ c.First.getD v 0 ≤ c.First.getD (v + 1) 0 ∧ c.First.getD (v + 1) 0 ≤ c.Head.length
  hd : ∀ a, a < c.Head.length → 0 ≤ c.Head.getD a 0 ∧ c.Head.getD a 0 < c.N
  rv : ∀ a, a < c.Head.length → 0 ≤ c.Rev.getD a 0 ∧ c.Rev.getD a 0 < c.Head.length
  cp : ∀ a, a < c.Head.length → 0 ≤ c.Cap.getD a 0 ∧ 0 ≤ mostOf c a ∧ mostOf c a ≤ 4611686018427387904
/-- A state whose numbers are not too great. -/
structure PreOK (c : Csr) (p : Pre) : Prop where
  res : p.Res.length = c.Head.length
  ex : p.Ex.length = c.N.toNat
  h : p.H.length = c.N.toNat
  resv : ∀ a, a < c.Head.length → 0 ≤ p.Res.getD a 0 ∧ p.Res.getD a 0 ≤ mostOf c a
  exv : ∀ v, v < c.N.toNat → -4611686018427387904 ≤ p.Ex.getD v 0 ∧ p.Ex.getD v 0 ≤ 4611686018427387904
  hv : ∀ v, v < c.N.toNat → 0 ≤ p.H.getD v 0 ∧ p.H.getD v 0 ≤ 8192
def mostD (p : Pre) (u arc : Int) : Int := if p.Res.getD (arc).toNat 0 < (if 0 > p.Ex.getD (u).toNat 0 then 0 else p.Ex.getD (u).toNat 0) then p.Res.getD (arc).toNat 0 else (if 0 > p.Ex.getD (u).toNat 0 then 0 else p.Ex.getD (u).toNat 0)
def halfD (fit d : Int) : Int := if andI .u8 fit 2 ≠ 0 ∧ d > 1 then 1 + d.tdiv 2 else d
def fitE (c : Csr) (p : Pre) (x : Act) : Event :=
  if x.raw = true then x.e else
  let what := IntKind.u8.wrap (1 + andI .u8 x.fit 1)
  let u := Among x.e.u c.N
  if what = 2 then { x.e with what := what, u := u, h := p.H.getD (u).toNat 0 + 1 + Among x.e.h 3 } else
  let many := c.First.getD ((u + 1)).toNat 0 - c.First.getD (u).toNat 0
  let h := p.H.getD (u).toNat 0
  if many > 0 then
    let arc := c.First.getD (u).toNat 0 + Among x.e.arc many
    { x.e with what := what, u := u, arc := arc, d := halfD x.fit (mostD p u arc), h := h, low := h - 1 - Among x.e.low 2 }
  else { x.e with what := what, u := u, h := h, low := h - 1 - Among x.e.low 2 }
end Go.Proofs

set_option linter.unusedVariables false
namespace Go.Proofs
open Go Go.Sx Go.RowKit
set_option maxHeartbeats 8000000 in
theorem t_fitted (c : Csr) (p : Pre) (x : Act) (h : CsrOK c) (hp : PreOK c p) : Tri Try.prog 12 [c.sv 0, p.sv 6, x.sv] [SO.ints false .i64 c.First, SO.ints false .i64 c.Head, SO.ints false .i64 c.Rev, SO.ints false .i64 c.Cap, SO.ints false .i64 c.Arc, SO.bools false c.Back, SO.ints false .i64 p.Res, SO.ints false .i64 p.Ex, SO.ints false .i64 p.H] (fun s H => s = (fitE c p x).sv ∧ H = [SO.ints false .i64 c.First, SO.ints false .i64 c.Head, SO.ints false .i64 c.Rev, SO.ints false .i64 c.Cap, SO.ints false .i64 c.Arc, SO.bools false c.Back, SO.ints false .i64 p.Res, SO.ints false .i64 p.Ex, SO.ints false .i64 p.H]) := by
  refine tri_of_w (fn := Try.f12) Try.func12 rfl (by simp [Try.f12]) ?_
  intro ρ w hρ
  refine w_seq ?_
  have hn := h.n
  have hf := h.first
  have hu0 := among_lo x.e.u c.N
  have hu1 := among_hi x.e.u (n := c.N) (by omega)
  have hm := h.mono (Among x.e.u c.N).toNat (by omega)
  have hmt : ((Among x.e.u c.N) + 1).toNat = (Among x.e.u c.N).toNat + 1 := by omega
  have hhd := h.head
  have hr := hp.res
  have hx := hp.ex
  have hh := hp.h
  have hhv := hp.hv (Among x.e.u c.N).toNat (by omega)
  have hxv := hp.exv (Among x.e.u c.N).toNat (by omega)
  refine w_region ?_
  refine rw_t 3 rfl rfl rfl (n_box_agg (n := 9) rfl  rfl ?_)
  refine rw_t 4 rfl rfl rfl (n_box_agg (n := 10) rfl  rfl ?_)
  refine rw_t 5 rfl rfl rfl (n_box_agg (n := 11) rfl  rfl ?_)
  refine rw_t 6 rfl rfl rfl (n_alloc (n := 12) rfl ?_)
  refine rw_nil ?_
  refine w_seq ?_
  refine w_region ?_
  refine rw_t 9 rfl rfl rfl (do_fieldaddr rfl ?_)
  first
    | refine rw_t 10 rfl rfl rfl (do_load_box rfl rfl rfl ?_)
    | refine rw_t 10 rfl rfl rfl (do_load_arr rfl rfl (by first | omega | (simp only [ls]; omega)) rfl ?_)
    | refine rw_t 10 rfl rfl rfl (n_load_boxagg [_, _, _, _, _, _, _] rfl rfl (Nat.le_of_ble_eq_true rfl) rfl ?_)
    | refine rw_t 10 rfl rfl rfl (n_load_arragg [_, _, _, _, _, _, _] rfl rfl rfl (by omega) rfl ?_)
  refine rw_t 7 rfl rfl rfl (n_alloc (n := 13) rfl ?_)
  first
    | refine rw_u rfl rfl (n_store_box rfl rfl rfl (Nat.le_of_ble_eq_true rfl) rfl ?_)
    | refine rw_u rfl rfl (n_store_arr rfl rfl rfl (by first | omega | (simp only [ls]; omega)) rfl (by decide) rfl ?_)
    | refine rw_u rfl rfl (n_store_whole rfl rfl rfl rfl rfl rfl ?_)
  refine rw_nil ?_
  refine w_seq ?_
  refine w_seq ?_
  refine w_region ?_
  refine rw_t 11 rfl rfl rfl (do_fieldaddr rfl ?_)
  first
    | refine rw_t 12 rfl rfl rfl (do_load_box rfl rfl rfl ?_)
    | refine rw_t 12 rfl rfl rfl (do_load_arr rfl rfl (by first | omega | (simp only [ls]; omega)) rfl ?_)
    | refine rw_t 12 rfl rfl rfl (n_load_boxagg [_] rfl rfl (Nat.le_of_ble_eq_true rfl) rfl ?_)
    | refine rw_t 12 rfl rfl rfl (n_load_arragg [_] rfl rfl rfl (by omega) rfl ?_)
  refine rw_nil ?_
  refine w_cond rfl (fun hc1 => ?_) (fun hc1 => ?_)
  all_goals try simp only [bs] at hc1
  · refine w_seq ?_
    refine w_region ?_
    first
      | refine rw_t 13 rfl rfl rfl (do_load_box rfl rfl rfl ?_)
      | refine rw_t 13 rfl rfl rfl (do_load_arr rfl rfl (by first | omega | (simp only [ls]; omega)) rfl ?_)
      | refine rw_t 13 rfl rfl rfl (n_load_boxagg [_, _, _, _, _, _, _] rfl rfl (Nat.le_of_ble_eq_true rfl) rfl ?_)
      | refine rw_t 13 rfl rfl rfl (n_load_arragg [_, _, _, _, _, _, _] rfl rfl rfl (by omega) rfl ?_)
    first
      | refine rw_u rfl rfl (n_store_box rfl rfl rfl (Nat.le_of_ble_eq_true rfl) rfl ?_)
      | refine rw_u rfl rfl (n_store_arr rfl rfl rfl (by first | omega | (simp only [ls]; omega)) rfl (by decide) rfl ?_)
      | refine rw_u rfl rfl (n_store_whole rfl rfl rfl rfl rfl rfl ?_)
    refine rw_nil ?_
    refine w_ret ?_
    have e : fitE c p x = x.e := if_pos hc1
    exact ret_eq (.inl rfl) (.cons (res_agg rfl rfl (Nat.le_of_ble_eq_true rfl)) .nil) [0, 1, 2, 3, 4, 5, 6, 7, 8] (by rw [e]; rfl) ⟨shR rfl, shR rfl, shR rfl, shR rfl, shR rfl, shR rfl, shR rfl, shR rfl, shR rfl, trivial⟩ rfl (pre_ok rfl)
  refine w_skip ?_
  refine w_seq ?_
  refine w_region ?_
  refine rw_t 14 rfl rfl rfl (do_fieldaddr rfl ?_)
  first
    | refine rw_t 15 rfl rfl rfl (do_load_box rfl rfl rfl ?_)
    | refine rw_t 15 rfl rfl rfl (do_load_arr rfl rfl (by first | omega | (simp only [ls]; omega)) rfl ?_)
    | refine rw_t 15 rfl rfl rfl (n_load_boxagg [_] rfl rfl (Nat.le_of_ble_eq_true rfl) rfl ?_)
    | refine rw_t 15 rfl rfl rfl (n_load_arragg [_] rfl rfl rfl (by omega) rfl ?_)
  refine rw_t 16 rfl rfl rfl (do_and rfl rfl ?_)
  refine rw_t 17 rfl rfl rfl (do_bin rfl rfl rfl ?_)
  refine rw_t 18 rfl rfl rfl (do_fieldaddr rfl ?_)
  first
    | refine rw_u rfl rfl (n_store_box rfl rfl rfl (Nat.le_of_ble_eq_true rfl) rfl ?_)
    | refine rw_u rfl rfl (n_store_arr rfl rfl rfl (by first | omega | (simp only [ls]; omega)) rfl (by decide) rfl ?_)
    | refine rw_u rfl rfl (n_store_whole rfl rfl rfl rfl rfl rfl ?_)
  refine rw_nil ?_
  refine w_seq ?_
  refine w_region ?_
  refine rw_t 19 rfl rfl rfl (do_fieldaddr rfl ?_)
  first
    | refine rw_t 20 rfl rfl rfl (do_load_box rfl rfl rfl ?_)
    | refine rw_t 20 rfl rfl rfl (do_load_arr rfl rfl (by first | omega | (simp only [ls]; omega)) rfl ?_)
    | refine rw_t 20 rfl rfl rfl (n_load_boxagg [_] rfl rfl (Nat.le_of_ble_eq_true rfl) rfl ?_)
    | refine rw_t 20 rfl rfl rfl (n_load_arragg [_] rfl rfl rfl (by omega) rfl ?_)
  refine rw_t 21 rfl rfl rfl (do_fieldaddr rfl ?_)
  first
    | refine rw_t 22 rfl rfl rfl (do_load_box rfl rfl rfl ?_)
    | refine rw_t 22 rfl rfl rfl (do_load_arr rfl rfl (by first | omega | (simp only [ls]; omega)) rfl ?_)
    | refine rw_t 22 rfl rfl rfl (n_load_boxagg [_] rfl rfl (Nat.le_of_ble_eq_true rfl) rfl ?_)
    | refine rw_t 22 rfl rfl rfl (n_load_arragg [_] rfl rfl rfl (by omega) rfl ?_)
  refine rw_t 23 rfl rfl rfl (do_callR (X' := .val (.int .i64 (Among x.e.u c.N))) rfl rfl (t_Among x.e.u c.N (by omega)) [] trivial rfl rfl rfl ?_)
  refine rw_t 24 rfl rfl rfl (do_fieldaddr rfl ?_)
  first
    | refine rw_u rfl rfl (n_store_box rfl rfl rfl (Nat.le_of_ble_eq_true rfl) rfl ?_)
    | refine rw_u rfl rfl (n_store_arr rfl rfl rfl (by first | omega | (simp only [ls]; omega)) rfl (by decide) rfl ?_)
    | refine rw_u rfl rfl (n_store_whole rfl rfl rfl rfl rfl rfl ?_)
  refine rw_nil ?_
  refine w_seq ?_
  refine w_seq ?_
  refine w_region ?_
  refine rw_t 25 rfl rfl rfl (do_fieldaddr rfl ?_)
  first
    | refine rw_t 26 rfl rfl rfl (do_load_box rfl rfl rfl ?_)
    | refine rw_t 26 rfl rfl rfl (do_load_arr rfl rfl (by first | omega | (simp only [ls]; omega)) rfl ?_)
    | refine rw_t 26 rfl rfl rfl (n_load_boxagg [_] rfl rfl (Nat.le_of_ble_eq_true rfl) rfl ?_)
    | refine rw_t 26 rfl rfl rfl (n_load_arragg [_] rfl rfl rfl (by omega) rfl ?_)
  refine rw_t 27 rfl rfl rfl (do_bin rfl rfl rfl ?_)
  refine rw_nil ?_
  refine w_cond rfl (fun hc2 => ?_) (fun hc2 => ?_)
  all_goals try simp only [bs] at hc2
  · refine w_seq ?_
    have h30 := among_lo x.e.h 3
    have h31 := among_hi x.e.h (n := 3) (by omega)
    refine w_draw mixed [0, 1, 0, 4, 15, 31, 63, 0, 128, 384] [1023, 2047, 4095] (by kernel_rfl) (by kernel_rfl) rfl rfl rfl (hle hρ rfl) ?_
    refine ra_q (j := 0) rfl rfl rfl rfl (do_fieldaddr rfl ⟨rfl, rfl⟩) (by rfl) ?_
    first
      | refine ra_q (j := 1) rfl rfl rfl rfl (do_load_box rfl rfl rfl ⟨rfl, rfl⟩) (by rfl) ?_
      | refine ra_q (j := 1) rfl rfl rfl rfl (do_load_arr rfl rfl (by first | omega | (simp only [ls]; omega)) rfl ⟨rfl, rfl⟩) (by rfl) ?_
      | refine ra_q (j := 1) rfl rfl rfl rfl (n_load_boxagg [_] rfl rfl (Nat.le_of_ble_eq_true rfl) rfl ⟨rfl, rfl⟩) (by rfl) ?_
      | refine ra_q (j := 1) rfl rfl rfl rfl (n_load_arragg [_] rfl rfl rfl (by omega) rfl ⟨rfl, rfl⟩) (by rfl) ?_
    refine ra_q (j := 2) rfl rfl rfl rfl (do_fieldaddr rfl ⟨rfl, rfl⟩) (by rfl) ?_
    first
      | refine ra_q (j := 3) rfl rfl rfl rfl (do_load_box rfl rfl rfl ⟨rfl, rfl⟩) (by rfl) ?_
      | refine ra_q (j := 3) rfl rfl rfl rfl (do_load_arr rfl rfl (by first | omega | (simp only [ls]; omega)) rfl ⟨rfl, rfl⟩) (by rfl) ?_
      | refine ra_q (j := 3) rfl rfl rfl rfl (n_load_boxagg [_] rfl rfl (Nat.le_of_ble_eq_true rfl) rfl ⟨rfl, rfl⟩) (by rfl) ?_
      | refine ra_q (j := 3) rfl rfl rfl rfl (n_load_arragg [_] rfl rfl rfl (by omega) rfl ⟨rfl, rfl⟩) (by rfl) ?_
    first
      | refine ra_q (j := 4) rfl rfl rfl rfl (do_ixn rfl rfl rfl (by omega) ⟨rfl, rfl⟩) (by rfl) ?_
      | refine ra_q (j := 4) rfl rfl rfl rfl (do_ix0 rfl rfl rfl (by omega) ⟨rfl, rfl⟩) (by rfl) ?_
      | refine ra_q (j := 4) rfl rfl rfl rfl (do_ix rfl rfl rfl (by omega) ⟨rfl, rfl⟩) (by rfl) ?_
    first
      | refine ra_q (j := 5) rfl rfl rfl rfl (do_load_box rfl rfl rfl ⟨rfl, rfl⟩) (by rfl) ?_
      | refine ra_q (j := 5) rfl rfl rfl rfl (do_load_arr rfl rfl (by first | omega | (simp only [ls]; omega)) rfl ⟨rfl, rfl⟩) (by rfl) ?_
      | refine ra_q (j := 5) rfl rfl rfl rfl (n_load_boxagg [_] rfl rfl (Nat.le_of_ble_eq_true rfl) rfl ⟨rfl, rfl⟩) (by rfl) ?_
      | refine ra_q (j := 5) rfl rfl rfl rfl (n_load_arragg [_] rfl rfl rfl (by omega) rfl ⟨rfl, rfl⟩) (by rfl) ?_
    refine ra_q (j := 6) rfl rfl rfl rfl (do_add rfl rfl (by omega) ⟨rfl, rfl⟩) (by rfl) ?_
    refine ra_q (j := 7) rfl rfl rfl rfl (do_fieldaddr rfl ⟨rfl, rfl⟩) (by rfl) ?_
    first
      | refine ra_q (j := 8) rfl rfl rfl rfl (do_load_box rfl rfl rfl ⟨rfl, rfl⟩) (by rfl) ?_
      | refine ra_q (j := 8) rfl rfl rfl rfl (do_load_arr rfl rfl (by first | omega | (simp only [ls]; omega)) rfl ⟨rfl, rfl⟩) (by rfl) ?_
      | refine ra_q (j := 8) rfl rfl rfl rfl (n_load_boxagg [_] rfl rfl (Nat.le_of_ble_eq_true rfl) rfl ⟨rfl, rfl⟩) (by rfl) ?_
      | refine ra_q (j := 8) rfl rfl rfl rfl (n_load_arragg [_] rfl rfl rfl (by omega) rfl ⟨rfl, rfl⟩) (by rfl) ?_
    refine ra_q (j := 9) rfl rfl rfl rfl (do_callR (X' := .val (.int .i64 (Among x.e.h 3))) rfl rfl (t_Among x.e.h 3 (by omega)) [] trivial rfl rfl rfl ⟨rfl, rfl⟩) (by rfl) ?_
    refine n_done ?_
    refine rw_t 38 rfl rfl rfl (do_add rfl rfl (by omega) ?_)
    refine rw_t 39 rfl rfl rfl (do_fieldaddr rfl ?_)
    first
      | refine rw_u rfl rfl (n_store_box rfl rfl rfl (Nat.le_of_ble_eq_true rfl) rfl ?_)
      | refine rw_u rfl rfl (n_store_arr rfl rfl rfl (by first | omega | (simp only [ls]; omega)) rfl (by decide) rfl ?_)
      | refine rw_u rfl rfl (n_store_whole rfl rfl rfl rfl rfl rfl ?_)
    refine rw_nil ?_
    refine w_seq ?_
    refine w_region ?_
    first
      | refine rw_t 40 rfl rfl rfl (do_load_box rfl rfl rfl ?_)
      | refine rw_t 40 rfl rfl rfl (do_load_arr rfl rfl (by first | omega | (simp only [ls]; omega)) rfl ?_)
      | refine rw_t 40 rfl rfl rfl (n_load_boxagg [_, _, _, _, _, _, _] rfl rfl (Nat.le_of_ble_eq_true rfl) rfl ?_)
      | refine rw_t 40 rfl rfl rfl (n_load_arragg [_, _, _, _, _, _, _] rfl rfl rfl (by omega) rfl ?_)
    first
      | refine rw_u rfl rfl (n_store_box rfl rfl rfl (Nat.le_of_ble_eq_true rfl) rfl ?_)
      | refine rw_u rfl rfl (n_store_arr rfl rfl rfl (by first | omega | (simp only [ls]; omega)) rfl (by decide) rfl ?_)
      | refine rw_u rfl rfl (n_store_whole rfl rfl rfl rfl rfl rfl ?_)
    refine rw_nil ?_
    refine w_ret ?_
    have e : fitE c p x = ⟨x.e.who, (IntKind.u8.wrap (1 + andI .u8 x.fit 1)), (Among x.e.u c.N), x.e.arc, x.e.d, p.H.getD ((Among x.e.u c.N)).toNat 0 + 1 + Among x.e.h 3, x.e.low⟩ := by
      unfold fitE; rw [if_neg (by rw [hc1]; decide)]; dsimp only; rw [if_pos hc2]
    exact ret_eq (.inl rfl) (.cons (res_agg rfl rfl (Nat.le_of_ble_eq_true rfl)) .nil) [0, 1, 2, 3, 4, 5, 6, 7, 8] (by rw [e]; rfl) ⟨shR rfl, shR rfl, shR rfl, shR rfl, shR rfl, shR rfl, shR rfl, shR rfl, shR rfl, trivial⟩ rfl (pre_ok rfl)
  refine w_skip ?_
  refine w_midS (ι := Int × Int) (fun q => [(3, .ptr 9 0 0), (4, .ptr 10 0 0), (5, .ptr 11 0 0), (6, .ptr 12 0 0), (7, .ptr 13 0 0)]) (fun q => [SO.ints false .i64 c.First, SO.ints false .i64 c.Head, SO.ints false .i64 c.Rev, SO.ints false .i64 c.Cap, SO.ints false .i64 c.Arc, SO.bools false c.Back, SO.ints false .i64 p.Res, SO.ints false .i64 p.Ex, SO.ints false .i64 p.H, .box [.val (.int .i64 c.N), .val (.int .i64 c.S), .val (.int .i64 c.T), .slc 0 0 c.First.length none, .slc 1 0 c.Head.length none, .slc 2 0 c.Rev.length none, .slc 3 0 c.Cap.length none, .slc 4 0 c.Arc.length none, .slc 5 0 c.Back.length none], .box [.slc 6 0 p.Res.length none, .slc 7 0 p.Ex.length none, .slc 8 0 p.H.length none], .box [.val (.int .i64 x.e.who), .val (.int .u8 x.e.what), .val (.int .i64 x.e.u), .val (.int .i64 x.e.arc), .val (.int .i64 x.e.d), .val (.int .i64 x.e.h), .val (.int .i64 x.e.low), .val (.bool x.raw), .val (.int .u8 x.fit)], .box [.val (.int .i64 0), .val (.int .u8 0), .val (.int .i64 0), .val (.int .i64 0), .val (.int .i64 0), .val (.int .i64 0), .val (.int .i64 0)], .box [.val (.int .i64 x.e.who), .val (.int .u8 (IntKind.u8.wrap (1 + andI .u8 x.fit 1))), .val (.int .i64 (Among x.e.u c.N)), .val (.int .i64 q.1), .val (.int .i64 q.2), .val (.int .i64 x.e.h), .val (.int .i64 x.e.low)]]) (fun q => q = if (c.First.getD ((Among x.e.u c.N) + 1).toNat 0 - c.First.getD ((Among x.e.u c.N)).toNat 0) > 0 then ((c.First.getD ((Among x.e.u c.N)).toNat 0 + Among x.e.arc (c.First.getD ((Among x.e.u c.N) + 1).toNat 0 - c.First.getD ((Among x.e.u c.N)).toNat 0)), halfD x.fit (mostD p (Among x.e.u c.N) (c.First.getD ((Among x.e.u c.N)).toNat 0 + Among x.e.arc (c.First.getD ((Among x.e.u c.N) + 1).toNat 0 - c.First.getD ((Among x.e.u c.N)).toNat 0)))) else (x.e.arc, x.e.d)) hρ ?_ ?_
  · refine w_seq ?_
    rw [← hmt] at hm
    refine w_draw mixed [0, 1, 0, 4, 12, 31, 63, 0, 128, 0, 512, 1920, 3968] [8191, 16383] (by kernel_rfl) (by kernel_rfl) rfl rfl rfl (hle hρ rfl) ?_
    refine ra_q (j := 0) rfl rfl rfl rfl (do_fieldaddr rfl ⟨rfl, rfl⟩) (by rfl) ?_
    first
      | refine ra_q (j := 1) rfl rfl rfl rfl (do_load_box rfl rfl rfl ⟨rfl, rfl⟩) (by rfl) ?_
      | refine ra_q (j := 1) rfl rfl rfl rfl (do_load_arr rfl rfl (by first | omega | (simp only [ls]; omega)) rfl ⟨rfl, rfl⟩) (by rfl) ?_
      | refine ra_q (j := 1) rfl rfl rfl rfl (n_load_boxagg [_] rfl rfl (Nat.le_of_ble_eq_true rfl) rfl ⟨rfl, rfl⟩) (by rfl) ?_
      | refine ra_q (j := 1) rfl rfl rfl rfl (n_load_arragg [_] rfl rfl rfl (by omega) rfl ⟨rfl, rfl⟩) (by rfl) ?_
    refine ra_q (j := 2) rfl rfl rfl rfl (do_fieldaddr rfl ⟨rfl, rfl⟩) (by rfl) ?_
    first
      | refine ra_q (j := 3) rfl rfl rfl rfl (do_load_box rfl rfl rfl ⟨rfl, rfl⟩) (by rfl) ?_
      | refine ra_q (j := 3) rfl rfl rfl rfl (do_load_arr rfl rfl (by first | omega | (simp only [ls]; omega)) rfl ⟨rfl, rfl⟩) (by rfl) ?_
      | refine ra_q (j := 3) rfl rfl rfl rfl (n_load_boxagg [_] rfl rfl (Nat.le_of_ble_eq_true rfl) rfl ⟨rfl, rfl⟩) (by rfl) ?_
      | refine ra_q (j := 3) rfl rfl rfl rfl (n_load_arragg [_] rfl rfl rfl (by omega) rfl ⟨rfl, rfl⟩) (by rfl) ?_
    refine ra_q (j := 4) rfl rfl rfl rfl (do_add rfl rfl (by omega) ⟨rfl, rfl⟩) (by rfl) ?_
    first
      | refine ra_q (j := 5) rfl rfl rfl rfl (do_ixn rfl rfl rfl (by omega) ⟨rfl, rfl⟩) (by rfl) ?_
      | refine ra_q (j := 5) rfl rfl rfl rfl (do_ix0 rfl rfl rfl (by omega) ⟨rfl, rfl⟩) (by rfl) ?_
      | refine ra_q (j := 5) rfl rfl rfl rfl (do_ix rfl rfl rfl (by omega) ⟨rfl, rfl⟩) (by rfl) ?_
    first
      | refine ra_q (j := 6) rfl rfl rfl rfl (do_load_box rfl rfl rfl ⟨rfl, rfl⟩) (by rfl) ?_
      | refine ra_q (j := 6) rfl rfl rfl rfl (do_load_arr rfl rfl (by first | omega | (simp only [ls]; omega)) rfl ⟨rfl, rfl⟩) (by rfl) ?_
      | refine ra_q (j := 6) rfl rfl rfl rfl (n_load_boxagg [_] rfl rfl (Nat.le_of_ble_eq_true rfl) rfl ⟨rfl, rfl⟩) (by rfl) ?_
      | refine ra_q (j := 6) rfl rfl rfl rfl (n_load_arragg [_] rfl rfl rfl (by omega) rfl ⟨rfl, rfl⟩) (by rfl) ?_
    refine ra_q (j := 7) rfl rfl rfl rfl (do_fieldaddr rfl ⟨rfl, rfl⟩) (by rfl) ?_
    first
      | refine ra_q (j := 8) rfl rfl rfl rfl (do_load_box rfl rfl rfl ⟨rfl, rfl⟩) (by rfl) ?_
      | refine ra_q (j := 8) rfl rfl rfl rfl (do_load_arr rfl rfl (by first | omega | (simp only [ls]; omega)) rfl ⟨rfl, rfl⟩) (by rfl) ?_
      | refine ra_q (j := 8) rfl rfl rfl rfl (n_load_boxagg [_] rfl rfl (Nat.le_of_ble_eq_true rfl) rfl ⟨rfl, rfl⟩) (by rfl) ?_
      | refine ra_q (j := 8) rfl rfl rfl rfl (n_load_arragg [_] rfl rfl rfl (by omega) rfl ⟨rfl, rfl⟩) (by rfl) ?_
    refine ra_q (j := 9) rfl rfl rfl rfl (do_fieldaddr rfl ⟨rfl, rfl⟩) (by rfl) ?_
    first
      | refine ra_q (j := 10) rfl rfl rfl rfl (do_load_box rfl rfl rfl ⟨rfl, rfl⟩) (by rfl) ?_
      | refine ra_q (j := 10) rfl rfl rfl rfl (do_load_arr rfl rfl (by first | omega | (simp only [ls]; omega)) rfl ⟨rfl, rfl⟩) (by rfl) ?_
      | refine ra_q (j := 10) rfl rfl rfl rfl (n_load_boxagg [_] rfl rfl (Nat.le_of_ble_eq_true rfl) rfl ⟨rfl, rfl⟩) (by rfl) ?_
      | refine ra_q (j := 10) rfl rfl rfl rfl (n_load_arragg [_] rfl rfl rfl (by omega) rfl ⟨rfl, rfl⟩) (by rfl) ?_
    first
      | refine ra_q (j := 11) rfl rfl rfl rfl (do_ixn rfl rfl rfl (by omega) ⟨rfl, rfl⟩) (by rfl) ?_
      | refine ra_q (j := 11) rfl rfl rfl rfl (do_ix0 rfl rfl rfl (by omega) ⟨rfl, rfl⟩) (by rfl) ?_
      | refine ra_q (j := 11) rfl rfl rfl rfl (do_ix rfl rfl rfl (by omega) ⟨rfl, rfl⟩) (by rfl) ?_
    first
      | refine ra_q (j := 12) rfl rfl rfl rfl (do_load_box rfl rfl rfl ⟨rfl, rfl⟩) (by rfl) ?_
      | refine ra_q (j := 12) rfl rfl rfl rfl (do_load_arr rfl rfl (by first | omega | (simp only [ls]; omega)) rfl ⟨rfl, rfl⟩) (by rfl) ?_
      | refine ra_q (j := 12) rfl rfl rfl rfl (n_load_boxagg [_] rfl rfl (Nat.le_of_ble_eq_true rfl) rfl ⟨rfl, rfl⟩) (by rfl) ?_
      | refine ra_q (j := 12) rfl rfl rfl rfl (n_load_arragg [_] rfl rfl rfl (by omega) rfl ⟨rfl, rfl⟩) (by rfl) ?_
    refine n_done ?_
    refine rw_t 54 rfl rfl rfl (do_sub rfl rfl (by omega) ?_)
    refine rw_as (.val (.int .i64 ((c.First.getD ((Among x.e.u c.N) + 1).toNat 0 - c.First.getD ((Among x.e.u c.N)).toNat 0)))) (rfl) ?_
    refine rw_t 8 rfl rfl rfl (do_assign rfl ?_)
    refine rw_nil ?_
    refine w_seq ?_
    refine w_region ?_
    refine rw_t 55 rfl rfl rfl (do_move rfl ?_)
    refine rw_t 56 rfl rfl rfl (do_bin rfl rfl rfl ?_)
    refine rw_nil ?_
    refine w_cond rfl (fun hc3 => ?_) (fun hc3 => ?_)
    all_goals try simp only [bs] at hc3
    · refine w_seq ?_
      have ha0 := among_lo x.e.arc (c.First.getD ((Among x.e.u c.N) + 1).toNat 0 - c.First.getD ((Among x.e.u c.N)).toNat 0)
      have ha1 := among_hi x.e.arc (n := (c.First.getD ((Among x.e.u c.N) + 1).toNat 0 - c.First.getD ((Among x.e.u c.N)).toNat 0)) (by omega)
      refine w_draw mixed [0, 1, 0, 4, 15, 31, 0, 64, 0, 448] [1023, 2047, 4095] (by kernel_rfl) (by kernel_rfl) rfl rfl rfl (hle hρ rfl) ?_
      refine ra_q (j := 0) rfl rfl rfl rfl (do_fieldaddr rfl ⟨rfl, rfl⟩) (by rfl) ?_
      first
        | refine ra_q (j := 1) rfl rfl rfl rfl (do_load_box rfl rfl rfl ⟨rfl, rfl⟩) (by rfl) ?_
        | refine ra_q (j := 1) rfl rfl rfl rfl (do_load_arr rfl rfl (by first | omega | (simp only [ls]; omega)) rfl ⟨rfl, rfl⟩) (by rfl) ?_
        | refine ra_q (j := 1) rfl rfl rfl rfl (n_load_boxagg [_] rfl rfl (Nat.le_of_ble_eq_true rfl) rfl ⟨rfl, rfl⟩) (by rfl) ?_
        | refine ra_q (j := 1) rfl rfl rfl rfl (n_load_arragg [_] rfl rfl rfl (by omega) rfl ⟨rfl, rfl⟩) (by rfl) ?_
      refine ra_q (j := 2) rfl rfl rfl rfl (do_fieldaddr rfl ⟨rfl, rfl⟩) (by rfl) ?_
      first
        | refine ra_q (j := 3) rfl rfl rfl rfl (do_load_box rfl rfl rfl ⟨rfl, rfl⟩) (by rfl) ?_
        | refine ra_q (j := 3) rfl rfl rfl rfl (do_load_arr rfl rfl (by first | omega | (simp only [ls]; omega)) rfl ⟨rfl, rfl⟩) (by rfl) ?_
        | refine ra_q (j := 3) rfl rfl rfl rfl (n_load_boxagg [_] rfl rfl (Nat.le_of_ble_eq_true rfl) rfl ⟨rfl, rfl⟩) (by rfl) ?_
        | refine ra_q (j := 3) rfl rfl rfl rfl (n_load_arragg [_] rfl rfl rfl (by omega) rfl ⟨rfl, rfl⟩) (by rfl) ?_
      first
        | refine ra_q (j := 4) rfl rfl rfl rfl (do_ixn rfl rfl rfl (by omega) ⟨rfl, rfl⟩) (by rfl) ?_
        | refine ra_q (j := 4) rfl rfl rfl rfl (do_ix0 rfl rfl rfl (by omega) ⟨rfl, rfl⟩) (by rfl) ?_
        | refine ra_q (j := 4) rfl rfl rfl rfl (do_ix rfl rfl rfl (by omega) ⟨rfl, rfl⟩) (by rfl) ?_
      first
        | refine ra_q (j := 5) rfl rfl rfl rfl (do_load_box rfl rfl rfl ⟨rfl, rfl⟩) (by rfl) ?_
        | refine ra_q (j := 5) rfl rfl rfl rfl (do_load_arr rfl rfl (by first | omega | (simp only [ls]; omega)) rfl ⟨rfl, rfl⟩) (by rfl) ?_
        | refine ra_q (j := 5) rfl rfl rfl rfl (n_load_boxagg [_] rfl rfl (Nat.le_of_ble_eq_true rfl) rfl ⟨rfl, rfl⟩) (by rfl) ?_
        | refine ra_q (j := 5) rfl rfl rfl rfl (n_load_arragg [_] rfl rfl rfl (by omega) rfl ⟨rfl, rfl⟩) (by rfl) ?_
      refine ra_q (j := 6) rfl rfl rfl rfl (do_fieldaddr rfl ⟨rfl, rfl⟩) (by rfl) ?_
      first
        | refine ra_q (j := 7) rfl rfl rfl rfl (do_load_box rfl rfl rfl ⟨rfl, rfl⟩) (by rfl) ?_
        | refine ra_q (j := 7) rfl rfl rfl rfl (do_load_arr rfl rfl (by first | omega | (simp only [ls]; omega)) rfl ⟨rfl, rfl⟩) (by rfl) ?_
        | refine ra_q (j := 7) rfl rfl rfl rfl (n_load_boxagg [_] rfl rfl (Nat.le_of_ble_eq_true rfl) rfl ⟨rfl, rfl⟩) (by rfl) ?_
        | refine ra_q (j := 7) rfl rfl rfl rfl (n_load_arragg [_] rfl rfl rfl (by omega) rfl ⟨rfl, rfl⟩) (by rfl) ?_
      refine ra_q (j := 8) rfl rfl rfl rfl (do_move rfl ⟨rfl, rfl⟩) (by rfl) ?_
      refine ra_q (j := 9) rfl rfl rfl rfl (do_callR (X' := .val (.int .i64 (Among x.e.arc (c.First.getD ((Among x.e.u c.N) + 1).toNat 0 - c.First.getD ((Among x.e.u c.N)).toNat 0)))) rfl rfl (t_Among x.e.arc (c.First.getD ((Among x.e.u c.N) + 1).toNat 0 - c.First.getD ((Among x.e.u c.N)).toNat 0) (by omega)) [] trivial rfl rfl rfl ⟨rfl, rfl⟩) (by rfl) ?_
      refine n_done ?_
      refine rw_t 67 rfl rfl rfl (do_add rfl rfl (by omega) ?_)
      refine rw_t 68 rfl rfl rfl (do_fieldaddr rfl ?_)
      first
        | refine rw_u rfl rfl (n_store_box rfl rfl rfl (Nat.le_of_ble_eq_true rfl) rfl ?_)
        | refine rw_u rfl rfl (n_store_arr rfl rfl rfl (by first | omega | (simp only [ls]; omega)) rfl (by decide) rfl ?_)
        | refine rw_u rfl rfl (n_store_whole rfl rfl rfl rfl rfl rfl ?_)
      refine rw_nil ?_
      refine w_seq ?_
      have hrv := hp.resv (c.First.getD ((Among x.e.u c.N)).toNat 0 + Among x.e.arc (c.First.getD ((Among x.e.u c.N) + 1).toNat 0 - c.First.getD ((Among x.e.u c.N)).toNat 0)).toNat (by omega)
      have hcp := h.cp (c.First.getD ((Among x.e.u c.N)).toNat 0 + Among x.e.arc (c.First.getD ((Among x.e.u c.N) + 1).toNat 0 - c.First.getD ((Among x.e.u c.N)).toNat 0)).toNat (by omega)
      refine w_draw mixed [0, 1, 0, 4, 15, 31, 63, 0, 128, 0, 512, 1920, 3968] [8191, 16383, 32767] (by kernel_rfl) (by kernel_rfl) rfl rfl rfl (hle hρ rfl) ?_
      refine ra_q (j := 0) rfl rfl rfl rfl (do_fieldaddr rfl ⟨rfl, rfl⟩) (by rfl) ?_
      first
        | refine ra_q (j := 1) rfl rfl rfl rfl (do_load_box rfl rfl rfl ⟨rfl, rfl⟩) (by rfl) ?_
        | refine ra_q (j := 1) rfl rfl rfl rfl (do_load_arr rfl rfl (by first | omega | (simp only [ls]; omega)) rfl ⟨rfl, rfl⟩) (by rfl) ?_
        | refine ra_q (j := 1) rfl rfl rfl rfl (n_load_boxagg [_] rfl rfl (Nat.le_of_ble_eq_true rfl) rfl ⟨rfl, rfl⟩) (by rfl) ?_
        | refine ra_q (j := 1) rfl rfl rfl rfl (n_load_arragg [_] rfl rfl rfl (by omega) rfl ⟨rfl, rfl⟩) (by rfl) ?_
      refine ra_q (j := 2) rfl rfl rfl rfl (do_fieldaddr rfl ⟨rfl, rfl⟩) (by rfl) ?_
      first
        | refine ra_q (j := 3) rfl rfl rfl rfl (do_load_box rfl rfl rfl ⟨rfl, rfl⟩) (by rfl) ?_
        | refine ra_q (j := 3) rfl rfl rfl rfl (do_load_arr rfl rfl (by first | omega | (simp only [ls]; omega)) rfl ⟨rfl, rfl⟩) (by rfl) ?_
        | refine ra_q (j := 3) rfl rfl rfl rfl (n_load_boxagg [_] rfl rfl (Nat.le_of_ble_eq_true rfl) rfl ⟨rfl, rfl⟩) (by rfl) ?_
        | refine ra_q (j := 3) rfl rfl rfl rfl (n_load_arragg [_] rfl rfl rfl (by omega) rfl ⟨rfl, rfl⟩) (by rfl) ?_
      first
        | refine ra_q (j := 4) rfl rfl rfl rfl (do_ixn rfl rfl rfl (by omega) ⟨rfl, rfl⟩) (by rfl) ?_
        | refine ra_q (j := 4) rfl rfl rfl rfl (do_ix0 rfl rfl rfl (by omega) ⟨rfl, rfl⟩) (by rfl) ?_
        | refine ra_q (j := 4) rfl rfl rfl rfl (do_ix rfl rfl rfl (by omega) ⟨rfl, rfl⟩) (by rfl) ?_
      first
        | refine ra_q (j := 5) rfl rfl rfl rfl (do_load_box rfl rfl rfl ⟨rfl, rfl⟩) (by rfl) ?_
        | refine ra_q (j := 5) rfl rfl rfl rfl (do_load_arr rfl rfl (by first | omega | (simp only [ls]; omega)) rfl ⟨rfl, rfl⟩) (by rfl) ?_
        | refine ra_q (j := 5) rfl rfl rfl rfl (n_load_boxagg [_] rfl rfl (Nat.le_of_ble_eq_true rfl) rfl ⟨rfl, rfl⟩) (by rfl) ?_
        | refine ra_q (j := 5) rfl rfl rfl rfl (n_load_arragg [_] rfl rfl rfl (by omega) rfl ⟨rfl, rfl⟩) (by rfl) ?_
      refine ra_q (j := 6) rfl rfl rfl rfl (do_max rfl rfl ⟨rfl, rfl⟩) (by rfl) ?_
      refine ra_q (j := 7) rfl rfl rfl rfl (do_fieldaddr rfl ⟨rfl, rfl⟩) (by rfl) ?_
      first
        | refine ra_q (j := 8) rfl rfl rfl rfl (do_load_box rfl rfl rfl ⟨rfl, rfl⟩) (by rfl) ?_
        | refine ra_q (j := 8) rfl rfl rfl rfl (do_load_arr rfl rfl (by first | omega | (simp only [ls]; omega)) rfl ⟨rfl, rfl⟩) (by rfl) ?_
        | refine ra_q (j := 8) rfl rfl rfl rfl (n_load_boxagg [_] rfl rfl (Nat.le_of_ble_eq_true rfl) rfl ⟨rfl, rfl⟩) (by rfl) ?_
        | refine ra_q (j := 8) rfl rfl rfl rfl (n_load_arragg [_] rfl rfl rfl (by omega) rfl ⟨rfl, rfl⟩) (by rfl) ?_
      refine ra_q (j := 9) rfl rfl rfl rfl (do_fieldaddr rfl ⟨rfl, rfl⟩) (by rfl) ?_
      first
        | refine ra_q (j := 10) rfl rfl rfl rfl (do_load_box rfl rfl rfl ⟨rfl, rfl⟩) (by rfl) ?_
        | refine ra_q (j := 10) rfl rfl rfl rfl (do_load_arr rfl rfl (by first | omega | (simp only [ls]; omega)) rfl ⟨rfl, rfl⟩) (by rfl) ?_
        | refine ra_q (j := 10) rfl rfl rfl rfl (n_load_boxagg [_] rfl rfl (Nat.le_of_ble_eq_true rfl) rfl ⟨rfl, rfl⟩) (by rfl) ?_
        | refine ra_q (j := 10) rfl rfl rfl rfl (n_load_arragg [_] rfl rfl rfl (by omega) rfl ⟨rfl, rfl⟩) (by rfl) ?_
      first
        | refine ra_q (j := 11) rfl rfl rfl rfl (do_ixn rfl rfl rfl (by omega) ⟨rfl, rfl⟩) (by rfl) ?_
        | refine ra_q (j := 11) rfl rfl rfl rfl (do_ix0 rfl rfl rfl (by omega) ⟨rfl, rfl⟩) (by rfl) ?_
        | refine ra_q (j := 11) rfl rfl rfl rfl (do_ix rfl rfl rfl (by omega) ⟨rfl, rfl⟩) (by rfl) ?_
      first
        | refine ra_q (j := 12) rfl rfl rfl rfl (do_load_box rfl rfl rfl ⟨rfl, rfl⟩) (by rfl) ?_
        | refine ra_q (j := 12) rfl rfl rfl rfl (do_load_arr rfl rfl (by first | omega | (simp only [ls]; omega)) rfl ⟨rfl, rfl⟩) (by rfl) ?_
        | refine ra_q (j := 12) rfl rfl rfl rfl (n_load_boxagg [_] rfl rfl (Nat.le_of_ble_eq_true rfl) rfl ⟨rfl, rfl⟩) (by rfl) ?_
        | refine ra_q (j := 12) rfl rfl rfl rfl (n_load_arragg [_] rfl rfl rfl (by omega) rfl ⟨rfl, rfl⟩) (by rfl) ?_
      refine n_done ?_
      refine rw_t 82 rfl rfl rfl (do_min rfl rfl ?_)
      refine rw_t 83 rfl rfl rfl (do_fieldaddr rfl ?_)
      first
        | refine rw_u rfl rfl (n_store_box rfl rfl rfl (Nat.le_of_ble_eq_true rfl) rfl ?_)
        | refine rw_u rfl rfl (n_store_arr rfl rfl rfl (by first | omega | (simp only [ls]; omega)) rfl (by decide) rfl ?_)
        | refine rw_u rfl rfl (n_store_whole rfl rfl rfl rfl rfl rfl ?_)
      refine rw_nil ?_
      refine w_seqB 92 (andI .u8 x.fit 2 ≠ 0 ∧ (if p.Res.getD ((c.First.getD ((Among x.e.u c.N)).toNat 0 + Among x.e.arc (c.First.getD ((Among x.e.u c.N) + 1).toNat 0 - c.First.getD ((Among x.e.u c.N)).toNat 0))).toNat 0 < (if 0 > p.Ex.getD ((Among x.e.u c.N)).toNat 0 then 0 else p.Ex.getD ((Among x.e.u c.N)).toNat 0) then p.Res.getD ((c.First.getD ((Among x.e.u c.N)).toNat 0 + Among x.e.arc (c.First.getD ((Among x.e.u c.N) + 1).toNat 0 - c.First.getD ((Among x.e.u c.N)).toNat 0))).toNat 0 else (if 0 > p.Ex.getD ((Among x.e.u c.N)).toNat 0 then 0 else p.Ex.getD ((Among x.e.u c.N)).toNat 0)) > 1) ?_ ?_
      · -- region 13
        refine w_region ?_
        refine rw_t 84 rfl rfl rfl (do_fieldaddr rfl ?_)
        first
          | refine rw_t 85 rfl rfl rfl (do_load_box rfl rfl rfl ?_)
          | refine rw_t 85 rfl rfl rfl (do_load_arr rfl rfl (by first | omega | (simp only [ls]; omega)) rfl ?_)
          | refine rw_t 85 rfl rfl rfl (n_load_boxagg [_] rfl rfl (Nat.le_of_ble_eq_true rfl) rfl ?_)
          | refine rw_t 85 rfl rfl rfl (n_load_arragg [_] rfl rfl rfl (by omega) rfl ?_)
        refine rw_t 86 rfl rfl rfl (do_and rfl rfl ?_)
        refine rw_t 87 rfl rfl rfl (do_bin rfl rfl rfl ?_)
        refine rw_t 88 rfl rfl rfl (do_move rfl ?_)
        refine rw_case 88 rfl (fun g1 => ?_) (fun g1 => ?_)
        · have kg1 := g1
          try simp only [bs] at kg1
          refine rw_gt 89 4 88 true rfl rfl rfl rfl rfl rfl (by first | rfl | assumption | (simp only [bs]; omega) | (simp [*]; done)) (do_fieldaddr rfl ?_)
          first
            | refine rw_gt 90 4 88 true rfl rfl rfl rfl rfl rfl (by first | rfl | assumption | (simp only [bs]; omega) | (simp [*]; done)) (do_load_box rfl rfl rfl ?_)
            | refine rw_gt 90 4 88 true rfl rfl rfl rfl rfl rfl (by first | rfl | assumption | (simp only [bs]; omega) | (simp [*]; done)) (do_load_arr rfl rfl (by first | omega | (simp only [ls]; omega)) rfl ?_)
            | refine rw_gt 90 4 88 true rfl rfl rfl rfl rfl rfl (by first | rfl | assumption | (simp only [bs]; omega) | (simp [*]; done)) (n_load_boxagg [_] rfl rfl (Nat.le_of_ble_eq_true rfl) rfl ?_)
            | refine rw_gt 90 4 88 true rfl rfl rfl rfl rfl rfl (by first | rfl | assumption | (simp only [bs]; omega) | (simp [*]; done)) (n_load_arragg [_] rfl rfl rfl (by omega) rfl ?_)
          refine rw_gt 91 4 88 true rfl rfl rfl rfl rfl rfl (by first | rfl | assumption | (simp only [bs]; omega) | (simp [*]; done)) (do_bin rfl rfl rfl ?_)
          refine rw_t 92 rfl rfl rfl (do_pick_t rfl (by first | rfl | assumption | (simp only [bs]; omega) | (simp [*]; done)) rfl ?_)
          refine rw_nil ?_
          refine ⟨rfl, ⟨_, rfl, by first | (simp only [bs]; omega) | (simp; done) | (simp; omega) | (constructor <;> intro h <;> simp_all <;> omega)⟩, ?_⟩
          repeat (refine ⟨⟨_, rfl, rfl⟩, ?_⟩)
          exact trivial
        · have kg1 := g1
          try simp only [bs] at kg1
          refine rw_gf 89 4 88 true rfl rfl rfl rfl rfl rfl (by first | decide | (simp only [bs]; omega) | (simp [*]; done) | (intro h; simp_all)) ?_
          refine rw_gf 90 4 88 true rfl rfl rfl rfl rfl rfl (by first | decide | (simp only [bs]; omega) | (simp [*]; done) | (intro h; simp_all)) ?_
          refine rw_gf 91 4 88 true rfl rfl rfl rfl rfl rfl (by first | decide | (simp only [bs]; omega) | (simp [*]; done) | (intro h; simp_all)) ?_
          refine rw_t 92 rfl rfl rfl (do_pick_f rfl (by first | rfl | assumption | (simp only [bs]; omega) | (simp [*]; done)) rfl ?_)
          refine rw_nil ?_
          refine ⟨rfl, ⟨_, rfl, by first | (simp only [bs]; omega) | (simp; done) | (simp; omega) | (constructor <;> intro h <;> simp_all <;> omega)⟩, ?_⟩
          repeat (refine ⟨⟨_, rfl, rfl⟩, ?_⟩)
          exact trivial
      intro b1 hb1
      refine w_condP hb1 rfl (fun hc4 => ?_) (fun hc4 => ?_)
      · have hq : ((if p.Res.getD ((c.First.getD ((Among x.e.u c.N)).toNat 0 + Among x.e.arc (c.First.getD ((Among x.e.u c.N) + 1).toNat 0 - c.First.getD ((Among x.e.u c.N)).toNat 0))).toNat 0 < (if 0 > p.Ex.getD ((Among x.e.u c.N)).toNat 0 then 0 else p.Ex.getD ((Among x.e.u c.N)).toNat 0) then p.Res.getD ((c.First.getD ((Among x.e.u c.N)).toNat 0 + Among x.e.arc (c.First.getD ((Among x.e.u c.N) + 1).toNat 0 - c.First.getD ((Among x.e.u c.N)).toNat 0))).toNat 0 else (if 0 > p.Ex.getD ((Among x.e.u c.N)).toNat 0 then 0 else p.Ex.getD ((Among x.e.u c.N)).toNat 0))).tdiv 2 = ((if p.Res.getD ((c.First.getD ((Among x.e.u c.N)).toNat 0 + Among x.e.arc (c.First.getD ((Among x.e.u c.N) + 1).toNat 0 - c.First.getD ((Among x.e.u c.N)).toNat 0))).toNat 0 < (if 0 > p.Ex.getD ((Among x.e.u c.N)).toNat 0 then 0 else p.Ex.getD ((Among x.e.u c.N)).toNat 0) then p.Res.getD ((c.First.getD ((Among x.e.u c.N)).toNat 0 + Among x.e.arc (c.First.getD ((Among x.e.u c.N) + 1).toNat 0 - c.First.getD ((Among x.e.u c.N)).toNat 0))).toNat 0 else (if 0 > p.Ex.getD ((Among x.e.u c.N)).toNat 0 then 0 else p.Ex.getD ((Among x.e.u c.N)).toNat 0))) / 2 := Int.tdiv_eq_ediv_of_nonneg (by omega)
        refine w_region ?_
        refine rw_t 93 rfl rfl rfl (do_fieldaddr rfl ?_)
        first
          | refine rw_t 94 rfl rfl rfl (do_load_box rfl rfl rfl ?_)
          | refine rw_t 94 rfl rfl rfl (do_load_arr rfl rfl (by first | omega | (simp only [ls]; omega)) rfl ?_)
          | refine rw_t 94 rfl rfl rfl (n_load_boxagg [_] rfl rfl (Nat.le_of_ble_eq_true rfl) rfl ?_)
          | refine rw_t 94 rfl rfl rfl (n_load_arragg [_] rfl rfl rfl (by omega) rfl ?_)
        refine rw_t 95 rfl rfl rfl (do_quo rfl rfl (by omega) ?_)
        refine rw_as (.val (.int .i64 (((if p.Res.getD ((c.First.getD ((Among x.e.u c.N)).toNat 0 + Among x.e.arc (c.First.getD ((Among x.e.u c.N) + 1).toNat 0 - c.First.getD ((Among x.e.u c.N)).toNat 0))).toNat 0 < (if 0 > p.Ex.getD ((Among x.e.u c.N)).toNat 0 then 0 else p.Ex.getD ((Among x.e.u c.N)).toNat 0) then p.Res.getD ((c.First.getD ((Among x.e.u c.N)).toNat 0 + Among x.e.arc (c.First.getD ((Among x.e.u c.N) + 1).toNat 0 - c.First.getD ((Among x.e.u c.N)).toNat 0))).toNat 0 else (if 0 > p.Ex.getD ((Among x.e.u c.N)).toNat 0 then 0 else p.Ex.getD ((Among x.e.u c.N)).toNat 0))).tdiv 2))) (val_congr (in64 (by rw [hq]; omega) (by rw [hq]; omega))) ?_
        refine rw_t 96 rfl rfl rfl (do_add rfl rfl (by rw [hq]; omega) ?_)
        refine rw_t 97 rfl rfl rfl (do_fieldaddr rfl ?_)
        first
          | refine rw_u rfl rfl (n_store_box rfl rfl rfl (Nat.le_of_ble_eq_true rfl) rfl ?_)
          | refine rw_u rfl rfl (n_store_arr rfl rfl rfl (by first | omega | (simp only [ls]; omega)) rfl (by decide) rfl ?_)
          | refine rw_u rfl rfl (n_store_whole rfl rfl rfl rfl rfl rfl ?_)
        refine rw_nil ?_
        exact ⟨(_, _), [0, 1, 2, 3, 4, 5, 6, 7, 8, 9, 10, 11, 12, 13], by dsimp only; rw [if_pos hc3]; exact Prod.ext rfl (if_pos hc4).symm, ⟨shR rfl, shR rfl, shR rfl, shR rfl, shR rfl, shR rfl, shR rfl, shR rfl, shR rfl, shR rfl, shR rfl, shR rfl, shR rfl, shR rfl, trivial⟩, rfl, pre_ok rfl, ⟨⟨_, rfl, rfl⟩, ⟨_, rfl, rfl⟩, ⟨_, rfl, rfl⟩, ⟨_, rfl, rfl⟩, ⟨_, rfl, rfl⟩, trivial⟩⟩
      · refine w_skip ?_
        exact ⟨(_, _), [0, 1, 2, 3, 4, 5, 6, 7, 8, 9, 10, 11, 12, 13], by dsimp only; rw [if_pos hc3]; exact Prod.ext rfl (if_neg hc4).symm, ⟨shR rfl, shR rfl, shR rfl, shR rfl, shR rfl, shR rfl, shR rfl, shR rfl, shR rfl, shR rfl, shR rfl, shR rfl, shR rfl, shR rfl, trivial⟩, rfl, pre_ok rfl, ⟨⟨_, rfl, rfl⟩, ⟨_, rfl, rfl⟩, ⟨_, rfl, rfl⟩, ⟨_, rfl, rfl⟩, ⟨_, rfl, rfl⟩, trivial⟩⟩
    · refine w_skip ?_
      exact ⟨(_, _), [0, 1, 2, 3, 4, 5, 6, 7, 8, 9, 10, 11, 12, 13], by dsimp only; rw [if_neg hc3], ⟨shR rfl, shR rfl, shR rfl, shR rfl, shR rfl, shR rfl, shR rfl, shR rfl, shR rfl, shR rfl, shR rfl, shR rfl, shR rfl, shR rfl, trivial⟩, rfl, pre_ok rfl, ⟨⟨_, rfl, rfl⟩, ⟨_, rfl, rfl⟩, ⟨_, rfl, rfl⟩, ⟨_, rfl, rfl⟩, ⟨_, rfl, rfl⟩, trivial⟩⟩
  rintro q rfl
  refine w_seq ?_
  refine w_region ?_
  refine rw_t 98 rfl rfl rfl (do_fieldaddr rfl ?_)
  first
    | refine rw_t 99 rfl rfl rfl (do_load_box rfl rfl rfl ?_)
    | refine rw_t 99 rfl rfl rfl (do_load_arr rfl rfl (by first | omega | (simp only [ls]; omega)) rfl ?_)
    | refine rw_t 99 rfl rfl rfl (n_load_boxagg [_] rfl rfl (Nat.le_of_ble_eq_true rfl) rfl ?_)
    | refine rw_t 99 rfl rfl rfl (n_load_arragg [_] rfl rfl rfl (by omega) rfl ?_)
  refine rw_t 100 rfl rfl rfl (do_fieldaddr rfl ?_)
  first
    | refine rw_t 101 rfl rfl rfl (do_load_box rfl rfl rfl ?_)
    | refine rw_t 101 rfl rfl rfl (do_load_arr rfl rfl (by first | omega | (simp only [ls]; omega)) rfl ?_)
    | refine rw_t 101 rfl rfl rfl (n_load_boxagg [_] rfl rfl (Nat.le_of_ble_eq_true rfl) rfl ?_)
    | refine rw_t 101 rfl rfl rfl (n_load_arragg [_] rfl rfl rfl (by omega) rfl ?_)
  first
    | refine rw_t 102 rfl rfl rfl (do_ixn rfl rfl rfl (by omega) ?_)
    | refine rw_t 102 rfl rfl rfl (do_ix0 rfl rfl rfl (by omega) ?_)
    | refine rw_t 102 rfl rfl rfl (do_ix rfl rfl rfl (by omega) ?_)
  first
    | refine rw_t 103 rfl rfl rfl (do_load_box rfl rfl rfl ?_)
    | refine rw_t 103 rfl rfl rfl (do_load_arr rfl rfl (by first | omega | (simp only [ls]; omega)) rfl ?_)
    | refine rw_t 103 rfl rfl rfl (n_load_boxagg [_] rfl rfl (Nat.le_of_ble_eq_true rfl) rfl ?_)
    | refine rw_t 103 rfl rfl rfl (n_load_arragg [_] rfl rfl rfl (by omega) rfl ?_)
  refine rw_t 104 rfl rfl rfl (do_fieldaddr rfl ?_)
  first
    | refine rw_u rfl rfl (n_store_box rfl rfl rfl (Nat.le_of_ble_eq_true rfl) rfl ?_)
    | refine rw_u rfl rfl (n_store_arr rfl rfl rfl (by first | omega | (simp only [ls]; omega)) rfl (by decide) rfl ?_)
    | refine rw_u rfl rfl (n_store_whole rfl rfl rfl rfl rfl rfl ?_)
  refine rw_nil ?_
  refine w_seq ?_
  have h20 := among_lo x.e.low 2
  have h21 := among_hi x.e.low (n := 2) (by omega)
  refine w_draw mixed [0, 1, 3, 0, 8, 24] [63, 127, 255] (by kernel_rfl) (by kernel_rfl) rfl rfl rfl (hle hρ rfl) ?_
  refine ra_q (j := 0) rfl rfl rfl rfl (do_fieldaddr rfl ⟨rfl, rfl⟩) (by rfl) ?_
  first
    | refine ra_q (j := 1) rfl rfl rfl rfl (do_load_box rfl rfl rfl ⟨rfl, rfl⟩) (by rfl) ?_
    | refine ra_q (j := 1) rfl rfl rfl rfl (do_load_arr rfl rfl (by first | omega | (simp only [ls]; omega)) rfl ⟨rfl, rfl⟩) (by rfl) ?_
    | refine ra_q (j := 1) rfl rfl rfl rfl (n_load_boxagg [_] rfl rfl (Nat.le_of_ble_eq_true rfl) rfl ⟨rfl, rfl⟩) (by rfl) ?_
    | refine ra_q (j := 1) rfl rfl rfl rfl (n_load_arragg [_] rfl rfl rfl (by omega) rfl ⟨rfl, rfl⟩) (by rfl) ?_
  refine ra_q (j := 2) rfl rfl rfl rfl (do_sub rfl rfl (by omega) ⟨rfl, rfl⟩) (by rfl) ?_
  refine ra_q (j := 3) rfl rfl rfl rfl (do_fieldaddr rfl ⟨rfl, rfl⟩) (by rfl) ?_
  first
    | refine ra_q (j := 4) rfl rfl rfl rfl (do_load_box rfl rfl rfl ⟨rfl, rfl⟩) (by rfl) ?_
    | refine ra_q (j := 4) rfl rfl rfl rfl (do_load_arr rfl rfl (by first | omega | (simp only [ls]; omega)) rfl ⟨rfl, rfl⟩) (by rfl) ?_
    | refine ra_q (j := 4) rfl rfl rfl rfl (n_load_boxagg [_] rfl rfl (Nat.le_of_ble_eq_true rfl) rfl ⟨rfl, rfl⟩) (by rfl) ?_
    | refine ra_q (j := 4) rfl rfl rfl rfl (n_load_arragg [_] rfl rfl rfl (by omega) rfl ⟨rfl, rfl⟩) (by rfl) ?_
  refine ra_q (j := 5) rfl rfl rfl rfl (do_callR (X' := .val (.int .i64 (Among x.e.low 2))) rfl rfl (t_Among x.e.low 2 (by omega)) [] trivial rfl rfl rfl ⟨rfl, rfl⟩) (by rfl) ?_
  refine n_done ?_
  refine rw_t 111 rfl rfl rfl (do_sub rfl rfl (by omega) ?_)
  refine rw_t 112 rfl rfl rfl (do_fieldaddr rfl ?_)
  first
    | refine rw_u rfl rfl (n_store_box rfl rfl rfl (Nat.le_of_ble_eq_true rfl) rfl ?_)
    | refine rw_u rfl rfl (n_store_arr rfl rfl rfl (by first | omega | (simp only [ls]; omega)) rfl (by decide) rfl ?_)
    | refine rw_u rfl rfl (n_store_whole rfl rfl rfl rfl rfl rfl ?_)
  refine rw_nil ?_
  refine w_seq ?_
  refine w_region ?_
  first
    | refine rw_t 113 rfl rfl rfl (do_load_box rfl rfl rfl ?_)
    | refine rw_t 113 rfl rfl rfl (do_load_arr rfl rfl (by first | omega | (simp only [ls]; omega)) rfl ?_)
    | refine rw_t 113 rfl rfl rfl (n_load_boxagg [_, _, _, _, _, _, _] rfl rfl (Nat.le_of_ble_eq_true rfl) rfl ?_)
    | refine rw_t 113 rfl rfl rfl (n_load_arragg [_, _, _, _, _, _, _] rfl rfl rfl (by omega) rfl ?_)
  first
    | refine rw_u rfl rfl (n_store_box rfl rfl rfl (Nat.le_of_ble_eq_true rfl) rfl ?_)
    | refine rw_u rfl rfl (n_store_arr rfl rfl rfl (by first | omega | (simp only [ls]; omega)) rfl (by decide) rfl ?_)
    | refine rw_u rfl rfl (n_store_whole rfl rfl rfl rfl rfl rfl ?_)
  refine rw_nil ?_
  refine w_ret ?_
  have e : fitE c p x = ⟨x.e.who, (IntKind.u8.wrap (1 + andI .u8 x.fit 1)), (Among x.e.u c.N), (if (c.First.getD ((Among x.e.u c.N) + 1).toNat 0 - c.First.getD ((Among x.e.u c.N)).toNat 0) > 0 then ((c.First.getD ((Among x.e.u c.N)).toNat 0 + Among x.e.arc (c.First.getD ((Among x.e.u c.N) + 1).toNat 0 - c.First.getD ((Among x.e.u c.N)).toNat 0)), halfD x.fit (mostD p (Among x.e.u c.N) (c.First.getD ((Among x.e.u c.N)).toNat 0 + Among x.e.arc (c.First.getD ((Among x.e.u c.N) + 1).toNat 0 - c.First.getD ((Among x.e.u c.N)).toNat 0)))) else (x.e.arc, x.e.d)).1, (if (c.First.getD ((Among x.e.u c.N) + 1).toNat 0 - c.First.getD ((Among x.e.u c.N)).toNat 0) > 0 then ((c.First.getD ((Among x.e.u c.N)).toNat 0 + Among x.e.arc (c.First.getD ((Among x.e.u c.N) + 1).toNat 0 - c.First.getD ((Among x.e.u c.N)).toNat 0)), halfD x.fit (mostD p (Among x.e.u c.N) (c.First.getD ((Among x.e.u c.N)).toNat 0 + Among x.e.arc (c.First.getD ((Among x.e.u c.N) + 1).toNat 0 - c.First.getD ((Among x.e.u c.N)).toNat 0)))) else (x.e.arc, x.e.d)).2, p.H.getD ((Among x.e.u c.N)).toNat 0, p.H.getD ((Among x.e.u c.N)).toNat 0 - 1 - Among x.e.low 2⟩ := by
    unfold fitE; rw [if_neg (by rw [hc1]; decide)]; dsimp only; rw [if_neg hc2]; split <;> rfl
  exact ret_eq (.inl rfl) (.cons (res_agg rfl rfl (Nat.le_of_ble_eq_true rfl)) .nil) [0, 1, 2, 3, 4, 5, 6, 7, 8] (by rw [e]; rfl) ⟨shR rfl, shR rfl, shR rfl, shR rfl, shR rfl, shR rfl, shR rfl, shR rfl, shR rfl, trivial⟩ rfl (pre_ok rfl)
end Go.Proofs

set_option linter.unusedVariables false
namespace Go.Proofs
open Go Go.Sx Go.RowKit
/-- The first place of a rising row at which there is x or more. -/
def searchI (xs : List Int) (x : Int) : Nat := match (List.range xs.length).find? (fun i => decide (x ≤ xs.getD i 0)) with
  | some i => i
  | none => xs.length
theorem search_at {xs : List Int} {x : Int} {r : Nat} (hr : r ≤ xs.length) (h1 : ∀ k, k < r → xs.getD k 0 < x) (h2 : r < xs.length → x ≤ xs.getD r 0) : searchI xs x = r := by
  unfold searchI
  rcases Nat.lt_or_ge r xs.length with h | h
  · have : (List.range xs.length).find? (fun i => decide (x ≤ xs.getD i 0)) = some r := by
      rw [List.find?_range_eq_some]
      refine ⟨by simpa using h2 h, by simpa using h, fun j hj => ?_⟩
      have := h1 j hj
      simp only [Bool.not_eq_true', decide_eq_false_iff_not]; omega
    rw [this]
  · have : (List.range xs.length).find? (fun i => decide (x ≤ xs.getD i 0)) = none := by
      rw [List.find?_range_eq_none]
      intro i hi
      have := h1 i (by omega)
      simp only [Bool.not_eq_true', decide_eq_false_iff_not]; omega
    rw [this]; show xs.length = r; omega
/-- A row whose vertices' pieces lie one behind the other. -/
structure CsrT (c : Csr) : Prop extends CsrOK c where
  f0 : c.First.getD 0 0 = 0
  fN : c.First.getD c.N.toNat 0 = c.Head.length
  small : c.Head.length ≤ 2048
  capv : ∀ a, a < c.Head.length → mostOf c a ≤ 1125899906842624
theorem CsrT.up {c : Csr} (h : CsrT c) : ∀ {i j : Nat}, i ≤ j → j ≤ c.N.toNat → c.First.getD i 0 ≤ c.First.getD j 0 := by
  intro i j hij
  induction j with
  | zero => intro _; have : i = 0 := by omega
            subst this; omega
  | succ j ih =>
    intro hj
    rcases Nat.eq_or_lt_of_le hij with he | hl
    · subst he; omega
    · have h1 := ih (by omega) (by omega)
      have h2 := h.mono j (by omega)
      omega
theorem CsrT.tail_at {c : Csr} (h : CsrT c) {a : Int} (h0 : 0 ≤ a) (h1 : a < c.Head.length) : ∃ v : Nat, v < c.N.toNat ∧ isTail c a v ∧ tailOf c a = v ∧ (searchI c.First (a + 1) : Int) - 1 = v := by
  have hn := h.n
  have key : ∀ m : Nat, m ≤ c.N.toNat → a < c.First.getD m 0 → ∃ v : Nat, v < m ∧ isTail c a v ∧ ∀ u, u ≤ v → c.First.getD u 0 ≤ a := by
    intro m
    induction m with
    | zero => intro _ hl; have := h.f0; omega
    | succ m ih =>
      intro hm hl
      rcases Int.lt_or_le a (c.First.getD m 0) with hc | hc
      · obtain ⟨v, q1, q2⟩ := ih (by omega) hc
        exact ⟨v, by omega, q2⟩
      · exact ⟨m, by omega, ⟨hc, hl⟩, fun u hu => by have := h.up hu (by omega); omega⟩
  obtain ⟨v, q1, q2, q3⟩ := key c.N.toNat (by omega) (by rw [h.fN]; exact h1)
  have q4 := q2
  obtain ⟨q4, q5⟩ := q4
  refine ⟨v, q1, q2, tail_found q1 q2 fun u hu hc => ?_, ?_⟩
  · have h3 := h.up (i := u + 1) (j := v) (by omega) (by omega)
    obtain ⟨c1, c2⟩ := hc
    omega
  · rw [search_at (r := v + 1)]
    · omega
    · rw [h.first]; omega
    · intro k hk
      have := q3 k (by omega)
      omega
    · intro _; omega
end Go.Proofs

set_option linter.unusedVariables false
namespace Go.Proofs
open Go Go.Sx Go.RowKit
set_option maxHeartbeats 8000000 in
set_option synthInstance.maxHeartbeats 400000 in
set_option synthInstance.maxSize 2000 in
theorem t_si1 (xs : List Int) (x i : Int) (hi : 0 ≤ i ∧ i < xs.length) : Tri Try.prog 79 [.val (.int .i64 i), .ptr 1 0 0, .ptr 2 0 0] [SO.ints false .i64 xs, .box [.slc 0 0 xs.length none], .box [.val (.int .i64 x)]] (fun s H => s = .val (.bool (decide (xs.getD i.toNat 0 ≥ x))) ∧ H = [SO.ints false .i64 xs, .box [.slc 0 0 xs.length none], .box [.val (.int .i64 x)]]) := by
  refine tri_of_w (fn := Try.f79) Try.func79 rfl (by simp [Try.f79]) ?_
  intro ρ w hρ
  refine w_seq ?_
  refine w_region ?_
  refine rw_t 4 rfl rfl rfl (do_assign rfl ?_)
  refine rw_nil ?_
  refine w_seq ?_
  refine w_env [(0, .val (.int .i64 i)), (1, .ptr 1 0 0), (2, .ptr 2 0 0)] ⟨⟨_, rfl, rfl⟩, ⟨_, rfl, rfl⟩, ⟨_, rfl, rfl⟩, trivial⟩ ?_
  refine w_draw mixed [0, 0, 3, 7, 0] [31, 63] (by kernel_rfl) (by kernel_rfl) rfl rfl rfl (hle hρ rfl) ?_
  refine ra_q (j := 0) rfl rfl rfl rfl (do_load_box rfl rfl rfl ⟨rfl, rfl⟩) (by rfl) ?_
  refine ra_q (j := 1) rfl rfl rfl rfl (do_move rfl ⟨rfl, rfl⟩) (by rfl) ?_
  refine ra_q (j := 2) rfl rfl rfl rfl (do_ix0 rfl rfl rfl (by first | omega | (simp only [ls] <;> omega)) ⟨rfl, rfl⟩) (by rfl) ?_
  refine ra_q (j := 3) rfl rfl rfl rfl (do_load_arr rfl rfl (by first | omega | (simp only [ls] <;> omega)) rfl ⟨rfl, rfl⟩) (by rfl) ?_
  refine ra_q (j := 4) rfl rfl rfl rfl (do_load_box rfl rfl rfl ⟨rfl, rfl⟩) (by rfl) ?_
  refine n_done ?_
  refine rw_t 10 rfl rfl rfl (do_bin rfl rfl rfl ?_)
  refine rw_t 4 rfl rfl rfl (do_assign rfl ?_)
  refine rw_nil ?_
  refine w_ret ?_
  exact ret_eq (.inl rfl) (.cons (res_tmp rfl) .nil) [0, 1, 2] (rfl) ⟨shR rfl, shR rfl, shR rfl, trivial⟩ rfl (pre_ok rfl)
set_option maxHeartbeats 8000000 in
set_option synthInstance.maxHeartbeats 400000 in
set_option synthInstance.maxSize 2000 in
theorem t_Search (xs : List Int) (x : Int) (hl : xs.length < 1073741824) (hm : ∀ i j : Nat, i ≤ j → j < xs.length → xs.getD i 0 ≤ xs.getD j 0) : Tri Try.prog 78 [.val (.int .i64 ((xs.length : Nat) : Int)), .func 79 [] [.ptr 1 0 0, .ptr 2 0 0]] [SO.ints false .i64 xs, .box [.slc 0 0 xs.length none], .box [.val (.int .i64 x)]] (fun s H => s = .val (.int .i64 ((searchI xs x : Nat) : Int)) ∧ H = [SO.ints false .i64 xs, .box [.slc 0 0 xs.length none], .box [.val (.int .i64 x)]]) := by
  refine tri_of_w (fn := Try.f78) Try.func78 rfl (by simp [Try.f78]) ?_
  intro ρ w hρ
  refine w_seq ?_
  refine w_region ?_
  refine rw_t 4 rfl rfl rfl (do_assign rfl ?_)
  refine rw_nil ?_
  refine w_seq ?_
  refine w_region ?_
  refine rw_t 8 rfl rfl rfl (do_move rfl ?_)
  refine rw_t 5 rfl rfl rfl (do_assign rfl ?_)
  refine rw_t 6 rfl rfl rfl (do_assign rfl ?_)
  refine rw_nil ?_
  refine w_seq ?_
  refine w_block ?_
  refine w_loopS (ι := Nat × Nat) (fun q => [(1, .func 79 [] [.ptr 1 0 0, .ptr 2 0 0]), (4, .val (.int .i64 0)), (5, .val (.int .i64 ((q.1 : Nat) : Int))), (6, .val (.int .i64 ((q.2 : Nat) : Int)))]) (fun q => [SO.ints false .i64 xs, .box [.slc 0 0 xs.length none], .box [.val (.int .i64 x)]]) (fun q => q.2 - q.1) (fun q => q.1 ≤ q.2 ∧ q.2 ≤ xs.length ∧ (∀ k, k < q.1 → xs.getD k 0 < x) ∧ (∀ k, q.2 ≤ k → k < xs.length → x ≤ xs.getD k 0)) ((0, xs.length)) [0, 1, 2] (⟨by simp, by simp, fun k hk => by simp at hk, fun k h1 h2 => by dsimp only at h1; omega⟩) ⟨shR rfl, shR rfl, shR rfl, trivial⟩ rfl (pre_ok rfl) hρ ⟨⟨_, rfl, rfl⟩, ⟨_, rfl, rfl⟩, ⟨_, rfl, rfl⟩, ⟨_, rfl, rfl⟩, trivial⟩ ?_
  rintro ⟨i, j⟩ ⟨g1, g2, g3, g4⟩
  dsimp only at g1 g2 g3 g4 ⊢
  refine w_seq ?_
  refine w_seq ?_
  refine w_region ?_
  refine rw_t 9 rfl rfl rfl (do_move rfl ?_)
  refine rw_t 10 rfl rfl rfl (do_move rfl ?_)
  refine rw_t 11 rfl rfl rfl (do_bin rfl rfl rfl ?_)
  refine rw_nil ?_
  refine w_cond rfl (fun hc1 => ?_) (fun hc1 => ?_)
  all_goals try simp only [bs] at hc1
  rotate_left
  · refine w_exit ?_
    refine w_seq ?_
    refine w_region ?_
    refine rw_t 25 rfl rfl rfl (do_move rfl ?_)
    refine rw_t 4 rfl rfl rfl (do_assign rfl ?_)
    refine rw_nil ?_
    refine w_ret ?_
    exact ret_eq (.inl rfl) (.cons (res_tmp rfl) .nil) [0, 1, 2] (Eq.symm (val_congr (by obtain rfl : i = j := (by omega); rw [search_at g2 g3 (g4 i (Nat.le_refl _))]))) ⟨shR rfl, shR rfl, shR rfl, trivial⟩ rfl (pre_ok rfl)
  refine w_skip ?_
  refine w_block ?_
  refine w_seq ?_
  refine w_region ?_
  refine rw_t 12 rfl rfl rfl (do_move rfl ?_)
  refine rw_t 13 rfl rfl rfl (do_move rfl ?_)
  refine rw_t 14 rfl rfl rfl (do_add rfl rfl (by omega) ?_)
  refine rw_t 15 rfl rfl rfl (do_conv rfl ?_)
  refine rw_as (.val (.int .u64 ((i : Int) + (j : Int)))) (val_congr (IntWalk.u64_in _ ⟨by omega, by omega⟩)) ?_
  refine rw_t 16 rfl rfl rfl (do_shr1 rfl rfl (by omega) ?_)
  refine rw_t 17 rfl rfl rfl (do_conv rfl ?_)
  refine rw_as (.val (.int .i64 (((i : Int) + (j : Int)) / 2))) (val_congr (in64 (by omega) (by omega))) ?_
  refine rw_t 7 rfl rfl rfl (do_assign rfl ?_)
  refine rw_nil ?_
  refine w_seq ?_
  refine w_region ?_
  refine rw_t 18 rfl rfl rfl (do_move rfl ?_)
  refine rw_t 19 rfl rfl rfl (do_move rfl ?_)
  refine rw_t 20 rfl rfl rfl (n_callW (X' := .val (.bool (decide (xs.getD (((i : Int) + (j : Int)) / 2).toNat 0 ≥ x)))) (H' := [SO.ints false .i64 xs, .box [.slc 0 0 xs.length none], .box [.val (.int .i64 x)]]) rfl rfl (t_si1 (xs := xs) (x := x) (i := (((i : Int) + (j : Int)) / 2)) (by omega)) [0, 1, 2] ⟨.inr ⟨_, rfl, srv⟩, shR rfl, shR rfl, trivial⟩ rfl rfl ⟨fun h => (by cases h), ⟨fun h => .inl rfl, ⟨fun h => .inl rfl, (fun y hy => by simp at hy)⟩⟩⟩ rfl rfl ?_)
  refine rw_t 21 rfl rfl rfl (do_not rfl ?_)
  refine rw_nil ?_
  refine w_cond rfl (fun hc2 => ?_) (fun hc2 => ?_)
  all_goals try simp only [bs] at hc2
  · -- region 5
    refine w_region ?_
    refine rw_t 22 rfl rfl rfl (do_move rfl ?_)
    refine rw_t 23 rfl rfl rfl (do_add rfl rfl (by omega) ?_)
    refine rw_t 5 rfl rfl rfl (do_assign rfl ?_)
    refine rw_nil ?_
    refine ⟨((((i : Int) + (j : Int)) / 2).toNat + 1, j), [0, 1, 2], by dsimp only; omega, ⟨by dsimp only; omega, g2, fun k hk => by have := hm k (((i : Int) + (j : Int)) / 2).toNat (by dsimp only at hk; omega) (by omega); omega, g4⟩, ⟨shR rfl, shR rfl, shR rfl, trivial⟩, rfl, pre_ok rfl, ⟨⟨_, rfl, rfl⟩, ⟨_, rfl, rfl⟩, ⟨_, rfl, Eq.symm (val_congr (by dsimp only; omega))⟩, ⟨_, rfl, rfl⟩, trivial⟩⟩
  · -- region 6
    refine w_region ?_
    refine rw_t 24 rfl rfl rfl (do_move rfl ?_)
    refine rw_t 6 rfl rfl rfl (do_assign rfl ?_)
    refine rw_nil ?_
    refine ⟨(i, (((i : Int) + (j : Int)) / 2).toNat), [0, 1, 2], by dsimp only; omega, ⟨by dsimp only; omega, by dsimp only; omega, g3, fun k h1 h2 => by have := hm (((i : Int) + (j : Int)) / 2).toNat k (by dsimp only at h1; omega) h2; omega⟩, ⟨shR rfl, shR rfl, shR rfl, trivial⟩, rfl, pre_ok rfl, ⟨⟨_, rfl, rfl⟩, ⟨_, rfl, rfl⟩, ⟨_, rfl, rfl⟩, ⟨_, rfl, Eq.symm (val_congr (by dsimp only; omega))⟩, trivial⟩⟩
set_option maxHeartbeats 8000000 in
set_option synthInstance.maxHeartbeats 400000 in
set_option synthInstance.maxSize 2000 in
theorem t_SearchInts (xs : List Int) (x : Int) (hl : xs.length < 1073741824) (hm : ∀ i j : Nat, i ≤ j → j < xs.length → xs.getD i 0 ≤ xs.getD j 0) : Tri Try.prog 70 [.slc 0 0 xs.length none, .val (.int .i64 x)] [SO.ints false .i64 xs] (fun s H => s = .val (.int .i64 ((searchI xs x : Nat) : Int)) ∧ H = [SO.ints false .i64 xs]) := by
  refine tri_of_w (fn := Try.f70) Try.func70 rfl (by simp [Try.f70]) ?_
  intro ρ w hρ
  refine w_seq ?_
  refine w_region ?_
  refine rw_t 2 rfl rfl rfl (n_box (n := 1) rfl rfl rfl ?_)
  refine rw_t 3 rfl rfl rfl (n_box (n := 2) rfl rfl rfl ?_)
  refine rw_t 4 rfl rfl rfl (do_assign rfl ?_)
  refine rw_nil ?_
  refine w_seq ?_
  refine w_region ?_
  refine rw_t 5 rfl rfl rfl (do_load_box rfl rfl rfl ?_)
  refine rw_t 6 rfl rfl rfl (do_len rfl ?_)
  refine rw_t 7 rfl rfl rfl (do_makefunc rfl rfl ?_)
  refine rw_t 8 rfl rfl rfl (n_callW (X' := .val (.int .i64 ((searchI xs x : Nat) : Int))) (H' := [SO.ints false .i64 xs, .box [.slc 0 0 xs.length none], .box [.val (.int .i64 x)]]) rfl rfl (t_Search (xs := xs) (x := x) (hl) (hm)) [0, 1, 2] ⟨.inr ⟨_, rfl, srv⟩, shR rfl, shR rfl, trivial⟩ rfl rfl ⟨fun h => (by cases h), ⟨fun h => .inl rfl, ⟨fun h => .inl rfl, (fun y hy => by simp at hy)⟩⟩⟩ rfl rfl ?_)
  refine rw_t 4 rfl rfl rfl (do_assign rfl ?_)
  refine rw_nil ?_
  refine w_ret ?_
  exact ret_eq (.inl rfl) (.cons (res_tmp rfl) .nil) [0] (rfl) ⟨shR rfl, trivial⟩ rfl (pre_ok rfl)
end Go.Proofs

set_option linter.unusedVariables false
namespace Go.Proofs
open Go Go.Sx Go.RowKit
theorem u80 : Try.prog.underlying 80 = some (TypeDesc.map 5 78) := by kernel_rfl
theorem i78 : Try.prog.info? 78 = some Try.t78 := by kernel_rfl
instance : TyMap Try.prog 80 .u8 Value.nilFunc := ⟨⟨_, _, u80, u5, _, i78, rfl⟩⟩
abbrev encEvent (e : Event) : List Value := [.int .i64 e.who, .int .u8 e.what, .int .i64 e.u, .int .i64 e.arc, .int .i64 e.d, .int .i64 e.h, .int .i64 e.low]
abbrev Event.none : Event := ⟨0, 0, 0, 0, 0, 0, 0⟩
abbrev SO.events (own : Bool) (xs : List Event) : SO := .arr Event own 7 encEvent Event.none xs
def gE (p : Pre) (v : Int) : Int := p.Ex.getD v.toNat 0
/-- As many numbers as there should be. -/
structure PreLen (c : Csr) (p : Pre) : Prop where
  res : p.Res.length = c.Head.length
  ex : p.Ex.length = c.N.toNat
  h : p.H.length = c.N.toNat
structure EvIn (e : Event) : Prop where
  u : In64 e.u
  arc : In64 e.arc
  d : In64 e.d
  h : In64 e.h
  low : In64 e.low
def pushE (c : Csr) (p : Pre) (e : Event) : Int :=
  if e.arc < c.First.getD e.u.toNat 0 ∨ e.arc ≥ c.First.getD (e.u + 1).toNat 0 then 2
  else if e.d < 1 ∨ e.d > p.Ex.getD e.u.toNat 0 ∨ e.d > p.Res.getD e.arc.toNat 0 ∨ e.h ≠ p.H.getD e.u.toNat 0 ∨ e.h ≤ e.low then 30 else 0
def liftE (c : Csr) (p : Pre) (e : Event) : Int := if e.h ≤ p.H.getD e.u.toNat 0 ∨ e.h > 2 * c.N then 30 else 0
/-- P9.1: may a move be done? -/
def legalE (c : Csr) (p : Pre) (e : Event) : Int :=
  if (e.what ≠ 1 ∧ e.what ≠ 2) ∨ e.u < 0 ∨ e.u ≥ c.N ∨ e.u = c.S ∨ e.u = c.T then 2
  else if e.what = 2 then liftE c p e else pushE c p e
def subAt (l : List Int) (i : Int) (x : Int) : List Int := l.set i.toNat (l.getD i.toNat 0 - x)
/-- P9.2: what comes of a move that may be done. -/
def doesP (c : Csr) (p : Pre) (e : Event) : Pre :=
  if e.what = 2 then ⟨p.Res, p.Ex, p.H.set e.u.toNat e.h⟩
  else ⟨addAt (subAt p.Res e.arc e.d) (c.Rev.getD e.arc.toNat 0) e.d, addAt (subAt p.Ex e.u e.d) (c.Head.getD e.arc.toNat 0) e.d, p.H⟩
end Go.Proofs

set_option linter.unusedVariables false
namespace Go.Proofs
open Go Go.Sx Go.RowKit
set_option maxHeartbeats 8000000 in
set_option synthInstance.maxHeartbeats 400000 in
set_option synthInstance.maxSize 2000 in
theorem t_Len (c : Csr) : Tri Try.prog 31 [.agg [.val (.int .i64 c.N), .val (.int .i64 c.S), .val (.int .i64 c.T), .slc 0 0 c.First.length none, .slc 1 0 c.Head.length none, .slc 2 0 c.Rev.length none, .slc 3 0 c.Cap.length none, .slc 4 0 c.Arc.length none, .slc 5 0 c.Back.length none]] [SO.ints false .i64 c.First, SO.ints false .i64 c.Head, SO.ints false .i64 c.Rev, SO.ints false .i64 c.Cap, SO.ints false .i64 c.Arc, SO.bools false c.Back] (fun s H => s = .val (.int .i64 ((c.Head.length : Nat) : Int)) ∧ H = [SO.ints false .i64 c.First, SO.ints false .i64 c.Head, SO.ints false .i64 c.Rev, SO.ints false .i64 c.Cap, SO.ints false .i64 c.Arc, SO.bools false c.Back]) := by
  refine tri_of_w (fn := Try.f31) Try.func31 rfl (by simp [Try.f31]) ?_
  intro ρ w hρ
  refine w_seq ?_
  refine w_region ?_
  refine rw_t 1 rfl rfl rfl (n_box_agg (n := 6) rfl rfl ?_)
  refine rw_t 2 rfl rfl rfl (do_assign rfl ?_)
  refine rw_nil ?_
  refine w_seq ?_
  refine w_region ?_
  refine rw_t 3 rfl rfl rfl (do_fieldaddr rfl ?_)
  refine rw_t 4 rfl rfl rfl (do_load_box rfl rfl rfl ?_)
  refine rw_t 5 rfl rfl rfl (do_len rfl ?_)
  refine rw_t 2 rfl rfl rfl (do_assign rfl ?_)
  refine rw_nil ?_
  refine w_ret ?_
  exact ret_eq (.inl rfl) (.cons (res_tmp rfl) .nil) [0, 1, 2, 3, 4, 5] (rfl) ⟨shR rfl, shR rfl, shR rfl, shR rfl, shR rfl, shR rfl, trivial⟩ rfl (pre_ok rfl)
set_option maxHeartbeats 8000000 in
set_option synthInstance.maxHeartbeats 400000 in
set_option synthInstance.maxSize 2000 in
theorem t_Tail (c : Csr) (a : Int) (h : CsrT c) (ha : 0 ≤ a ∧ a < c.Head.length) : Tri Try.prog 57 [.agg [.val (.int .i64 c.N), .val (.int .i64 c.S), .val (.int .i64 c.T), .slc 0 0 c.First.length none, .slc 1 0 c.Head.length none, .slc 2 0 c.Rev.length none, .slc 3 0 c.Cap.length none, .slc 4 0 c.Arc.length none, .slc 5 0 c.Back.length none], .val (.int .i64 a)] [SO.ints false .i64 c.First, SO.ints false .i64 c.Head, SO.ints false .i64 c.Rev, SO.ints false .i64 c.Cap, SO.ints false .i64 c.Arc, SO.bools false c.Back] (fun s H => s = .tup [.val (.int .i64 (tailOf c a)), .val (.bool true)] ∧ H = [SO.ints false .i64 c.First, SO.ints false .i64 c.Head, SO.ints false .i64 c.Rev, SO.ints false .i64 c.Cap, SO.ints false .i64 c.Arc, SO.bools false c.Back]) := by
  refine tri_of_w (fn := Try.f57) Try.func57 rfl (by simp [Try.f57]) ?_
  intro ρ w hρ
  refine w_seq ?_
  refine w_region ?_
  refine rw_t 2 rfl rfl rfl (n_box_agg (n := 6) rfl rfl ?_)
  refine rw_t 4 rfl rfl rfl (do_assign rfl ?_)
  refine rw_t 5 rfl rfl rfl (do_assign rfl ?_)
  refine rw_nil ?_
  refine w_seq ?_
  have hn := h.n
  have hf := h.first
  have hhd := h.head
  have hrl := h.rev
  have hcl := h.cap
  have hal := h.arc
  have hbl := h.back
  refine w_seqB 13 ((a < 0 ∨ a ≥ ((c.Head.length : Nat) : Int))) ?_ ?_
  · -- region 1
    refine w_region ?_
    refine rw_t 6 rfl rfl rfl (do_move rfl ?_)
    refine rw_t 7 rfl rfl rfl (do_bin rfl rfl rfl ?_)
    refine rw_t 8 rfl rfl rfl (do_move rfl ?_)
    refine rw_case 8 rfl (fun g1 => ?_) (fun g1 => ?_)
    · have kg1 := g1
      try simp only [bs] at kg1
      refine rw_gf 9 2 8 false rfl rfl rfl rfl rfl rfl (by rw [g1]; decide) ?_
      refine rw_gf 10 2 8 false rfl rfl rfl rfl rfl rfl (by rw [g1]; decide) ?_
      refine rw_gf 11 2 8 false rfl rfl rfl rfl rfl rfl (by rw [g1]; decide) ?_
      refine rw_gf 12 2 8 false rfl rfl rfl rfl rfl rfl (by rw [g1]; decide) ?_
      refine rw_t 13 rfl rfl rfl (do_pick_t rfl g1 rfl ?_)
      refine rw_nil ?_
      refine ⟨rfl, ⟨_, rfl, by first | (simp; done) | (simp only [bs]; omega) | (simp [*]; done) | (simp; omega) | (constructor <;> intro h <;> simp_all <;> omega)⟩, ?_⟩
      repeat (refine ⟨⟨_, rfl, rfl⟩, ?_⟩)
      exact trivial
    · have kg1 := g1
      try simp only [bs] at kg1
      refine rw_gt 9 2 8 false rfl rfl rfl rfl rfl rfl g1 (do_move rfl ?_)
      refine rw_gt 10 2 8 false rfl rfl rfl rfl rfl rfl g1 (n_load_boxagg [_, _, _, _, _, _, _, _, _] rfl rfl (Nat.le_of_ble_eq_true rfl) rfl ?_)
      refine rw_gt 11 2 8 false rfl rfl rfl rfl rfl rfl g1 (do_callR (X' := .val (.int .i64 ((c.Head.length : Nat) : Int))) rfl rfl (t_Len (c := c)) [0, 1, 2, 3, 4, 5] ⟨.inr ⟨_, rfl, srv⟩, .inr ⟨_, rfl, srv⟩, .inr ⟨_, rfl, srv⟩, .inr ⟨_, rfl, srv⟩, .inr ⟨_, rfl, srv⟩, .inr ⟨_, rfl, srv⟩, trivial⟩ rfl rfl rfl ?_)
      refine rw_gt 12 2 8 false rfl rfl rfl rfl rfl rfl g1 (do_bin rfl rfl rfl ?_)
      refine rw_t 13 rfl rfl rfl (do_pick_f rfl g1 rfl ?_)
      refine rw_nil ?_
      refine ⟨rfl, ⟨_, rfl, by first | (simp; done) | (simp only [bs]; omega) | (simp [*]; done) | (simp; omega) | (constructor <;> intro h <;> simp_all <;> omega)⟩, ?_⟩
      repeat (refine ⟨⟨_, rfl, rfl⟩, ?_⟩)
      exact trivial
  intro b1 hb1
  refine w_condP hb1 rfl (fun hc1 => ?_) (fun hc1 => ?_)
  · exfalso; omega
  refine w_skip ?_
  refine w_seq ?_
  obtain ⟨v, q1, q2, q3, q4⟩ := h.tail_at ha.1 ha.2
  refine w_region ?_
  refine rw_t 14 rfl rfl rfl (do_fieldaddr rfl ?_)
  refine rw_t 15 rfl rfl rfl (do_load_box rfl rfl rfl ?_)
  refine rw_t 16 rfl rfl rfl (do_move rfl ?_)
  refine rw_t 17 rfl rfl rfl (do_add rfl rfl (by omega) ?_)
  refine rw_t 18 rfl rfl rfl (do_callR (X' := .val (.int .i64 ((searchI c.First (a + 1) : Nat) : Int))) rfl rfl (t_SearchInts (xs := c.First) (x := (a + 1)) (by omega) (fun i j hij hj => h.up hij (by omega))) [0] ⟨.inr ⟨_, rfl, srv⟩, trivial⟩ rfl rfl rfl ?_)
  refine rw_t 19 rfl rfl rfl (do_sub rfl rfl (by omega) ?_)
  refine rw_as (.val (.int .i64 (tailOf c a))) (val_congr (by rw [q3]; exact q4)) ?_
  refine rw_t 4 rfl rfl rfl (do_assign rfl ?_)
  refine rw_t 5 rfl rfl rfl (do_assign rfl ?_)
  refine rw_nil ?_
  refine w_ret ?_
  exact ret_eq (.inl rfl) (.cons (res_tmp rfl) (.cons (res_tmp rfl) .nil)) [0, 1, 2, 3, 4, 5] (rfl) ⟨shR rfl, shR rfl, shR rfl, shR rfl, shR rfl, shR rfl, trivial⟩ rfl (pre_ok rfl)
set_option maxHeartbeats 8000000 in
set_option synthInstance.maxHeartbeats 400000 in
set_option synthInstance.maxSize 2000 in
theorem t_CloneLongs (xs : List Int) (hl : xs.length < 1073741824) : Tri Try.prog 46 [.slc 0 0 xs.length none] [SO.ints false .i64 xs] (fun s H => s = .slc 1 0 xs.length none ∧ H = [SO.ints false .i64 xs, SO.ints true .i64 xs]) := by
  refine tri_of_w (fn := Try.f46) Try.func46 rfl (by simp [Try.f46]) ?_
  intro ρ w hρ
  refine w_seq ?_
  refine w_region ?_
  refine rw_t 2 rfl rfl rfl (do_assign rfl ?_)
  refine rw_nil ?_
  refine w_seq ?_
  refine w_seq ?_
  refine w_region ?_
  refine rw_t 3 rfl rfl rfl (do_move rfl ?_)
  refine rw_t 4 rfl rfl rfl (do_slnil (rt := 0) rfl (fun nb1 hnb1 => ?_))
  refine rw_nil ?_
  refine w_cond rfl (fun hc1 => ?_) (fun hc1 => ?_)
  all_goals try simp only [bs] at hc1
  · refine w_seq ?_
    refine w_region ?_
    refine rw_t 2 rfl rfl rfl (do_assign rfl ?_)
    refine rw_nil ?_
    have hz := hnb1 hc1
    refine n_ghost Int 1 (encI .i64) 0 (fun _ => rfl) (fun _ _ h => by simp [encI] at h; subst h; rfl) ?_
    refine w_nilE 2 1 0 rfl ?_
    refine w_ret ?_
    exact ret_eq (.inl rfl) (.cons (res_tmp rfl) .nil) [0, 1] (congrArg (fun n => SV.slc 1 0 n none) hz.symm) ⟨shR rfl, .inr ⟨_, rfl, .inl (congrArg (SO.ints true .i64) (List.eq_nil_of_length_eq_zero hz))⟩, trivial⟩ rfl (pre_ok rfl)
  refine w_skip ?_
  refine w_seq ?_
  refine w_region ?_
  refine rw_t 5 rfl rfl rfl (n_bs (nm := 1) Int (encI .i64) 0 [] rfl rfl rfl rfl rfl (fun _ => rfl) (fun _ _ h => by simp [encI] at h; subst h; rfl) rfl ?_)
  refine rw_t 6 rfl rfl rfl (do_move rfl ?_)
  refine rw_t 7 rfl rfl rfl (n_app_e (nm := 2) rfl rfl rfl rfl rfl (by first | omega | (simp only [ls] <;> omega)) (by omega) (by omega) rfl ?_)
  refine rw_t 2 rfl rfl rfl (do_assign rfl ?_)
  refine rw_nil ?_
  refine w_ret ?_
  exact ret_eq (.inl rfl) (.cons (res_tmp rfl) .nil) [0, 2] (rfl) ⟨shR rfl, shR rfl, trivial⟩ rfl (pre_ok rfl)
set_option maxHeartbeats 8000000 in
set_option synthInstance.maxHeartbeats 400000 in
set_option synthInstance.maxSize 2000 in
theorem t_CloneInts (xs : List Int) (hl : xs.length < 1073741824) : Tri Try.prog 63 [.slc 0 0 xs.length none] [SO.ints false .i64 xs] (fun s H => s = .slc 1 0 xs.length none ∧ H = [SO.ints false .i64 xs, SO.ints true .i64 xs]) := by
  refine tri_of_w (fn := Try.f63) Try.func63 rfl (by simp [Try.f63]) ?_
  intro ρ w hρ
  refine w_seq ?_
  refine w_region ?_
  refine rw_t 2 rfl rfl rfl (do_assign rfl ?_)
  refine rw_nil ?_
  refine w_seq ?_
  refine w_seq ?_
  refine w_region ?_
  refine rw_t 3 rfl rfl rfl (do_move rfl ?_)
  refine rw_t 4 rfl rfl rfl (do_slnil (rt := 0) rfl (fun nb1 hnb1 => ?_))
  refine rw_nil ?_
  refine w_cond rfl (fun hc1 => ?_) (fun hc1 => ?_)
  all_goals try simp only [bs] at hc1
  · refine w_seq ?_
    refine w_region ?_
    refine rw_t 2 rfl rfl rfl (do_assign rfl ?_)
    refine rw_nil ?_
    have hz := hnb1 hc1
    refine n_ghost Int 1 (encI .i64) 0 (fun _ => rfl) (fun _ _ h => by simp [encI] at h; subst h; rfl) ?_
    refine w_nilE 2 1 0 rfl ?_
    refine w_ret ?_
    exact ret_eq (.inl rfl) (.cons (res_tmp rfl) .nil) [0, 1] (congrArg (fun n => SV.slc 1 0 n none) hz.symm) ⟨shR rfl, .inr ⟨_, rfl, .inl (congrArg (SO.ints true .i64) (List.eq_nil_of_length_eq_zero hz))⟩, trivial⟩ rfl (pre_ok rfl)
  refine w_skip ?_
  refine w_seq ?_
  refine w_region ?_
  refine rw_t 5 rfl rfl rfl (n_bs (nm := 1) Int (encI .i64) 0 [] rfl rfl rfl rfl rfl (fun _ => rfl) (fun _ _ h => by simp [encI] at h; subst h; rfl) rfl ?_)
  refine rw_t 6 rfl rfl rfl (do_move rfl ?_)
  refine rw_t 7 rfl rfl rfl (n_app_e (nm := 2) rfl rfl rfl rfl rfl (by first | omega | (simp only [ls] <;> omega)) (by omega) (by omega) rfl ?_)
  refine rw_t 2 rfl rfl rfl (do_assign rfl ?_)
  refine rw_nil ?_
  refine w_ret ?_
  exact ret_eq (.inl rfl) (.cons (res_tmp rfl) .nil) [0, 2] (rfl) ⟨shR rfl, shR rfl, trivial⟩ rfl (pre_ok rfl)
set_option maxHeartbeats 8000000 in
set_option synthInstance.maxHeartbeats 400000 in
set_option synthInstance.maxSize 2000 in
theorem t_own (p : Pre) (hl : p.Res.length < 1073741824 ∧ p.Ex.length < 1073741824 ∧ p.H.length < 1073741824) : Tri Try.prog 42 [.agg [.slc 0 0 p.Res.length none, .slc 1 0 p.Ex.length none, .slc 2 0 p.H.length none]] [SO.ints false .i64 p.Res, SO.ints false .i64 p.Ex, SO.ints false .i64 p.H] (fun s H => s = .agg [.slc 3 0 p.Res.length none, .slc 4 0 p.Ex.length none, .slc 5 0 p.H.length none] ∧ H = [SO.ints false .i64 p.Res, SO.ints false .i64 p.Ex, SO.ints false .i64 p.H, SO.ints true .i64 p.Res, SO.ints true .i64 p.Ex, SO.ints true .i64 p.H]) := by
  refine tri_of_w (fn := Try.f42) Try.func42 rfl (by simp [Try.f42]) ?_
  intro ρ w hρ
  refine w_seq ?_
  refine w_region ?_
  refine rw_t 1 rfl rfl rfl (n_box_agg (n := 3) rfl rfl ?_)
  refine rw_t 2 rfl rfl rfl (n_alloc (n := 4) rfl ?_)
  refine rw_nil ?_
  refine w_seq ?_
  refine w_draw mixed [0, 1, 3, 0, 8, 31, 0, 64] [255, 511, 1023] (by kernel_rfl) (by kernel_rfl) rfl rfl rfl (hle hρ rfl) ?_
  refine ra_q (j := 0) rfl rfl rfl rfl (do_fieldaddr rfl ⟨rfl, rfl⟩) (by rfl) ?_
  refine ra_q (j := 1) rfl rfl rfl rfl (do_load_box rfl rfl rfl ⟨rfl, rfl⟩) (by rfl) ?_
  refine ra_n (j := 2) rfl rfl rfl rfl (g_callN (X' := .slc 5 0 p.Res.length none) (N' := [SO.ints true .i64 p.Res]) rfl rfl (t_CloneLongs (xs := p.Res) (by omega)) [0] ⟨.inr ⟨_, rfl, srv⟩, trivial⟩ rfl rfl rfl rfl rfl ⟨rfl, rfl⟩) (by rfl) (by rfl) (by rfl) ?_
  refine ra_q (j := 3) rfl rfl rfl rfl (do_fieldaddr rfl ⟨rfl, rfl⟩) (by rfl) ?_
  refine ra_q (j := 4) rfl rfl rfl rfl (do_load_box rfl rfl rfl ⟨rfl, rfl⟩) (by rfl) ?_
  refine ra_n (j := 5) rfl rfl rfl rfl (g_callN (X' := .slc 6 0 p.Ex.length none) (N' := [SO.ints true .i64 p.Ex]) rfl rfl (t_CloneLongs (xs := p.Ex) (by omega)) [1] ⟨.inr ⟨_, rfl, srv⟩, trivial⟩ rfl rfl rfl rfl rfl ⟨rfl, rfl⟩) (by rfl) (by rfl) (by rfl) ?_
  refine ra_q (j := 6) rfl rfl rfl rfl (do_fieldaddr rfl ⟨rfl, rfl⟩) (by rfl) ?_
  refine ra_q (j := 7) rfl rfl rfl rfl (do_load_box rfl rfl rfl ⟨rfl, rfl⟩) (by rfl) ?_
  refine n_done ?_
  refine rw_t 11 rfl rfl rfl (n_callN (X' := .slc 7 0 p.H.length none) (N' := [SO.ints true .i64 p.H]) rfl rfl (t_CloneInts (xs := p.H) (by omega)) [2] ⟨.inr ⟨_, rfl, srv⟩, trivial⟩ rfl rfl rfl rfl rfl ?_)
  refine rw_t 12 rfl rfl rfl (do_build (out := [_, _, _]) rfl rfl ?_)
  refine rw_u rfl rfl (n_store_whole rfl rfl rfl rfl rfl rfl ?_)
  refine rw_nil ?_
  refine w_ret ?_
  exact ret_eq (.inl rfl) (.cons (res_agg rfl rfl (Nat.le_of_ble_eq_true rfl)) .nil) [0, 1, 2, 5, 6, 7] (rfl) ⟨shR rfl, shR rfl, shR rfl, shR rfl, shR rfl, shR rfl, trivial⟩ rfl (pre_ok rfl)
set_option maxHeartbeats 8000000 in
set_option synthInstance.maxHeartbeats 400000 in
set_option synthInstance.maxSize 2000 in
theorem t_push (c : Csr) (p : Pre) (h : CsrOK c) (hp : PreLen c p) (e : Event) (he : EvIn e) (hu : 0 ≤ e.u ∧ e.u < c.N) : Tri Try.prog 39 [.agg [.val (.int .i64 c.N), .val (.int .i64 c.S), .val (.int .i64 c.T), .slc 0 0 c.First.length none, .slc 1 0 c.Head.length none, .slc 2 0 c.Rev.length none, .slc 3 0 c.Cap.length none, .slc 4 0 c.Arc.length none, .slc 5 0 c.Back.length none, .slc 6 0 p.Res.length none, .slc 7 0 p.Ex.length none, .slc 8 0 p.H.length none], .agg [.val (.int .i64 e.who), .val (.int .u8 e.what), .val (.int .i64 e.u), .val (.int .i64 e.arc), .val (.int .i64 e.d), .val (.int .i64 e.h), .val (.int .i64 e.low)]] [SO.ints false .i64 c.First, SO.ints false .i64 c.Head, SO.ints false .i64 c.Rev, SO.ints false .i64 c.Cap, SO.ints false .i64 c.Arc, SO.bools false c.Back, SO.ints false .i64 p.Res, SO.ints false .i64 p.Ex, SO.ints false .i64 p.H] (fun s H => s = .val (.int .i64 (pushE c p e)) ∧ H = [SO.ints false .i64 c.First, SO.ints false .i64 c.Head, SO.ints false .i64 c.Rev, SO.ints false .i64 c.Cap, SO.ints false .i64 c.Arc, SO.bools false c.Back, SO.ints false .i64 p.Res, SO.ints false .i64 p.Ex, SO.ints false .i64 p.H]) := by
  refine tri_of_w (fn := Try.f39) Try.func39 rfl (by simp [Try.f39]) ?_
  intro ρ w hρ
  refine w_seq ?_
  refine w_region ?_
  refine rw_t 2 rfl rfl rfl (n_box_agg (n := 9) rfl rfl ?_)
  refine rw_t 3 rfl rfl rfl (n_box_agg (n := 10) rfl rfl ?_)
  refine rw_t 4 rfl rfl rfl (do_assign rfl ?_)
  refine rw_nil ?_
  refine w_seq ?_
  refine w_block ?_
  have hn := h.n
  have hf := h.first
  have hhd := h.head
  have hrl := h.rev
  have hcl := h.cap
  have hal := h.arc
  have hbl := h.back
  have hr := hp.res
  have hx := hp.ex
  have hh := hp.h
  have hm := h.mono e.u.toNat (by omega)
  have hmt : (e.u + 1).toNat = e.u.toNat + 1 := by omega
  rw [← hmt] at hm
  refine w_seqB 5 ((e.arc < (c.First.getD e.u.toNat 0) ∨ e.arc ≥ (c.First.getD ((e.u + 1).toNat) 0))) ?_ ?_
  · -- region 1
    refine w_draw mixed [0, 1, 0, 4, 12, 0, 32, 124, 252, 511, 1023, 2047, 4095, 2047, 10239, 26623, 2047, 67583, 198655, 518143, 1042431] [2097151, 4194303, 8388607] (by kernel_rfl) (by kernel_rfl) rfl rfl rfl (hle hρ rfl) ?_
    refine ra_q (j := 0) rfl rfl rfl rfl (do_fieldaddr rfl ⟨rfl, rfl⟩) (by rfl) ?_
    refine ra_q (j := 1) rfl rfl rfl rfl (do_load_box rfl rfl rfl ⟨rfl, rfl⟩) (by rfl) ?_
    refine ra_q (j := 2) rfl rfl rfl rfl (do_fieldaddr rfl ⟨rfl, rfl⟩) (by rfl) ?_
    refine ra_q (j := 3) rfl rfl rfl rfl (do_fieldaddr rfl ⟨rfl, rfl⟩) (by rfl) ?_
    refine ra_q (j := 4) rfl rfl rfl rfl (do_load_box rfl rfl rfl ⟨rfl, rfl⟩) (by rfl) ?_
    refine ra_q (j := 5) rfl rfl rfl rfl (do_fieldaddr rfl ⟨rfl, rfl⟩) (by rfl) ?_
    refine ra_q (j := 6) rfl rfl rfl rfl (do_load_box rfl rfl rfl ⟨rfl, rfl⟩) (by rfl) ?_
    refine ra_q (j := 7) rfl rfl rfl rfl (do_ix0 rfl rfl rfl (by first | omega | (simp only [ls] <;> omega)) ⟨rfl, rfl⟩) (by rfl) ?_
    refine ra_q (j := 8) rfl rfl rfl rfl (do_load_arr rfl rfl (by first | omega | (simp only [ls] <;> omega)) rfl ⟨rfl, rfl⟩) (by rfl) ?_
    refine ra_q (j := 9) rfl rfl rfl rfl (do_bin rfl rfl rfl ⟨rfl, rfl⟩) (by rfl) ?_
    refine ra_q (j := 10) rfl rfl rfl rfl (do_move rfl ⟨rfl, rfl⟩) (by rfl) ?_
    refine ra_case 16 rfl (fun g1 => ?_) (fun g1 => ?_)
    · have kg1 := g1
      try simp only [bs] at kg1
      refine ra_gf (j := 11) rfl rfl rfl rfl (by rw [g1]; decide) rfl rfl rfl ?_
      refine ra_gf (j := 12) rfl rfl rfl rfl (by rw [g1]; decide) rfl rfl rfl ?_
      refine ra_gf (j := 13) rfl rfl rfl rfl (by rw [g1]; decide) rfl rfl rfl ?_
      refine ra_gf (j := 14) rfl rfl rfl rfl (by rw [g1]; decide) rfl rfl rfl ?_
      refine ra_gf (j := 15) rfl rfl rfl rfl (by rw [g1]; decide) rfl rfl rfl ?_
      refine ra_gf (j := 16) rfl rfl rfl rfl (by rw [g1]; decide) rfl rfl rfl ?_
      refine ra_gf (j := 17) rfl rfl rfl rfl (by rw [g1]; decide) rfl rfl rfl ?_
      refine ra_gf (j := 18) rfl rfl rfl rfl (by rw [g1]; decide) rfl rfl rfl ?_
      refine ra_gf (j := 19) rfl rfl rfl rfl (by rw [g1]; decide) rfl rfl rfl ?_
      refine ra_gf (j := 20) rfl rfl rfl rfl (by rw [g1]; decide) rfl rfl rfl ?_
      refine n_done ?_
      refine rw_gf 27 10 16 false rfl rfl rfl rfl rfl rfl (by rw [g1]; decide) ?_
      refine rw_t 28 rfl rfl rfl (do_pick_t rfl g1 rfl ?_)
      refine rw_t 5 rfl rfl rfl (do_assign rfl ?_)
      refine rw_nil ?_
      refine ⟨rfl, ⟨_, rfl, by first | (simp; done) | (simp only [bs]; omega) | (simp [*]; done) | (simp; omega) | (constructor <;> intro h <;> simp_all <;> omega)⟩, ?_⟩
      repeat (refine ⟨⟨_, rfl, rfl⟩, ?_⟩)
      exact trivial
    · have kg1 := g1
      try simp only [bs] at kg1
      refine ra_gt (j := 11) rfl rfl rfl rfl g1 rfl rfl rfl (do_fieldaddr rfl ⟨rfl, rfl⟩) (by rfl) ?_
      refine ra_gt (j := 12) rfl rfl rfl rfl g1 rfl rfl rfl (do_load_box rfl rfl rfl ⟨rfl, rfl⟩) (by rfl) ?_
      refine ra_gt (j := 13) rfl rfl rfl rfl g1 rfl rfl rfl (do_fieldaddr rfl ⟨rfl, rfl⟩) (by rfl) ?_
      refine ra_gt (j := 14) rfl rfl rfl rfl g1 rfl rfl rfl (do_fieldaddr rfl ⟨rfl, rfl⟩) (by rfl) ?_
      refine ra_gt (j := 15) rfl rfl rfl rfl g1 rfl rfl rfl (do_load_box rfl rfl rfl ⟨rfl, rfl⟩) (by rfl) ?_
      refine ra_gt (j := 16) rfl rfl rfl rfl g1 rfl rfl rfl (do_fieldaddr rfl ⟨rfl, rfl⟩) (by rfl) ?_
      refine ra_gt (j := 17) rfl rfl rfl rfl g1 rfl rfl rfl (do_load_box rfl rfl rfl ⟨rfl, rfl⟩) (by rfl) ?_
      refine ra_gt (j := 18) rfl rfl rfl rfl g1 rfl rfl rfl (do_add rfl rfl (by omega) ⟨rfl, rfl⟩) (by rfl) ?_
      refine ra_gt (j := 19) rfl rfl rfl rfl g1 rfl rfl rfl (do_ix0 rfl rfl rfl (by first | omega | (simp only [ls] <;> omega)) ⟨rfl, rfl⟩) (by rfl) ?_
      refine ra_gt (j := 20) rfl rfl rfl rfl g1 rfl rfl rfl (do_load_arr rfl rfl (by first | omega | (simp only [ls] <;> omega)) rfl ⟨rfl, rfl⟩) (by rfl) ?_
      refine n_done ?_
      refine rw_gt 27 10 16 false rfl rfl rfl rfl rfl rfl g1 (do_bin rfl rfl rfl ?_)
      refine rw_t 28 rfl rfl rfl (do_pick_f rfl g1 rfl ?_)
      refine rw_t 5 rfl rfl rfl (do_assign rfl ?_)
      refine rw_nil ?_
      refine ⟨rfl, ⟨_, rfl, by first | (simp; done) | (simp only [bs]; omega) | (simp [*]; done) | (simp; omega) | (constructor <;> intro h <;> simp_all <;> omega)⟩, ?_⟩
      repeat (refine ⟨⟨_, rfl, rfl⟩, ?_⟩)
      exact trivial
  intro b1 hb1
  refine w_condP hb1 rfl (fun hc1 => ?_) (fun hc1 => ?_)
  · refine w_seq ?_
    refine w_region ?_
    refine rw_t 4 rfl rfl rfl (do_assign rfl ?_)
    refine rw_nil ?_
    refine w_ret ?_
    exact ret_eq (.inl rfl) (.cons (res_tmp rfl) .nil) [0, 1, 2, 3, 4, 5, 6, 7, 8] (Eq.symm (val_congr (by unfold pushE; (repeat' split) <;> first | rfl | (exfalso; omega)))) ⟨shR rfl, shR rfl, shR rfl, shR rfl, shR rfl, shR rfl, shR rfl, shR rfl, shR rfl, trivial⟩ rfl (pre_ok rfl)
  refine w_seqB 29 ((((e.d < 1 ∨ e.d > (if (p.Res.getD e.arc.toNat 0) < (p.Ex.getD e.u.toNat 0) then (p.Res.getD e.arc.toNat 0) else (p.Ex.getD e.u.toNat 0))) ∨ e.h ≠ (p.H.getD e.u.toNat 0)) ∨ e.h ≤ e.low)) ?_ ?_
  · -- region 3
    refine w_draw mixed [0, 1, 3, 7, 15, 31, 15, 79, 207, 15, 527, 1999, 4047, 15, 8207, 24591, 15, 65551, 253967, 516111, 1048527, 2097151, 4194303, 8388607, 16777215, 33554431, 16777215, 83886079, 218103807, 16777215, 553648127, 2097151999, 4244635647, 8589934591, 17179869183, 34359738367, 68719476735, 137438953471, 68719476735, 343597383679] [1099511627775, 2199023255551, 4398046511103] (by kernel_rfl) (by kernel_rfl) rfl rfl rfl (hle hρ rfl) ?_
    refine ra_q (j := 0) rfl rfl rfl rfl (do_fieldaddr rfl ⟨rfl, rfl⟩) (by rfl) ?_
    refine ra_q (j := 1) rfl rfl rfl rfl (do_load_box rfl rfl rfl ⟨rfl, rfl⟩) (by rfl) ?_
    refine ra_q (j := 2) rfl rfl rfl rfl (do_bin rfl rfl rfl ⟨rfl, rfl⟩) (by rfl) ?_
    refine ra_q (j := 3) rfl rfl rfl rfl (do_move rfl ⟨rfl, rfl⟩) (by rfl) ?_
    refine ra_case 33 rfl (fun g2 => ?_) (fun g2 => ?_)
    · have kg2 := g2
      try simp only [bs] at kg2
      refine ra_gf (j := 4) rfl rfl rfl rfl (by rw [g2]; decide) rfl rfl rfl ?_
      refine ra_gf (j := 5) rfl rfl rfl rfl (by rw [g2]; decide) rfl rfl rfl ?_
      refine ra_gf (j := 6) rfl rfl rfl rfl (by rw [g2]; decide) rfl rfl rfl ?_
      refine ra_gf (j := 7) rfl rfl rfl rfl (by rw [g2]; decide) rfl rfl rfl ?_
      refine ra_gf (j := 8) rfl rfl rfl rfl (by rw [g2]; decide) rfl rfl rfl ?_
      refine ra_gf (j := 9) rfl rfl rfl rfl (by rw [g2]; decide) rfl rfl rfl ?_
      refine ra_gf (j := 10) rfl rfl rfl rfl (by rw [g2]; decide) rfl rfl rfl ?_
      refine ra_gf (j := 11) rfl rfl rfl rfl (by rw [g2]; decide) rfl rfl rfl ?_
      refine ra_gf (j := 12) rfl rfl rfl rfl (by rw [g2]; decide) rfl rfl rfl ?_
      refine ra_gf (j := 13) rfl rfl rfl rfl (by rw [g2]; decide) rfl rfl rfl ?_
      refine ra_gf (j := 14) rfl rfl rfl rfl (by rw [g2]; decide) rfl rfl rfl ?_
      refine ra_gf (j := 15) rfl rfl rfl rfl (by rw [g2]; decide) rfl rfl rfl ?_
      refine ra_gf (j := 16) rfl rfl rfl rfl (by rw [g2]; decide) rfl rfl rfl ?_
      refine ra_gf (j := 17) rfl rfl rfl rfl (by rw [g2]; decide) rfl rfl rfl ?_
      refine ra_gf (j := 18) rfl rfl rfl rfl (by rw [g2]; decide) rfl rfl rfl ?_
      refine ra_gf (j := 19) rfl rfl rfl rfl (by rw [g2]; decide) rfl rfl rfl ?_
      refine ra_gf (j := 20) rfl rfl rfl rfl (by rw [g2]; decide) rfl rfl rfl ?_
      refine ra_gf (j := 21) rfl rfl rfl rfl (by rw [g2]; decide) rfl rfl rfl ?_
      refine ra_q (j := 22) rfl rfl rfl rfl (do_pick_t rfl g2 rfl ⟨rfl, rfl⟩) (by rfl) ?_
      refine ra_q (j := 23) rfl rfl rfl rfl (do_move rfl ⟨rfl, rfl⟩) (by rfl) ?_
      refine ra_gf (j := 24) rfl rfl rfl rfl (by decide) rfl rfl rfl ?_
      refine ra_gf (j := 25) rfl rfl rfl rfl (by decide) rfl rfl rfl ?_
      refine ra_gf (j := 26) rfl rfl rfl rfl (by decide) rfl rfl rfl ?_
      refine ra_gf (j := 27) rfl rfl rfl rfl (by decide) rfl rfl rfl ?_
      refine ra_gf (j := 28) rfl rfl rfl rfl (by decide) rfl rfl rfl ?_
      refine ra_gf (j := 29) rfl rfl rfl rfl (by decide) rfl rfl rfl ?_
      refine ra_gf (j := 30) rfl rfl rfl rfl (by decide) rfl rfl rfl ?_
      refine ra_gf (j := 31) rfl rfl rfl rfl (by decide) rfl rfl rfl ?_
      refine ra_gf (j := 32) rfl rfl rfl rfl (by decide) rfl rfl rfl ?_
      refine ra_gf (j := 33) rfl rfl rfl rfl (by decide) rfl rfl rfl ?_
      refine ra_q (j := 34) rfl rfl rfl rfl (do_pick_t rfl rfl rfl ⟨rfl, rfl⟩) (by rfl) ?_
      refine ra_q (j := 35) rfl rfl rfl rfl (do_move rfl ⟨rfl, rfl⟩) (by rfl) ?_
      refine ra_gf (j := 36) rfl rfl rfl rfl (by decide) rfl rfl rfl ?_
      refine ra_gf (j := 37) rfl rfl rfl rfl (by decide) rfl rfl rfl ?_
      refine ra_gf (j := 38) rfl rfl rfl rfl (by decide) rfl rfl rfl ?_
      refine ra_gf (j := 39) rfl rfl rfl rfl (by decide) rfl rfl rfl ?_
      refine n_done ?_
      refine rw_gf 70 35 65 false rfl rfl rfl rfl rfl rfl (by decide) ?_
      refine rw_t 71 rfl rfl rfl (do_pick_t rfl rfl rfl ?_)
      refine rw_t 29 rfl rfl rfl (do_assign rfl ?_)
      refine rw_nil ?_
      refine ⟨rfl, ⟨_, rfl, by first | (simp; done) | (simp only [bs]; omega) | (simp [*]; done) | (simp; omega) | (constructor <;> intro h <;> simp_all <;> omega)⟩, ?_⟩
      repeat (refine ⟨⟨_, rfl, rfl⟩, ?_⟩)
      exact trivial
    · have kg2 := g2
      try simp only [bs] at kg2
      refine ra_gt (j := 4) rfl rfl rfl rfl g2 rfl rfl rfl (do_fieldaddr rfl ⟨rfl, rfl⟩) (by rfl) ?_
      refine ra_gt (j := 5) rfl rfl rfl rfl g2 rfl rfl rfl (do_load_box rfl rfl rfl ⟨rfl, rfl⟩) (by rfl) ?_
      refine ra_gt (j := 6) rfl rfl rfl rfl g2 rfl rfl rfl (do_fieldaddr rfl ⟨rfl, rfl⟩) (by rfl) ?_
      refine ra_gt (j := 7) rfl rfl rfl rfl g2 rfl rfl rfl (do_fieldaddr rfl ⟨rfl, rfl⟩) (by rfl) ?_
      refine ra_gt (j := 8) rfl rfl rfl rfl g2 rfl rfl rfl (do_load_box rfl rfl rfl ⟨rfl, rfl⟩) (by rfl) ?_
      refine ra_gt (j := 9) rfl rfl rfl rfl g2 rfl rfl rfl (do_fieldaddr rfl ⟨rfl, rfl⟩) (by rfl) ?_
      refine ra_gt (j := 10) rfl rfl rfl rfl g2 rfl rfl rfl (do_load_box rfl rfl rfl ⟨rfl, rfl⟩) (by rfl) ?_
      refine ra_gt (j := 11) rfl rfl rfl rfl g2 rfl rfl rfl (do_ix0 rfl rfl rfl (by first | omega | (simp only [ls] <;> omega)) ⟨rfl, rfl⟩) (by rfl) ?_
      refine ra_gt (j := 12) rfl rfl rfl rfl g2 rfl rfl rfl (do_load_arr rfl rfl (by first | omega | (simp only [ls] <;> omega)) rfl ⟨rfl, rfl⟩) (by rfl) ?_
      refine ra_gt (j := 13) rfl rfl rfl rfl g2 rfl rfl rfl (do_fieldaddr rfl ⟨rfl, rfl⟩) (by rfl) ?_
      refine ra_gt (j := 14) rfl rfl rfl rfl g2 rfl rfl rfl (do_fieldaddr rfl ⟨rfl, rfl⟩) (by rfl) ?_
      refine ra_gt (j := 15) rfl rfl rfl rfl g2 rfl rfl rfl (do_load_box rfl rfl rfl ⟨rfl, rfl⟩) (by rfl) ?_
      refine ra_gt (j := 16) rfl rfl rfl rfl g2 rfl rfl rfl (do_fieldaddr rfl ⟨rfl, rfl⟩) (by rfl) ?_
      refine ra_gt (j := 17) rfl rfl rfl rfl g2 rfl rfl rfl (do_load_box rfl rfl rfl ⟨rfl, rfl⟩) (by rfl) ?_
      refine ra_gt (j := 18) rfl rfl rfl rfl g2 rfl rfl rfl (do_ix0 rfl rfl rfl (by first | omega | (simp only [ls] <;> omega)) ⟨rfl, rfl⟩) (by rfl) ?_
      refine ra_gt (j := 19) rfl rfl rfl rfl g2 rfl rfl rfl (do_load_arr rfl rfl (by first | omega | (simp only [ls] <;> omega)) rfl ⟨rfl, rfl⟩) (by rfl) ?_
      refine ra_gt (j := 20) rfl rfl rfl rfl g2 rfl rfl rfl (do_min rfl rfl ⟨rfl, rfl⟩) (by rfl) ?_
      refine ra_gt (j := 21) rfl rfl rfl rfl g2 rfl rfl rfl (do_bin rfl rfl rfl ⟨rfl, rfl⟩) (by rfl) ?_
      refine ra_q (j := 22) rfl rfl rfl rfl (do_pick_f rfl g2 rfl ⟨rfl, rfl⟩) (by rfl) ?_
      refine ra_q (j := 23) rfl rfl rfl rfl (do_move rfl ⟨rfl, rfl⟩) (by rfl) ?_
      refine ra_case 53 rfl (fun g3 => ?_) (fun g3 => ?_)
      · have kg3 := g3
        try simp only [bs] at kg3
        refine ra_gf (j := 24) rfl rfl rfl rfl (by rw [g3]; decide) rfl rfl rfl ?_
        refine ra_gf (j := 25) rfl rfl rfl rfl (by rw [g3]; decide) rfl rfl rfl ?_
        refine ra_gf (j := 26) rfl rfl rfl rfl (by rw [g3]; decide) rfl rfl rfl ?_
        refine ra_gf (j := 27) rfl rfl rfl rfl (by rw [g3]; decide) rfl rfl rfl ?_
        refine ra_gf (j := 28) rfl rfl rfl rfl (by rw [g3]; decide) rfl rfl rfl ?_
        refine ra_gf (j := 29) rfl rfl rfl rfl (by rw [g3]; decide) rfl rfl rfl ?_
        refine ra_gf (j := 30) rfl rfl rfl rfl (by rw [g3]; decide) rfl rfl rfl ?_
        refine ra_gf (j := 31) rfl rfl rfl rfl (by rw [g3]; decide) rfl rfl rfl ?_
        refine ra_gf (j := 32) rfl rfl rfl rfl (by rw [g3]; decide) rfl rfl rfl ?_
        refine ra_gf (j := 33) rfl rfl rfl rfl (by rw [g3]; decide) rfl rfl rfl ?_
        refine ra_q (j := 34) rfl rfl rfl rfl (do_pick_t rfl g3 rfl ⟨rfl, rfl⟩) (by rfl) ?_
        refine ra_q (j := 35) rfl rfl rfl rfl (do_move rfl ⟨rfl, rfl⟩) (by rfl) ?_
        refine ra_gf (j := 36) rfl rfl rfl rfl (by decide) rfl rfl rfl ?_
        refine ra_gf (j := 37) rfl rfl rfl rfl (by decide) rfl rfl rfl ?_
        refine ra_gf (j := 38) rfl rfl rfl rfl (by decide) rfl rfl rfl ?_
        refine ra_gf (j := 39) rfl rfl rfl rfl (by decide) rfl rfl rfl ?_
        refine n_done ?_
        refine rw_gf 70 35 65 false rfl rfl rfl rfl rfl rfl (by decide) ?_
        refine rw_t 71 rfl rfl rfl (do_pick_t rfl rfl rfl ?_)
        refine rw_t 29 rfl rfl rfl (do_assign rfl ?_)
        refine rw_nil ?_
        refine ⟨rfl, ⟨_, rfl, by first | (simp; done) | (simp only [bs]; omega) | (simp [*]; done) | (simp; omega) | (constructor <;> intro h <;> simp_all <;> omega)⟩, ?_⟩
        repeat (refine ⟨⟨_, rfl, rfl⟩, ?_⟩)
        exact trivial
      · have kg3 := g3
        try simp only [bs] at kg3
        refine ra_gt (j := 24) rfl rfl rfl rfl g3 rfl rfl rfl (do_fieldaddr rfl ⟨rfl, rfl⟩) (by rfl) ?_
        refine ra_gt (j := 25) rfl rfl rfl rfl g3 rfl rfl rfl (do_load_box rfl rfl rfl ⟨rfl, rfl⟩) (by rfl) ?_
        refine ra_gt (j := 26) rfl rfl rfl rfl g3 rfl rfl rfl (do_fieldaddr rfl ⟨rfl, rfl⟩) (by rfl) ?_
        refine ra_gt (j := 27) rfl rfl rfl rfl g3 rfl rfl rfl (do_fieldaddr rfl ⟨rfl, rfl⟩) (by rfl) ?_
        refine ra_gt (j := 28) rfl rfl rfl rfl g3 rfl rfl rfl (do_load_box rfl rfl rfl ⟨rfl, rfl⟩) (by rfl) ?_
        refine ra_gt (j := 29) rfl rfl rfl rfl g3 rfl rfl rfl (do_fieldaddr rfl ⟨rfl, rfl⟩) (by rfl) ?_
        refine ra_gt (j := 30) rfl rfl rfl rfl g3 rfl rfl rfl (do_load_box rfl rfl rfl ⟨rfl, rfl⟩) (by rfl) ?_
        refine ra_gt (j := 31) rfl rfl rfl rfl g3 rfl rfl rfl (do_ix0 rfl rfl rfl (by first | omega | (simp only [ls] <;> omega)) ⟨rfl, rfl⟩) (by rfl) ?_
        refine ra_gt (j := 32) rfl rfl rfl rfl g3 rfl rfl rfl (do_load_arr rfl rfl (by first | omega | (simp only [ls] <;> omega)) rfl ⟨rfl, rfl⟩) (by rfl) ?_
        refine ra_gt (j := 33) rfl rfl rfl rfl g3 rfl rfl rfl (do_bin rfl rfl rfl ⟨rfl, rfl⟩) (by rfl) ?_
        refine ra_q (j := 34) rfl rfl rfl rfl (do_pick_f rfl g3 rfl ⟨rfl, rfl⟩) (by rfl) ?_
        refine ra_q (j := 35) rfl rfl rfl rfl (do_move rfl ⟨rfl, rfl⟩) (by rfl) ?_
        refine ra_case 65 rfl (fun g4 => ?_) (fun g4 => ?_)
        · have kg4 := g4
          try simp only [bs] at kg4
          refine ra_gf (j := 36) rfl rfl rfl rfl (by rw [g4]; decide) rfl rfl rfl ?_
          refine ra_gf (j := 37) rfl rfl rfl rfl (by rw [g4]; decide) rfl rfl rfl ?_
          refine ra_gf (j := 38) rfl rfl rfl rfl (by rw [g4]; decide) rfl rfl rfl ?_
          refine ra_gf (j := 39) rfl rfl rfl rfl (by rw [g4]; decide) rfl rfl rfl ?_
          refine n_done ?_
          refine rw_gf 70 35 65 false rfl rfl rfl rfl rfl rfl (by rw [g4]; decide) ?_
          refine rw_t 71 rfl rfl rfl (do_pick_t rfl g4 rfl ?_)
          refine rw_t 29 rfl rfl rfl (do_assign rfl ?_)
          refine rw_nil ?_
          refine ⟨rfl, ⟨_, rfl, by first | (simp; done) | (simp only [bs]; omega) | (simp [*]; done) | (simp; omega) | (constructor <;> intro h <;> simp_all <;> omega)⟩, ?_⟩
          repeat (refine ⟨⟨_, rfl, rfl⟩, ?_⟩)
          exact trivial
        · have kg4 := g4
          try simp only [bs] at kg4
          refine ra_gt (j := 36) rfl rfl rfl rfl g4 rfl rfl rfl (do_fieldaddr rfl ⟨rfl, rfl⟩) (by rfl) ?_
          refine ra_gt (j := 37) rfl rfl rfl rfl g4 rfl rfl rfl (do_load_box rfl rfl rfl ⟨rfl, rfl⟩) (by rfl) ?_
          refine ra_gt (j := 38) rfl rfl rfl rfl g4 rfl rfl rfl (do_fieldaddr rfl ⟨rfl, rfl⟩) (by rfl) ?_
          refine ra_gt (j := 39) rfl rfl rfl rfl g4 rfl rfl rfl (do_load_box rfl rfl rfl ⟨rfl, rfl⟩) (by rfl) ?_
          refine n_done ?_
          refine rw_gt 70 35 65 false rfl rfl rfl rfl rfl rfl g4 (do_bin rfl rfl rfl ?_)
          refine rw_t 71 rfl rfl rfl (do_pick_f rfl g4 rfl ?_)
          refine rw_t 29 rfl rfl rfl (do_assign rfl ?_)
          refine rw_nil ?_
          refine ⟨rfl, ⟨_, rfl, by first | (simp; done) | (simp only [bs]; omega) | (simp [*]; done) | (simp; omega) | (constructor <;> intro h <;> simp_all <;> omega)⟩, ?_⟩
          repeat (refine ⟨⟨_, rfl, rfl⟩, ?_⟩)
          exact trivial
  intro b2 hb2
  refine w_condP hb2 rfl (fun hc2 => ?_) (fun hc2 => ?_)
  · refine w_seq ?_
    refine w_region ?_
    refine rw_t 4 rfl rfl rfl (do_assign rfl ?_)
    refine rw_nil ?_
    refine w_ret ?_
    exact ret_eq (.inl rfl) (.cons (res_tmp rfl) .nil) [0, 1, 2, 3, 4, 5, 6, 7, 8] (Eq.symm (val_congr (by unfold pushE; (repeat' split) <;> first | rfl | (exfalso; omega)))) ⟨shR rfl, shR rfl, shR rfl, shR rfl, shR rfl, shR rfl, shR rfl, shR rfl, shR rfl, trivial⟩ rfl (pre_ok rfl)
  refine w_skip ?_
  refine w_seq ?_
  refine w_region ?_
  refine rw_t 4 rfl rfl rfl (do_assign rfl ?_)
  refine rw_nil ?_
  refine w_ret ?_
  exact ret_eq (.inl rfl) (.cons (res_tmp rfl) .nil) [0, 1, 2, 3, 4, 5, 6, 7, 8] (Eq.symm (val_congr (by unfold pushE; (repeat' split) <;> first | rfl | (exfalso; omega)))) ⟨shR rfl, shR rfl, shR rfl, shR rfl, shR rfl, shR rfl, shR rfl, shR rfl, shR rfl, trivial⟩ rfl (pre_ok rfl)
set_option maxHeartbeats 8000000 in
set_option synthInstance.maxHeartbeats 400000 in
set_option synthInstance.maxSize 2000 in
theorem t_lift (c : Csr) (p : Pre) (h : CsrOK c) (hp : PreLen c p) (e : Event) (he : EvIn e) (hu : 0 ≤ e.u ∧ e.u < c.N) : Tri Try.prog 40 [.agg [.val (.int .i64 c.N), .val (.int .i64 c.S), .val (.int .i64 c.T), .slc 0 0 c.First.length none, .slc 1 0 c.Head.length none, .slc 2 0 c.Rev.length none, .slc 3 0 c.Cap.length none, .slc 4 0 c.Arc.length none, .slc 5 0 c.Back.length none, .slc 6 0 p.Res.length none, .slc 7 0 p.Ex.length none, .slc 8 0 p.H.length none], .agg [.val (.int .i64 e.who), .val (.int .u8 e.what), .val (.int .i64 e.u), .val (.int .i64 e.arc), .val (.int .i64 e.d), .val (.int .i64 e.h), .val (.int .i64 e.low)]] [SO.ints false .i64 c.First, SO.ints false .i64 c.Head, SO.ints false .i64 c.Rev, SO.ints false .i64 c.Cap, SO.ints false .i64 c.Arc, SO.bools false c.Back, SO.ints false .i64 p.Res, SO.ints false .i64 p.Ex, SO.ints false .i64 p.H] (fun s H => s = .val (.int .i64 (liftE c p e)) ∧ H = [SO.ints false .i64 c.First, SO.ints false .i64 c.Head, SO.ints false .i64 c.Rev, SO.ints false .i64 c.Cap, SO.ints false .i64 c.Arc, SO.bools false c.Back, SO.ints false .i64 p.Res, SO.ints false .i64 p.Ex, SO.ints false .i64 p.H]) := by
  refine tri_of_w (fn := Try.f40) Try.func40 rfl (by simp [Try.f40]) ?_
  intro ρ w hρ
  refine w_seq ?_
  refine w_region ?_
  refine rw_t 2 rfl rfl rfl (n_box_agg (n := 9) rfl rfl ?_)
  refine rw_t 3 rfl rfl rfl (n_box_agg (n := 10) rfl rfl ?_)
  refine rw_t 4 rfl rfl rfl (do_assign rfl ?_)
  refine rw_nil ?_
  refine w_seq ?_
  have hn := h.n
  have hf := h.first
  have hhd := h.head
  have hrl := h.rev
  have hcl := h.cap
  have hal := h.arc
  have hbl := h.back
  have hr := hp.res
  have hx := hp.ex
  have hh := hp.h
  refine w_seqB 23 ((e.h ≤ (p.H.getD e.u.toNat 0) ∨ e.h > (2 * c.N))) ?_ ?_
  · -- region 1
    refine w_draw mixed [0, 1, 0, 4, 12, 0, 32, 124, 252, 511, 1023, 2047, 4095, 2047, 10239, 26623, 59391] [131071, 262143] (by kernel_rfl) (by kernel_rfl) rfl rfl rfl (hle hρ rfl) ?_
    refine ra_q (j := 0) rfl rfl rfl rfl (do_fieldaddr rfl ⟨rfl, rfl⟩) (by rfl) ?_
    refine ra_q (j := 1) rfl rfl rfl rfl (do_load_box rfl rfl rfl ⟨rfl, rfl⟩) (by rfl) ?_
    refine ra_q (j := 2) rfl rfl rfl rfl (do_fieldaddr rfl ⟨rfl, rfl⟩) (by rfl) ?_
    refine ra_q (j := 3) rfl rfl rfl rfl (do_fieldaddr rfl ⟨rfl, rfl⟩) (by rfl) ?_
    refine ra_q (j := 4) rfl rfl rfl rfl (do_load_box rfl rfl rfl ⟨rfl, rfl⟩) (by rfl) ?_
    refine ra_q (j := 5) rfl rfl rfl rfl (do_fieldaddr rfl ⟨rfl, rfl⟩) (by rfl) ?_
    refine ra_q (j := 6) rfl rfl rfl rfl (do_load_box rfl rfl rfl ⟨rfl, rfl⟩) (by rfl) ?_
    refine ra_q (j := 7) rfl rfl rfl rfl (do_ix0 rfl rfl rfl (by first | omega | (simp only [ls] <;> omega)) ⟨rfl, rfl⟩) (by rfl) ?_
    refine ra_q (j := 8) rfl rfl rfl rfl (do_load_arr rfl rfl (by first | omega | (simp only [ls] <;> omega)) rfl ⟨rfl, rfl⟩) (by rfl) ?_
    refine ra_q (j := 9) rfl rfl rfl rfl (do_bin rfl rfl rfl ⟨rfl, rfl⟩) (by rfl) ?_
    refine ra_q (j := 10) rfl rfl rfl rfl (do_move rfl ⟨rfl, rfl⟩) (by rfl) ?_
    refine ra_case 15 rfl (fun g1 => ?_) (fun g1 => ?_)
    · have kg1 := g1
      try simp only [bs] at kg1
      refine ra_gf (j := 11) rfl rfl rfl rfl (by rw [g1]; decide) rfl rfl rfl ?_
      refine ra_gf (j := 12) rfl rfl rfl rfl (by rw [g1]; decide) rfl rfl rfl ?_
      refine ra_gf (j := 13) rfl rfl rfl rfl (by rw [g1]; decide) rfl rfl rfl ?_
      refine ra_gf (j := 14) rfl rfl rfl rfl (by rw [g1]; decide) rfl rfl rfl ?_
      refine ra_gf (j := 15) rfl rfl rfl rfl (by rw [g1]; decide) rfl rfl rfl ?_
      refine ra_gf (j := 16) rfl rfl rfl rfl (by rw [g1]; decide) rfl rfl rfl ?_
      refine n_done ?_
      refine rw_gf 22 10 15 false rfl rfl rfl rfl rfl rfl (by rw [g1]; decide) ?_
      refine rw_t 23 rfl rfl rfl (do_pick_t rfl g1 rfl ?_)
      refine rw_nil ?_
      refine ⟨rfl, ⟨_, rfl, by first | (simp; done) | (simp only [bs]; omega) | (simp [*]; done) | (simp; omega) | (constructor <;> intro h <;> simp_all <;> omega)⟩, ?_⟩
      repeat (refine ⟨⟨_, rfl, rfl⟩, ?_⟩)
      exact trivial
    · have kg1 := g1
      try simp only [bs] at kg1
      refine ra_gt (j := 11) rfl rfl rfl rfl g1 rfl rfl rfl (do_fieldaddr rfl ⟨rfl, rfl⟩) (by rfl) ?_
      refine ra_gt (j := 12) rfl rfl rfl rfl g1 rfl rfl rfl (do_load_box rfl rfl rfl ⟨rfl, rfl⟩) (by rfl) ?_
      refine ra_gt (j := 13) rfl rfl rfl rfl g1 rfl rfl rfl (do_fieldaddr rfl ⟨rfl, rfl⟩) (by rfl) ?_
      refine ra_gt (j := 14) rfl rfl rfl rfl g1 rfl rfl rfl (do_fieldaddr rfl ⟨rfl, rfl⟩) (by rfl) ?_
      refine ra_gt (j := 15) rfl rfl rfl rfl g1 rfl rfl rfl (do_load_box rfl rfl rfl ⟨rfl, rfl⟩) (by rfl) ?_
      refine ra_gt (j := 16) rfl rfl rfl rfl g1 rfl rfl rfl (do_mul rfl rfl (by omega) ⟨rfl, rfl⟩) (by rfl) ?_
      refine n_done ?_
      refine rw_gt 22 10 15 false rfl rfl rfl rfl rfl rfl g1 (do_bin rfl rfl rfl ?_)
      refine rw_t 23 rfl rfl rfl (do_pick_f rfl g1 rfl ?_)
      refine rw_nil ?_
      refine ⟨rfl, ⟨_, rfl, by first | (simp; done) | (simp only [bs]; omega) | (simp [*]; done) | (simp; omega) | (constructor <;> intro h <;> simp_all <;> omega)⟩, ?_⟩
      repeat (refine ⟨⟨_, rfl, rfl⟩, ?_⟩)
      exact trivial
  intro b1 hb1
  refine w_condP hb1 rfl (fun hc1 => ?_) (fun hc1 => ?_)
  · refine w_seq ?_
    refine w_region ?_
    refine rw_t 4 rfl rfl rfl (do_assign rfl ?_)
    refine rw_nil ?_
    refine w_ret ?_
    exact ret_eq (.inl rfl) (.cons (res_tmp rfl) .nil) [0, 1, 2, 3, 4, 5, 6, 7, 8] (Eq.symm (val_congr (by unfold liftE; (repeat' split) <;> first | rfl | (exfalso; omega)))) ⟨shR rfl, shR rfl, shR rfl, shR rfl, shR rfl, shR rfl, shR rfl, shR rfl, shR rfl, trivial⟩ rfl (pre_ok rfl)
  refine w_skip ?_
  refine w_seq ?_
  refine w_region ?_
  refine rw_t 4 rfl rfl rfl (do_assign rfl ?_)
  refine rw_nil ?_
  refine w_ret ?_
  exact ret_eq (.inl rfl) (.cons (res_tmp rfl) .nil) [0, 1, 2, 3, 4, 5, 6, 7, 8] (Eq.symm (val_congr (by unfold liftE; (repeat' split) <;> first | rfl | (exfalso; omega)))) ⟨shR rfl, shR rfl, shR rfl, shR rfl, shR rfl, shR rfl, shR rfl, shR rfl, shR rfl, trivial⟩ rfl (pre_ok rfl)
end Go.Proofs

set_option linter.unusedVariables false
namespace Go.Proofs
open Go Go.Sx Go.RowKit
theorem dec_of {b : Bool} {P Q : Prop} [Decidable P] (h : b = true ↔ Q) (k : P ↔ Q) : decide P = b := by
  by_cases hp : P
  · rw [decide_eq_true hp]; exact (h.2 (k.1 hp)).symm
  · rw [decide_eq_false hp]
    cases b with
    | false => rfl
    | true => exact (hp (k.2 (h.1 rfl))).elim
/-- A row each of whose residual arcs has its partner. -/
structure CsrG (c : Csr) : Prop extends CsrT c where
  rne : ∀ a, a < c.Head.length → (c.Rev.getD a 0).toNat ≠ a
  rrv : ∀ a, a < c.Head.length → c.Rev.getD (c.Rev.getD a 0).toNat 0 = a
  rbk : ∀ a, a < c.Head.length → c.Back.getD (c.Rev.getD a 0).toNat false = !(c.Back.getD a false)
  rtl : ∀ a : Nat, a < c.Head.length → tailOf c a = c.Head.getD (c.Rev.getD a 0).toNat 0
theorem most_rev {c : Csr} (h : CsrG c) {a : Nat} (ha : a < c.Head.length) : mostOf c (c.Rev.getD a 0).toNat = mostOf c a := by
  unfold mostOf
  rw [h.rrv a ha, Int.toNat_natCast]; omega
/-- The excess that what is left of the first arcs says. -/
def exK (c : Csr) (res : List Int) : Nat → Int → Int
  | 0, _ => 0
  | k + 1, v => exK c res k v + (if c.Back.getD k false = true then (if tailOf c k = v then res.getD k 0 else 0) - (if c.Head.getD k 0 = v then res.getD k 0 else 0) else 0)
def exOf (c : Csr) (res : List Int) (v : Int) : Int := exK c res c.Head.length v
def pairsP (c : Csr) (res : List Int) : Prop := ∀ a : Nat, a < c.Head.length → 0 ≤ res.getD a 0 ∧ res.getD a 0 ≤ mostOf c a ∧ res.getD (c.Rev.getD a 0).toNat 0 = mostOf c a - res.getD a 0
instance (c : Csr) (res : List Int) : Decidable (pairsP c res) := by unfold pairsP; infer_instance
def excessP (c : Csr) (p : Pre) : Prop := ∀ v : Nat, v < c.N.toNat → p.Ex.getD v 0 = exOf c p.Res v ∧ ((v : Int) ≠ c.S → 0 ≤ p.Ex.getD v 0)
instance (c : Csr) (p : Pre) : Decidable (excessP c p) := by unfold excessP; infer_instance
def highP (c : Csr) (p : Pre) : Prop := ∀ v : Nat, v < c.N.toNat → 0 ≤ p.H.getD v 0 ∧ p.H.getD v 0 ≤ 2 * c.N
instance (c : Csr) (p : Pre) : Decidable (highP c p) := by unfold highP; infer_instance
def heightsP (c : Csr) (p : Pre) : Prop := highP c p ∧ p.H.getD c.S.toNat 0 = c.N ∧ p.H.getD c.T.toNat 0 = 0
instance (c : Csr) (p : Pre) : Decidable (heightsP c p) := by unfold heightsP; infer_instance
def lenP (c : Csr) (p : Pre) : Prop := p.Res.length = c.Head.length ∧ p.Ex.length = c.N.toNat ∧ p.H.length = c.N.toNat
instance (c : Csr) (p : Pre) : Decidable (lenP c p) := by unfold lenP; infer_instance
/-- P9.1: a sound state. -/
def rightP (c : Csr) (p : Pre) : Prop := lenP c p ∧ heightsP c p ∧ pairsP c p.Res ∧ excessP c p
instance (c : Csr) (p : Pre) : Decidable (rightP c p) := by unfold rightP; infer_instance

theorem exK_bound {c : Csr} {res : List Int} {M : Int} (hM : 0 ≤ M) (hr : ∀ a, a < c.Head.length → 0 ≤ res.getD a 0 ∧ res.getD a 0 ≤ M) : ∀ k, k ≤ c.Head.length → ∀ v, -(k * M) ≤ exK c res k v ∧ exK c res k v ≤ k * M
  | 0, _, v => by simp [exK]
  | k + 1, hk, v => by
    have h1 := exK_bound hM hr k (by omega) v
    have h2 := hr k (by omega)
    simp only [exK]
    have e : ((k + 1 : Nat) : Int) * M = k * M + M := by rw [Int.natCast_add, Int.add_mul]; simp
    rw [e]
    split
    · split <;> split <;> omega
    · omega
theorem exK_in {c : Csr} (h : CsrT c) {res : List Int} (hr : ∀ a, a < c.Head.length → 0 ≤ res.getD a 0 ∧ res.getD a 0 ≤ mostOf c a) {k : Nat} (hk : k ≤ c.Head.length) (v : Int) : -2305843009213693952 ≤ exK c res k v ∧ exK c res k v ≤ 2305843009213693952 := by
  have h1 := exK_bound (M := 1125899906842624) (by omega) (fun a ha => ⟨(hr a ha).1, Int.le_trans (hr a ha).2 (h.capv a ha)⟩) k hk v
  have h2 := h.small
  have h3 : (k : Int) * 1125899906842624 ≤ 2048 * 1125899906842624 := Int.mul_le_mul_of_nonneg_right (by omega) (by omega)
  omega
theorem exK_set {c : Csr} {res : List Int} {i : Nat} (hi : i < res.length) (x : Int) (v : Int) : ∀ k, exK c (res.set i x) k v = exK c res k v + (if i < k ∧ c.Back.getD i false = true then (if tailOf c i = v then x - res.getD i 0 else 0) - (if c.Head.getD i 0 = v then x - res.getD i 0 else 0) else 0)
  | 0 => by rw [if_neg (by omega)]; simp only [exK]; rfl
  | k + 1 => by
    simp only [exK]
    rw [exK_set hi x v k, getD_set _ _ _ _ hi]
    by_cases hik : i = k
    · subst hik
      cases hb : c.Back.getD i false <;> simp only [Nat.lt_irrefl, Nat.lt_succ_self, true_and, false_and, if_true, if_false, and_true, and_false, Bool.false_eq_true] <;> first | omega | (split <;> split <;> omega)
    · rw [if_neg hik]
      by_cases hb : i < k ∧ c.Back.getD i false = true
      · rw [if_pos hb, if_pos (show i < k + 1 ∧ c.Back.getD i false = true from ⟨by omega, hb.2⟩)]; omega
      · rw [if_neg hb, if_neg (show ¬ (i < k + 1 ∧ c.Back.getD i false = true) from fun q => hb ⟨by omega, q.2⟩)]; omega
/-- What a push does to the excesses. -/
theorem ex_push {c : Csr} (h : CsrG c) {res : List Int} (hl : res.length = c.Head.length) {a : Int} (ha : 0 ≤ a ∧ a < c.Head.length) (d v : Int) :
    exOf c (addAt (subAt res a d) (c.Rev.getD a.toNat 0) d) v = exOf c res v - (if tailOf c a = v then d else 0) + (if c.Head.getD a.toNat 0 = v then d else 0) := by
  obtain ⟨a, rfl⟩ := Int.eq_ofNat_of_zero_le ha.1
  have ha' : a < c.Head.length := by omega
  have hv := h.rv a ha'
  have hne := h.rne a ha'
  have hbk := h.rbk a ha'
  have hrr := h.rrv a ha'
  have ht := h.rtl a ha'
  have ht2 := h.rtl (c.Rev.getD a 0).toNat (by omega)
  have hv' : (c.Rev.getD a 0).toNat < c.Head.length := by omega
  rw [hrr] at ht2
  rw [Int.toNat_natCast] at ht2
  unfold exOf addAt subAt
  rw [Int.toNat_natCast]
  rw [exK_set (by rw [List.length_set]; omega), exK_set (by omega), getD_set _ _ _ _ (by omega), if_neg (Ne.symm hne), ht, ht2]
  cases hb : c.Back.getD a false with
  | true =>
    rw [hb] at hbk
    simp only [hbk, ha', hv', Bool.not_true, Bool.not_false, and_true, true_and, and_false, if_true, if_false, Bool.false_eq_true]
    split <;> split <;> omega
  | false =>
    rw [hb] at hbk
    simp only [hbk, ha', hv', Bool.not_true, Bool.not_false, and_true, true_and, and_false, if_true, if_false, Bool.false_eq_true]
    split <;> split <;> omega
theorem legal_u {c : Csr} {p : Pre} {e : Event} (h : legalE c p e = 0) : (e.what = 1 ∨ e.what = 2) ∧ 0 ≤ e.u ∧ e.u < c.N ∧ e.u ≠ c.S ∧ e.u ≠ c.T := by
  unfold legalE at h
  split at h
  · cases h
  · omega
theorem legal_lift {c : Csr} {p : Pre} {e : Event} (h : legalE c p e = 0) (hw : e.what = 2) : p.H.getD e.u.toNat 0 < e.h ∧ e.h ≤ 2 * c.N := by
  have hu := legal_u h
  unfold legalE at h
  rw [if_neg (by omega), if_pos hw] at h
  unfold liftE at h
  split at h
  · cases h
  · omega
theorem legal_push {c : Csr} {p : Pre} {e : Event} (h : legalE c p e = 0) (hw : e.what ≠ 2) : c.First.getD e.u.toNat 0 ≤ e.arc ∧ e.arc < c.First.getD (e.u.toNat + 1) 0 ∧ 1 ≤ e.d ∧ e.d ≤ p.Ex.getD e.u.toNat 0 ∧ e.d ≤ p.Res.getD e.arc.toNat 0 ∧ e.h = p.H.getD e.u.toNat 0 ∧ e.low < e.h := by
  have hu := legal_u h
  unfold legalE at h
  rw [if_neg (by omega), if_neg hw] at h
  unfold pushE at h
  have hmt : (e.u + 1).toNat = e.u.toNat + 1 := by omega
  rw [hmt] at h
  split at h
  · cases h
  · split at h
    · cases h
    · omega
theorem tail_of_arc {c : Csr} (h : CsrT c) {u a : Int} (hu : 0 ≤ u ∧ u < c.N) (h1 : c.First.getD u.toNat 0 ≤ a) (h2 : a < c.First.getD (u.toNat + 1) 0) : 0 ≤ a ∧ a < c.Head.length ∧ tailOf c a = u := by
  have hm := h.mono u.toNat (by omega)
  refine ⟨by omega, by omega, ?_⟩
  rw [tail_found (i := u.toNat) (by omega) ⟨h1, h2⟩ fun v hv hc => ?_]
  · omega
  · have := h.up (i := v + 1) (j := u.toNat) (by omega) (by omega)
    obtain ⟨c1, c2⟩ := hc
    omega
theorem right_ok {c : Csr} (h : CsrT c) {p : Pre} (hp : rightP c p) : PreOK c p where
  res := hp.1.1
  ex := hp.1.2.1
  h := hp.1.2.2
  resv := fun a ha => ⟨(hp.2.2.1 a ha).1, (hp.2.2.1 a ha).2.1⟩
  exv := fun v hv => by
    have h1 := (hp.2.2.2 v hv).1
    have h2 := exK_in h (fun a ha => ⟨(hp.2.2.1 a ha).1, (hp.2.2.1 a ha).2.1⟩) (Nat.le_refl _) v
    unfold exOf at h1
    omega
  hv := fun v hv => by
    have h1 := hp.2.1.1 v hv
    have := h.n
    omega
theorem right_len {c : Csr} {p : Pre} (hp : rightP c p) : PreLen c p := ⟨hp.1.1, hp.1.2.1, hp.1.2.2⟩
/-- A sound state stays sound. -/
theorem right_does {c : Csr} (h : CsrG c) {p : Pre} (hp : rightP c p) {e : Event} (hl : legalE c p e = 0) : rightP c (doesP c p e) := by
  have hu := legal_u hl
  obtain ⟨⟨l1, l2, l3⟩, ⟨k1, k2, k3⟩, hpair, hex⟩ := hp
  have hn := h.n
  have hS := h.s
  have hT := h.t
  unfold doesP
  by_cases hw : e.what = 2
  · rw [if_pos hw]
    have hq := legal_lift hl hw
    refine ⟨⟨l1, l2, by simp [l3]⟩, ⟨?_, ?_, ?_⟩, hpair, hex⟩
    · intro v hv
      dsimp only
      rw [getD_set _ _ _ _ (by omega)]
      have := k1 v hv
      have := k1 e.u.toNat (by omega)
      split <;> omega
    · dsimp only; rw [getD_set _ _ _ _ (by omega), if_neg (by omega)]; exact k2
    · dsimp only; rw [getD_set _ _ _ _ (by omega), if_neg (by omega)]; exact k3
  · rw [if_neg hw]
    obtain ⟨a1, a2, a3, a4, a5, a6, a7⟩ := legal_push hl hw
    obtain ⟨t1, t2, t3⟩ := tail_of_arc h.toCsrT ⟨hu.2.1, hu.2.2.1⟩ a1 a2
    have hA : e.arc.toNat < c.Head.length := by omega
    have hv := h.rv e.arc.toNat hA
    have hne := h.rne e.arc.toNat hA
    have hrr := h.rrv e.arc.toNat hA
    have hhd := h.hd e.arc.toNat hA
    have hp1 := hpair e.arc.toNat hA
    have hp2 := hpair (c.Rev.getD e.arc.toNat 0).toNat (by omega)
    have hmr := most_rev h hA
    refine ⟨⟨by simp [addAt, subAt, l1], by simp [addAt, subAt, l2], l3⟩, ⟨k1, k2, k3⟩, ?_, ?_⟩
    · have hget : ∀ j : Nat, (addAt (subAt p.Res e.arc e.d) (c.Rev.getD e.arc.toNat 0) e.d).getD j 0 = p.Res.getD j 0 + (if (c.Rev.getD e.arc.toNat 0).toNat = j then e.d else 0) - (if e.arc.toNat = j then e.d else 0) := by
        intro j
        unfold addAt subAt
        rw [getD_set _ _ _ _ (by rw [List.length_set]; omega), getD_set _ _ _ _ (by omega), getD_set _ _ _ _ (by omega), if_neg (Ne.symm hne)]
        by_cases h1 : (c.Rev.getD e.arc.toNat 0).toNat = j
        · rw [if_pos h1, if_pos h1, if_neg (by omega), h1]; omega
        · rw [if_neg h1, if_neg h1]
          by_cases h2 : e.arc.toNat = j
          · rw [if_pos h2, if_pos h2, h2]; omega
          · rw [if_neg h2, if_neg h2]; omega
      intro b hb
      dsimp only
      rw [hget, hget]
      have hq := hpair b hb
      have hrv := h.rv b hb
      have hrb := h.rrv b hb
      by_cases h1 : (c.Rev.getD e.arc.toNat 0).toNat = b
      · have hb2 : (c.Rev.getD b 0).toNat = e.arc.toNat := by rw [← h1, hrr, Int.toNat_natCast]
        rw [h1] at hmr hp1
        rw [hb2] at hq ⊢
        rw [if_pos h1, if_neg (show ¬ e.arc.toNat = b by omega), if_neg hne]
        simp only [if_true]
        omega
      · by_cases h2 : e.arc.toNat = b
        · rw [← h2] at hq hrb ⊢
          simp only [if_neg hne, if_neg (Ne.symm hne), if_true]
          omega
        · rw [if_neg h1, if_neg h2, if_neg (fun q => ?_), if_neg (fun q => ?_)]
          · omega
          · rw [← q] at hrb
            exact h1 (by omega)
          · rw [← q] at hrb
            omega
    · intro v hv'
      dsimp only
      rw [ex_push h l1 ⟨t1, t2⟩, t3]
      have h1 := hex v hv'
      have h2 := hex e.u.toNat (by omega)
      have hget : (addAt (subAt p.Ex e.u e.d) (c.Head.getD e.arc.toNat 0) e.d).getD v 0 = p.Ex.getD v 0 - (if e.u = (v : Int) then e.d else 0) + (if c.Head.getD e.arc.toNat 0 = (v : Int) then e.d else 0) := by
        unfold addAt subAt
        rw [getD_set _ _ _ _ (by rw [List.length_set]; omega), getD_set _ _ _ _ (by omega), getD_set _ _ _ _ (by omega)]
        by_cases h1 : (c.Head.getD e.arc.toNat 0).toNat = v
        · rw [if_pos h1, if_pos (show c.Head.getD e.arc.toNat 0 = (v : Int) by omega)]
          by_cases h2 : e.u = (v : Int)
          · rw [if_pos h2, if_pos (by omega)]; have : e.u.toNat = v := by omega
            rw [this]
          · rw [if_neg h2, if_neg (by omega), h1]; omega
        · rw [if_neg h1, if_neg (show ¬ c.Head.getD e.arc.toNat 0 = (v : Int) by omega)]
          by_cases h2 : e.u = (v : Int)
          · rw [if_pos h2, if_pos (by omega)]; have : e.u.toNat = v := by omega
            rw [this]; omega
          · rw [if_neg h2, if_neg (by omega)]; omega
      rw [hget]
      refine ⟨by omega, fun hvs => ?_⟩
      have h4 := h1.2 hvs
      by_cases h3 : e.u = (v : Int)
      · rw [if_pos h3]
        have : e.u.toNat = v := by omega
        rw [this] at a4
        split <;> omega
      · rw [if_neg h3]; split <;> omega
end Go.Proofs

set_option linter.unusedVariables false
namespace Go.Proofs
open Go Go.Sx Go.RowKit
/-- P9.2: moves, up to the first that may not be done. -/
def runE (c : Csr) : Pre → List Event → Nat → Pre × Int × Int
  | p, [], i => (p, (i : Int), 0)
  | p, e :: l, i => if legalE c p e = 0 then runE c (doesP c p e) l (i + 1) else (p, (i : Int), legalE c p e)
def moveE (c : Csr) (p : Pre) (e : Event) : Pre × Int := if legalE c p e = 0 then (doesP c p e, 0) else (p, legalE c p e)
theorem runE_one (c : Csr) (p : Pre) (e : Event) : ((runE c p [e] 0).1, (runE c p [e] 0).2.2) = moveE c p e := by
  simp only [runE, moveE]; split <;> rfl
theorem drop_getD {α : Type} (d : α) {l : List α} {i : Nat} (h : i < l.length) : l.drop i = l.getD i d :: l.drop (i + 1) := by
  rw [List.drop_eq_getElem_cons h]; simp [List.getD, h]
theorem what_cases (x : Int) : x = 1 ∨ x = 2 ∨ (x ≠ 1 ∧ x ≠ 2) := by omega
set_option maxHeartbeats 8000000 in
set_option synthInstance.maxHeartbeats 400000 in
set_option synthInstance.maxSize 2000 in
theorem t_Legal (c : Csr) (p : Pre) (h : CsrOK c) (hp : PreLen c p) (e : Event) (he : EvIn e) : Tri Try.prog 16 [.agg [.val (.int .i64 c.N), .val (.int .i64 c.S), .val (.int .i64 c.T), .slc 0 0 c.First.length none, .slc 1 0 c.Head.length none, .slc 2 0 c.Rev.length none, .slc 3 0 c.Cap.length none, .slc 4 0 c.Arc.length none, .slc 5 0 c.Back.length none], .agg [.slc 6 0 p.Res.length none, .slc 7 0 p.Ex.length none, .slc 8 0 p.H.length none], .agg [.val (.int .i64 e.who), .val (.int .u8 e.what), .val (.int .i64 e.u), .val (.int .i64 e.arc), .val (.int .i64 e.d), .val (.int .i64 e.h), .val (.int .i64 e.low)]] [SO.ints false .i64 c.First, SO.ints false .i64 c.Head, SO.ints false .i64 c.Rev, SO.ints false .i64 c.Cap, SO.ints false .i64 c.Arc, SO.bools false c.Back, SO.ints false .i64 p.Res, SO.ints false .i64 p.Ex, SO.ints false .i64 p.H] (fun s H => s = .val (.int .i64 (legalE c p e)) ∧ H = [SO.ints false .i64 c.First, SO.ints false .i64 c.Head, SO.ints false .i64 c.Rev, SO.ints false .i64 c.Cap, SO.ints false .i64 c.Arc, SO.bools false c.Back, SO.ints false .i64 p.Res, SO.ints false .i64 p.Ex, SO.ints false .i64 p.H]) := by
  refine tri_of_w (fn := Try.f16) Try.func16 rfl (by simp [Try.f16]) ?_
  intro ρ w hρ
  refine w_seq ?_
  refine w_region ?_
  refine rw_t 3 rfl rfl rfl (n_box_agg (n := 9) rfl rfl ?_)
  refine rw_t 4 rfl rfl rfl (n_box_agg (n := 10) rfl rfl ?_)
  refine rw_t 5 rfl rfl rfl (n_box_agg (n := 11) rfl rfl ?_)
  refine rw_t 6 rfl rfl rfl (do_assign rfl ?_)
  refine rw_nil ?_
  refine w_seq ?_
  have hn := h.n
  have hf := h.first
  have hhd := h.head
  have hrl := h.rev
  have hcl := h.cap
  have hal := h.arc
  have hbl := h.back
  have hr := hp.res
  have hx := hp.ex
  have hh := hp.h
  refine w_region ?_
  refine rw_t 10 rfl rfl rfl (n_load_boxagg [_, _, _, _, _, _, _, _, _] rfl rfl (Nat.le_of_ble_eq_true rfl) rfl ?_)
  refine rw_t 11 rfl rfl rfl (n_load_boxagg [_, _, _] rfl rfl (Nat.le_of_ble_eq_true rfl) rfl ?_)
  refine rw_t 12 rfl rfl rfl (do_build (out := [_, _, _, _, _, _, _, _, _, _, _, _]) rfl rfl ?_)
  refine rw_t 7 rfl rfl rfl (n_alloc (n := 12) rfl ?_)
  refine rw_u rfl rfl (n_store_whole rfl rfl rfl rfl rfl rfl ?_)
  refine rw_nil ?_
  refine w_seq ?_
  refine w_region ?_
  refine rw_t 14 rfl rfl rfl (n_makeMap (n := 13) .u8 rfl ?_)
  refine rw_t 15 rfl rfl rfl (n_load_boxagg [_, _, _, _, _, _, _, _, _, _, _, _] rfl rfl (Nat.le_of_ble_eq_true rfl) rfl ?_)
  refine rw_t 16 rfl rfl rfl (do_makefunc rfl rfl ?_)
  refine rw_u rfl rfl (n_insert rfl rfl rfl rfl (by rfl) ?_)
  refine rw_t 17 rfl rfl rfl (n_load_boxagg [_, _, _, _, _, _, _, _, _, _, _, _] rfl rfl (Nat.le_of_ble_eq_true rfl) rfl ?_)
  refine rw_t 18 rfl rfl rfl (do_makefunc rfl rfl ?_)
  refine rw_u rfl rfl (n_insert rfl rfl rfl rfl (by rfl) ?_)
  refine rw_t 19 rfl rfl rfl (do_move rfl ?_)
  refine rw_t 20 rfl rfl rfl (do_fieldaddr rfl ?_)
  refine rw_t 21 rfl rfl rfl (do_load_box rfl rfl rfl ?_)
  rcases what_cases e.what with hw | hw | hw
  · refine rw_t 22 rfl rfl rfl (do_lookup_t (j := 0) rfl rfl rfl (by rw [hw]; rfl) rfl ?_)
    refine rw_t 13 rfl rfl rfl (do_move rfl ?_)
    refine rw_t 23 rfl rfl rfl (do_extract rfl rfl ?_)
    refine rw_t 24 rfl rfl rfl (do_extract rfl rfl ?_)
    refine rw_t 8 rfl rfl rfl (do_assign rfl ?_)
    refine rw_t 9 rfl rfl rfl (do_assign rfl ?_)
    refine rw_nil ?_
    refine w_seq ?_
    refine w_seqB 52 ((((e.u < 0 ∨ e.u ≥ c.N) ∨ e.u = c.S) ∨ e.u = c.T)) ?_ ?_
    · -- region 3
      refine w_region ?_
      refine rw_t 25 rfl rfl rfl (do_move rfl ?_)
      refine rw_t 26 rfl rfl rfl (do_not rfl ?_)
      refine rw_t 27 rfl rfl rfl (do_move rfl ?_)
      refine rw_gt 28 2 27 false rfl rfl rfl rfl rfl rfl rfl (do_fieldaddr rfl ?_)
      refine rw_gt 29 2 27 false rfl rfl rfl rfl rfl rfl rfl (do_load_box rfl rfl rfl ?_)
      refine rw_gt 30 2 27 false rfl rfl rfl rfl rfl rfl rfl (do_bin rfl rfl rfl ?_)
      refine rw_t 31 rfl rfl rfl (do_pick_f rfl rfl rfl ?_)
      refine rw_t 32 rfl rfl rfl (do_move rfl ?_)
      refine rw_case 32 rfl (fun g1 => ?_) (fun g1 => ?_)
      · have kg1 := g1
        try simp only [bs] at kg1
        refine rw_gf 33 7 32 false rfl rfl rfl rfl rfl rfl (by rw [g1]; decide) ?_
        refine rw_gf 34 7 32 false rfl rfl rfl rfl rfl rfl (by rw [g1]; decide) ?_
        refine rw_gf 35 7 32 false rfl rfl rfl rfl rfl rfl (by rw [g1]; decide) ?_
        refine rw_gf 36 7 32 false rfl rfl rfl rfl rfl rfl (by rw [g1]; decide) ?_
        refine rw_gf 37 7 32 false rfl rfl rfl rfl rfl rfl (by rw [g1]; decide) ?_
        refine rw_t 38 rfl rfl rfl (do_pick_t rfl g1 rfl ?_)
        refine rw_t 39 rfl rfl rfl (do_move rfl ?_)
        refine rw_gf 40 14 39 false rfl rfl rfl rfl rfl rfl (by decide) ?_
        refine rw_gf 41 14 39 false rfl rfl rfl rfl rfl rfl (by decide) ?_
        refine rw_gf 42 14 39 false rfl rfl rfl rfl rfl rfl (by decide) ?_
        refine rw_gf 43 14 39 false rfl rfl rfl rfl rfl rfl (by decide) ?_
        refine rw_gf 44 14 39 false rfl rfl rfl rfl rfl rfl (by decide) ?_
        refine rw_t 45 rfl rfl rfl (do_pick_t rfl rfl rfl ?_)
        refine rw_t 46 rfl rfl rfl (do_move rfl ?_)
        refine rw_gf 47 21 46 false rfl rfl rfl rfl rfl rfl (by decide) ?_
        refine rw_gf 48 21 46 false rfl rfl rfl rfl rfl rfl (by decide) ?_
        refine rw_gf 49 21 46 false rfl rfl rfl rfl rfl rfl (by decide) ?_
        refine rw_gf 50 21 46 false rfl rfl rfl rfl rfl rfl (by decide) ?_
        refine rw_gf 51 21 46 false rfl rfl rfl rfl rfl rfl (by decide) ?_
        refine rw_t 52 rfl rfl rfl (do_pick_t rfl rfl rfl ?_)
        refine rw_nil ?_
        refine ⟨rfl, ⟨_, rfl, by first | (simp; done) | (simp only [bs]; omega) | (simp [*]; done) | (simp; omega) | (constructor <;> intro h <;> simp_all <;> omega)⟩, ?_⟩
        repeat (refine ⟨⟨_, rfl, rfl⟩, ?_⟩)
        exact trivial
      · have kg1 := g1
        try simp only [bs] at kg1
        refine rw_gt 33 7 32 false rfl rfl rfl rfl rfl rfl g1 (do_fieldaddr rfl ?_)
        refine rw_gt 34 7 32 false rfl rfl rfl rfl rfl rfl g1 (do_load_box rfl rfl rfl ?_)
        refine rw_gt 35 7 32 false rfl rfl rfl rfl rfl rfl g1 (do_fieldaddr rfl ?_)
        refine rw_gt 36 7 32 false rfl rfl rfl rfl rfl rfl g1 (do_load_box rfl rfl rfl ?_)
        refine rw_gt 37 7 32 false rfl rfl rfl rfl rfl rfl g1 (do_bin rfl rfl rfl ?_)
        refine rw_t 38 rfl rfl rfl (do_pick_f rfl g1 rfl ?_)
        refine rw_t 39 rfl rfl rfl (do_move rfl ?_)
        refine rw_case 39 rfl (fun g2 => ?_) (fun g2 => ?_)
        · have kg2 := g2
          try simp only [bs] at kg2
          refine rw_gf 40 14 39 false rfl rfl rfl rfl rfl rfl (by rw [g2]; decide) ?_
          refine rw_gf 41 14 39 false rfl rfl rfl rfl rfl rfl (by rw [g2]; decide) ?_
          refine rw_gf 42 14 39 false rfl rfl rfl rfl rfl rfl (by rw [g2]; decide) ?_
          refine rw_gf 43 14 39 false rfl rfl rfl rfl rfl rfl (by rw [g2]; decide) ?_
          refine rw_gf 44 14 39 false rfl rfl rfl rfl rfl rfl (by rw [g2]; decide) ?_
          refine rw_t 45 rfl rfl rfl (do_pick_t rfl g2 rfl ?_)
          refine rw_t 46 rfl rfl rfl (do_move rfl ?_)
          refine rw_gf 47 21 46 false rfl rfl rfl rfl rfl rfl (by decide) ?_
          refine rw_gf 48 21 46 false rfl rfl rfl rfl rfl rfl (by decide) ?_
          refine rw_gf 49 21 46 false rfl rfl rfl rfl rfl rfl (by decide) ?_
          refine rw_gf 50 21 46 false rfl rfl rfl rfl rfl rfl (by decide) ?_
          refine rw_gf 51 21 46 false rfl rfl rfl rfl rfl rfl (by decide) ?_
          refine rw_t 52 rfl rfl rfl (do_pick_t rfl rfl rfl ?_)
          refine rw_nil ?_
          refine ⟨rfl, ⟨_, rfl, by first | (simp; done) | (simp only [bs]; omega) | (simp [*]; done) | (simp; omega) | (constructor <;> intro h <;> simp_all <;> omega)⟩, ?_⟩
          repeat (refine ⟨⟨_, rfl, rfl⟩, ?_⟩)
          exact trivial
        · have kg2 := g2
          try simp only [bs] at kg2
          refine rw_gt 40 14 39 false rfl rfl rfl rfl rfl rfl g2 (do_fieldaddr rfl ?_)
          refine rw_gt 41 14 39 false rfl rfl rfl rfl rfl rfl g2 (do_load_box rfl rfl rfl ?_)
          refine rw_gt 42 14 39 false rfl rfl rfl rfl rfl rfl g2 (do_fieldaddr rfl ?_)
          refine rw_gt 43 14 39 false rfl rfl rfl rfl rfl rfl g2 (do_load_box rfl rfl rfl ?_)
          refine rw_gt 44 14 39 false rfl rfl rfl rfl rfl rfl g2 (do_bin rfl rfl rfl ?_)
          refine rw_t 45 rfl rfl rfl (do_pick_f rfl g2 rfl ?_)
          refine rw_t 46 rfl rfl rfl (do_move rfl ?_)
          refine rw_case 46 rfl (fun g3 => ?_) (fun g3 => ?_)
          · have kg3 := g3
            try simp only [bs] at kg3
            refine rw_gf 47 21 46 false rfl rfl rfl rfl rfl rfl (by rw [g3]; decide) ?_
            refine rw_gf 48 21 46 false rfl rfl rfl rfl rfl rfl (by rw [g3]; decide) ?_
            refine rw_gf 49 21 46 false rfl rfl rfl rfl rfl rfl (by rw [g3]; decide) ?_
            refine rw_gf 50 21 46 false rfl rfl rfl rfl rfl rfl (by rw [g3]; decide) ?_
            refine rw_gf 51 21 46 false rfl rfl rfl rfl rfl rfl (by rw [g3]; decide) ?_
            refine rw_t 52 rfl rfl rfl (do_pick_t rfl g3 rfl ?_)
            refine rw_nil ?_
            refine ⟨rfl, ⟨_, rfl, by first | (simp; done) | (simp only [bs]; omega) | (simp [*]; done) | (simp; omega) | (constructor <;> intro h <;> simp_all <;> omega)⟩, ?_⟩
            repeat (refine ⟨⟨_, rfl, rfl⟩, ?_⟩)
            exact trivial
          · have kg3 := g3
            try simp only [bs] at kg3
            refine rw_gt 47 21 46 false rfl rfl rfl rfl rfl rfl g3 (do_fieldaddr rfl ?_)
            refine rw_gt 48 21 46 false rfl rfl rfl rfl rfl rfl g3 (do_load_box rfl rfl rfl ?_)
            refine rw_gt 49 21 46 false rfl rfl rfl rfl rfl rfl g3 (do_fieldaddr rfl ?_)
            refine rw_gt 50 21 46 false rfl rfl rfl rfl rfl rfl g3 (do_load_box rfl rfl rfl ?_)
            refine rw_gt 51 21 46 false rfl rfl rfl rfl rfl rfl g3 (do_bin rfl rfl rfl ?_)
            refine rw_t 52 rfl rfl rfl (do_pick_f rfl g3 rfl ?_)
            refine rw_nil ?_
            refine ⟨rfl, ⟨_, rfl, by first | (simp; done) | (simp only [bs]; omega) | (simp [*]; done) | (simp; omega) | (constructor <;> intro h <;> simp_all <;> omega)⟩, ?_⟩
            repeat (refine ⟨⟨_, rfl, rfl⟩, ?_⟩)
            exact trivial
    intro b1 hb1
    refine w_condP hb1 rfl (fun hc1 => ?_) (fun hc1 => ?_)
    · refine w_seq ?_
      refine w_region ?_
      refine rw_t 6 rfl rfl rfl (do_assign rfl ?_)
      refine rw_nil ?_
      refine w_ret ?_
      exact ret_eq (.inl rfl) (.cons (res_tmp rfl) .nil) [0, 1, 2, 3, 4, 5, 6, 7, 8] (Eq.symm (val_congr (by unfold legalE; rw [if_pos (by omega)]))) ⟨shR rfl, shR rfl, shR rfl, shR rfl, shR rfl, shR rfl, shR rfl, shR rfl, shR rfl, trivial⟩ rfl (pre_ok rfl)
    refine w_skip ?_
    refine w_seq ?_
    refine w_region ?_
    refine rw_t 53 rfl rfl rfl (do_move rfl ?_)
    refine rw_t 54 rfl rfl rfl (n_load_boxagg [_, _, _, _, _, _, _] rfl rfl (Nat.le_of_ble_eq_true rfl) rfl ?_)
    refine rw_t 55 rfl rfl rfl (do_callR (X' := .val (.int .i64 (pushE c p e))) rfl rfl (t_push (c := c) (p := p) (e := e) (h) (hp) (he) (by omega)) [0, 1, 2, 3, 4, 5, 6, 7, 8] ⟨.inr ⟨_, rfl, srv⟩, .inr ⟨_, rfl, srv⟩, .inr ⟨_, rfl, srv⟩, .inr ⟨_, rfl, srv⟩, .inr ⟨_, rfl, srv⟩, .inr ⟨_, rfl, srv⟩, .inr ⟨_, rfl, srv⟩, .inr ⟨_, rfl, srv⟩, .inr ⟨_, rfl, srv⟩, trivial⟩ rfl rfl rfl ?_)
    refine rw_t 6 rfl rfl rfl (do_assign rfl ?_)
    refine rw_nil ?_
    refine w_ret ?_
    exact ret_eq (.inl rfl) (.cons (res_tmp rfl) .nil) [0, 1, 2, 3, 4, 5, 6, 7, 8] (Eq.symm (val_congr (by unfold legalE; rw [if_neg (by omega), if_neg (by omega)]))) ⟨shR rfl, shR rfl, shR rfl, shR rfl, shR rfl, shR rfl, shR rfl, shR rfl, shR rfl, trivial⟩ rfl (pre_ok rfl)
  · refine rw_t 22 rfl rfl rfl (do_lookup_t (j := 1) rfl rfl rfl (by rw [hw]; rfl) rfl ?_)
    refine rw_t 13 rfl rfl rfl (do_move rfl ?_)
    refine rw_t 23 rfl rfl rfl (do_extract rfl rfl ?_)
    refine rw_t 24 rfl rfl rfl (do_extract rfl rfl ?_)
    refine rw_t 8 rfl rfl rfl (do_assign rfl ?_)
    refine rw_t 9 rfl rfl rfl (do_assign rfl ?_)
    refine rw_nil ?_
    refine w_seq ?_
    refine w_seqB 52 ((((e.u < 0 ∨ e.u ≥ c.N) ∨ e.u = c.S) ∨ e.u = c.T)) ?_ ?_
    · -- region 3
      refine w_region ?_
      refine rw_t 25 rfl rfl rfl (do_move rfl ?_)
      refine rw_t 26 rfl rfl rfl (do_not rfl ?_)
      refine rw_t 27 rfl rfl rfl (do_move rfl ?_)
      refine rw_gt 28 2 27 false rfl rfl rfl rfl rfl rfl rfl (do_fieldaddr rfl ?_)
      refine rw_gt 29 2 27 false rfl rfl rfl rfl rfl rfl rfl (do_load_box rfl rfl rfl ?_)
      refine rw_gt 30 2 27 false rfl rfl rfl rfl rfl rfl rfl (do_bin rfl rfl rfl ?_)
      refine rw_t 31 rfl rfl rfl (do_pick_f rfl rfl rfl ?_)
      refine rw_t 32 rfl rfl rfl (do_move rfl ?_)
      refine rw_case 32 rfl (fun g4 => ?_) (fun g4 => ?_)
      · have kg4 := g4
        try simp only [bs] at kg4
        refine rw_gf 33 7 32 false rfl rfl rfl rfl rfl rfl (by rw [g4]; decide) ?_
        refine rw_gf 34 7 32 false rfl rfl rfl rfl rfl rfl (by rw [g4]; decide) ?_
        refine rw_gf 35 7 32 false rfl rfl rfl rfl rfl rfl (by rw [g4]; decide) ?_
        refine rw_gf 36 7 32 false rfl rfl rfl rfl rfl rfl (by rw [g4]; decide) ?_
        refine rw_gf 37 7 32 false rfl rfl rfl rfl rfl rfl (by rw [g4]; decide) ?_
        refine rw_t 38 rfl rfl rfl (do_pick_t rfl g4 rfl ?_)
        refine rw_t 39 rfl rfl rfl (do_move rfl ?_)
        refine rw_gf 40 14 39 false rfl rfl rfl rfl rfl rfl (by decide) ?_
        refine rw_gf 41 14 39 false rfl rfl rfl rfl rfl rfl (by decide) ?_
        refine rw_gf 42 14 39 false rfl rfl rfl rfl rfl rfl (by decide) ?_
        refine rw_gf 43 14 39 false rfl rfl rfl rfl rfl rfl (by decide) ?_
        refine rw_gf 44 14 39 false rfl rfl rfl rfl rfl rfl (by decide) ?_
        refine rw_t 45 rfl rfl rfl (do_pick_t rfl rfl rfl ?_)
        refine rw_t 46 rfl rfl rfl (do_move rfl ?_)
        refine rw_gf 47 21 46 false rfl rfl rfl rfl rfl rfl (by decide) ?_
        refine rw_gf 48 21 46 false rfl rfl rfl rfl rfl rfl (by decide) ?_
        refine rw_gf 49 21 46 false rfl rfl rfl rfl rfl rfl (by decide) ?_
        refine rw_gf 50 21 46 false rfl rfl rfl rfl rfl rfl (by decide) ?_
        refine rw_gf 51 21 46 false rfl rfl rfl rfl rfl rfl (by decide) ?_
        refine rw_t 52 rfl rfl rfl (do_pick_t rfl rfl rfl ?_)
        refine rw_nil ?_
        refine ⟨rfl, ⟨_, rfl, by first | (simp; done) | (simp only [bs]; omega) | (simp [*]; done) | (simp; omega) | (constructor <;> intro h <;> simp_all <;> omega)⟩, ?_⟩
        repeat (refine ⟨⟨_, rfl, rfl⟩, ?_⟩)
        exact trivial
      · have kg4 := g4
        try simp only [bs] at kg4
        refine rw_gt 33 7 32 false rfl rfl rfl rfl rfl rfl g4 (do_fieldaddr rfl ?_)
        refine rw_gt 34 7 32 false rfl rfl rfl rfl rfl rfl g4 (do_load_box rfl rfl rfl ?_)
        refine rw_gt 35 7 32 false rfl rfl rfl rfl rfl rfl g4 (do_fieldaddr rfl ?_)
        refine rw_gt 36 7 32 false rfl rfl rfl rfl rfl rfl g4 (do_load_box rfl rfl rfl ?_)
        refine rw_gt 37 7 32 false rfl rfl rfl rfl rfl rfl g4 (do_bin rfl rfl rfl ?_)
        refine rw_t 38 rfl rfl rfl (do_pick_f rfl g4 rfl ?_)
        refine rw_t 39 rfl rfl rfl (do_move rfl ?_)
        refine rw_case 39 rfl (fun g5 => ?_) (fun g5 => ?_)
        · have kg5 := g5
          try simp only [bs] at kg5
          refine rw_gf 40 14 39 false rfl rfl rfl rfl rfl rfl (by rw [g5]; decide) ?_
          refine rw_gf 41 14 39 false rfl rfl rfl rfl rfl rfl (by rw [g5]; decide) ?_
          refine rw_gf 42 14 39 false rfl rfl rfl rfl rfl rfl (by rw [g5]; decide) ?_
          refine rw_gf 43 14 39 false rfl rfl rfl rfl rfl rfl (by rw [g5]; decide) ?_
          refine rw_gf 44 14 39 false rfl rfl rfl rfl rfl rfl (by rw [g5]; decide) ?_
          refine rw_t 45 rfl rfl rfl (do_pick_t rfl g5 rfl ?_)
          refine rw_t 46 rfl rfl rfl (do_move rfl ?_)
          refine rw_gf 47 21 46 false rfl rfl rfl rfl rfl rfl (by decide) ?_
          refine rw_gf 48 21 46 false rfl rfl rfl rfl rfl rfl (by decide) ?_
          refine rw_gf 49 21 46 false rfl rfl rfl rfl rfl rfl (by decide) ?_
          refine rw_gf 50 21 46 false rfl rfl rfl rfl rfl rfl (by decide) ?_
          refine rw_gf 51 21 46 false rfl rfl rfl rfl rfl rfl (by decide) ?_
          refine rw_t 52 rfl rfl rfl (do_pick_t rfl rfl rfl ?_)
          refine rw_nil ?_
          refine ⟨rfl, ⟨_, rfl, by first | (simp; done) | (simp only [bs]; omega) | (simp [*]; done) | (simp; omega) | (constructor <;> intro h <;> simp_all <;> omega)⟩, ?_⟩
          repeat (refine ⟨⟨_, rfl, rfl⟩, ?_⟩)
          exact trivial
        · have kg5 := g5
          try simp only [bs] at kg5
          refine rw_gt 40 14 39 false rfl rfl rfl rfl rfl rfl g5 (do_fieldaddr rfl ?_)
          refine rw_gt 41 14 39 false rfl rfl rfl rfl rfl rfl g5 (do_load_box rfl rfl rfl ?_)
          refine rw_gt 42 14 39 false rfl rfl rfl rfl rfl rfl g5 (do_fieldaddr rfl ?_)
          refine rw_gt 43 14 39 false rfl rfl rfl rfl rfl rfl g5 (do_load_box rfl rfl rfl ?_)
          refine rw_gt 44 14 39 false rfl rfl rfl rfl rfl rfl g5 (do_bin rfl rfl rfl ?_)
          refine rw_t 45 rfl rfl rfl (do_pick_f rfl g5 rfl ?_)
          refine rw_t 46 rfl rfl rfl (do_move rfl ?_)
          refine rw_case 46 rfl (fun g6 => ?_) (fun g6 => ?_)
          · have kg6 := g6
            try simp only [bs] at kg6
            refine rw_gf 47 21 46 false rfl rfl rfl rfl rfl rfl (by rw [g6]; decide) ?_
            refine rw_gf 48 21 46 false rfl rfl rfl rfl rfl rfl (by rw [g6]; decide) ?_
            refine rw_gf 49 21 46 false rfl rfl rfl rfl rfl rfl (by rw [g6]; decide) ?_
            refine rw_gf 50 21 46 false rfl rfl rfl rfl rfl rfl (by rw [g6]; decide) ?_
            refine rw_gf 51 21 46 false rfl rfl rfl rfl rfl rfl (by rw [g6]; decide) ?_
            refine rw_t 52 rfl rfl rfl (do_pick_t rfl g6 rfl ?_)
            refine rw_nil ?_
            refine ⟨rfl, ⟨_, rfl, by first | (simp; done) | (simp only [bs]; omega) | (simp [*]; done) | (simp; omega) | (constructor <;> intro h <;> simp_all <;> omega)⟩, ?_⟩
            repeat (refine ⟨⟨_, rfl, rfl⟩, ?_⟩)
            exact trivial
          · have kg6 := g6
            try simp only [bs] at kg6
            refine rw_gt 47 21 46 false rfl rfl rfl rfl rfl rfl g6 (do_fieldaddr rfl ?_)
            refine rw_gt 48 21 46 false rfl rfl rfl rfl rfl rfl g6 (do_load_box rfl rfl rfl ?_)
            refine rw_gt 49 21 46 false rfl rfl rfl rfl rfl rfl g6 (do_fieldaddr rfl ?_)
            refine rw_gt 50 21 46 false rfl rfl rfl rfl rfl rfl g6 (do_load_box rfl rfl rfl ?_)
            refine rw_gt 51 21 46 false rfl rfl rfl rfl rfl rfl g6 (do_bin rfl rfl rfl ?_)
            refine rw_t 52 rfl rfl rfl (do_pick_f rfl g6 rfl ?_)
            refine rw_nil ?_
            refine ⟨rfl, ⟨_, rfl, by first | (simp; done) | (simp only [bs]; omega) | (simp [*]; done) | (simp; omega) | (constructor <;> intro h <;> simp_all <;> omega)⟩, ?_⟩
            repeat (refine ⟨⟨_, rfl, rfl⟩, ?_⟩)
            exact trivial
    intro b2 hb2
    refine w_condP hb2 rfl (fun hc2 => ?_) (fun hc2 => ?_)
    · refine w_seq ?_
      refine w_region ?_
      refine rw_t 6 rfl rfl rfl (do_assign rfl ?_)
      refine rw_nil ?_
      refine w_ret ?_
      exact ret_eq (.inl rfl) (.cons (res_tmp rfl) .nil) [0, 1, 2, 3, 4, 5, 6, 7, 8] (Eq.symm (val_congr (by unfold legalE; rw [if_pos (by omega)]))) ⟨shR rfl, shR rfl, shR rfl, shR rfl, shR rfl, shR rfl, shR rfl, shR rfl, shR rfl, trivial⟩ rfl (pre_ok rfl)
    refine w_skip ?_
    refine w_seq ?_
    refine w_region ?_
    refine rw_t 53 rfl rfl rfl (do_move rfl ?_)
    refine rw_t 54 rfl rfl rfl (n_load_boxagg [_, _, _, _, _, _, _] rfl rfl (Nat.le_of_ble_eq_true rfl) rfl ?_)
    refine rw_t 55 rfl rfl rfl (do_callR (X' := .val (.int .i64 (liftE c p e))) rfl rfl (t_lift (c := c) (p := p) (e := e) (h) (hp) (he) (by omega)) [0, 1, 2, 3, 4, 5, 6, 7, 8] ⟨.inr ⟨_, rfl, srv⟩, .inr ⟨_, rfl, srv⟩, .inr ⟨_, rfl, srv⟩, .inr ⟨_, rfl, srv⟩, .inr ⟨_, rfl, srv⟩, .inr ⟨_, rfl, srv⟩, .inr ⟨_, rfl, srv⟩, .inr ⟨_, rfl, srv⟩, .inr ⟨_, rfl, srv⟩, trivial⟩ rfl rfl rfl ?_)
    refine rw_t 6 rfl rfl rfl (do_assign rfl ?_)
    refine rw_nil ?_
    refine w_ret ?_
    exact ret_eq (.inl rfl) (.cons (res_tmp rfl) .nil) [0, 1, 2, 3, 4, 5, 6, 7, 8] (Eq.symm (val_congr (by unfold legalE; rw [if_neg (by omega), if_pos (by omega)]))) ⟨shR rfl, shR rfl, shR rfl, shR rfl, shR rfl, shR rfl, shR rfl, shR rfl, shR rfl, trivial⟩ rfl (pre_ok rfl)
  · refine rw_t 22 rfl rfl rfl (do_lookup_f rfl rfl rfl (by simp [List.findIdx?_cons, hw.1, hw.2]) ?_)
    refine rw_t 13 rfl rfl rfl (do_move rfl ?_)
    refine rw_t 23 rfl rfl rfl (do_extract rfl rfl ?_)
    refine rw_t 24 rfl rfl rfl (do_extract rfl rfl ?_)
    refine rw_t 8 rfl rfl rfl (do_assign rfl ?_)
    refine rw_t 9 rfl rfl rfl (do_assign rfl ?_)
    refine rw_nil ?_
    refine w_seq ?_
    refine w_seqB 52 (True) ?_ ?_
    · -- region 3
      refine w_region ?_
      refine rw_t 25 rfl rfl rfl (do_move rfl ?_)
      refine rw_t 26 rfl rfl rfl (do_not rfl ?_)
      refine rw_t 27 rfl rfl rfl (do_move rfl ?_)
      refine rw_gf 28 2 27 false rfl rfl rfl rfl rfl rfl (by decide) ?_
      refine rw_gf 29 2 27 false rfl rfl rfl rfl rfl rfl (by decide) ?_
      refine rw_gf 30 2 27 false rfl rfl rfl rfl rfl rfl (by decide) ?_
      refine rw_t 31 rfl rfl rfl (do_pick_t rfl rfl rfl ?_)
      refine rw_t 32 rfl rfl rfl (do_move rfl ?_)
      refine rw_gf 33 7 32 false rfl rfl rfl rfl rfl rfl (by decide) ?_
      refine rw_gf 34 7 32 false rfl rfl rfl rfl rfl rfl (by decide) ?_
      refine rw_gf 35 7 32 false rfl rfl rfl rfl rfl rfl (by decide) ?_
      refine rw_gf 36 7 32 false rfl rfl rfl rfl rfl rfl (by decide) ?_
      refine rw_gf 37 7 32 false rfl rfl rfl rfl rfl rfl (by decide) ?_
      refine rw_t 38 rfl rfl rfl (do_pick_t rfl rfl rfl ?_)
      refine rw_t 39 rfl rfl rfl (do_move rfl ?_)
      refine rw_gf 40 14 39 false rfl rfl rfl rfl rfl rfl (by decide) ?_
      refine rw_gf 41 14 39 false rfl rfl rfl rfl rfl rfl (by decide) ?_
      refine rw_gf 42 14 39 false rfl rfl rfl rfl rfl rfl (by decide) ?_
      refine rw_gf 43 14 39 false rfl rfl rfl rfl rfl rfl (by decide) ?_
      refine rw_gf 44 14 39 false rfl rfl rfl rfl rfl rfl (by decide) ?_
      refine rw_t 45 rfl rfl rfl (do_pick_t rfl rfl rfl ?_)
      refine rw_t 46 rfl rfl rfl (do_move rfl ?_)
      refine rw_gf 47 21 46 false rfl rfl rfl rfl rfl rfl (by decide) ?_
      refine rw_gf 48 21 46 false rfl rfl rfl rfl rfl rfl (by decide) ?_
      refine rw_gf 49 21 46 false rfl rfl rfl rfl rfl rfl (by decide) ?_
      refine rw_gf 50 21 46 false rfl rfl rfl rfl rfl rfl (by decide) ?_
      refine rw_gf 51 21 46 false rfl rfl rfl rfl rfl rfl (by decide) ?_
      refine rw_t 52 rfl rfl rfl (do_pick_t rfl rfl rfl ?_)
      refine rw_nil ?_
      refine ⟨rfl, ⟨_, rfl, by first | (simp; done) | (simp only [bs]; omega) | (simp [*]; done) | (simp; omega) | (constructor <;> intro h <;> simp_all <;> omega)⟩, ?_⟩
      repeat (refine ⟨⟨_, rfl, rfl⟩, ?_⟩)
      exact trivial
    intro b3 hb3
    refine w_condP hb3 rfl (fun hc3 => ?_) (fun hc3 => ?_)
    rotate_left
    · exfalso; first | (cases hc3; done) | exact (hc3 trivial) | (try simp only [bs] at hc3; first | omega | (simp_all; done) | (simp_all; omega))
    refine w_seq ?_
    refine w_region ?_
    refine rw_t 6 rfl rfl rfl (do_assign rfl ?_)
    refine rw_nil ?_
    refine w_ret ?_
    exact ret_eq (.inl rfl) (.cons (res_tmp rfl) .nil) [0, 1, 2, 3, 4, 5, 6, 7, 8] (Eq.symm (val_congr (by unfold legalE; rw [if_pos (by omega)]))) ⟨shR rfl, shR rfl, shR rfl, shR rfl, shR rfl, shR rfl, shR rfl, shR rfl, shR rfl, trivial⟩ rfl (pre_ok rfl)
set_option maxHeartbeats 8000000 in
set_option synthInstance.maxHeartbeats 400000 in
set_option synthInstance.maxSize 2000 in
theorem t_does (c : Csr) (p : Pre) (h : CsrG c) (hp : rightP c p) (e : Event) (he : EvIn e) (hl : legalE c p e = 0) : Tri Try.prog 43 [.agg [.val (.int .i64 c.N), .val (.int .i64 c.S), .val (.int .i64 c.T), .slc 0 0 c.First.length none, .slc 1 0 c.Head.length none, .slc 2 0 c.Rev.length none, .slc 3 0 c.Cap.length none, .slc 4 0 c.Arc.length none, .slc 5 0 c.Back.length none, .slc 6 0 p.Res.length none, .slc 7 0 p.Ex.length none, .slc 8 0 p.H.length none], .agg [.val (.int .i64 e.who), .val (.int .u8 e.what), .val (.int .i64 e.u), .val (.int .i64 e.arc), .val (.int .i64 e.d), .val (.int .i64 e.h), .val (.int .i64 e.low)]] [SO.ints false .i64 c.First, SO.ints false .i64 c.Head, SO.ints false .i64 c.Rev, SO.ints false .i64 c.Cap, SO.ints false .i64 c.Arc, SO.bools false c.Back, SO.ints true .i64 p.Res, SO.ints true .i64 p.Ex, SO.ints true .i64 p.H] (fun s H => s = .tup [] ∧ H = [SO.ints false .i64 c.First, SO.ints false .i64 c.Head, SO.ints false .i64 c.Rev, SO.ints false .i64 c.Cap, SO.ints false .i64 c.Arc, SO.bools false c.Back, SO.ints true .i64 ((doesP c p e).Res), SO.ints true .i64 ((doesP c p e).Ex), SO.ints true .i64 ((doesP c p e).H)]) := by
  refine tri_of_w (fn := Try.f43) Try.func43 rfl (by simp [Try.f43]) ?_
  intro ρ w hρ
  refine w_seq ?_
  have hn := h.n
  have hf := h.first
  have hhd := h.head
  have hrl := h.rev
  have hcl := h.cap
  have hal := h.arc
  have hbl := h.back
  have hr := hp.1.1
  have hx := hp.1.2.1
  have hh := hp.1.2.2
  have hS := h.s
  have hT := h.t
  have hu := legal_u hl
  have ho := right_ok h.toCsrT hp
  refine w_region ?_
  refine rw_t 2 rfl rfl rfl (n_box_agg (n := 9) rfl rfl ?_)
  refine rw_t 3 rfl rfl rfl (n_box_agg (n := 10) rfl rfl ?_)
  refine rw_nil ?_
  refine w_seq ?_
  refine w_seq ?_
  refine w_region ?_
  refine rw_t 4 rfl rfl rfl (do_fieldaddr rfl ?_)
  refine rw_t 5 rfl rfl rfl (do_load_box rfl rfl rfl ?_)
  refine rw_t 6 rfl rfl rfl (do_bin rfl rfl rfl ?_)
  refine rw_nil ?_
  refine w_cond rfl (fun hc1 => ?_) (fun hc1 => ?_)
  all_goals try simp only [bs] at hc1
  · refine w_seq ?_
    refine w_region ?_
    refine rw_t 7 rfl rfl rfl (do_fieldaddr rfl ?_)
    refine rw_t 8 rfl rfl rfl (do_fieldaddr rfl ?_)
    refine rw_t 9 rfl rfl rfl (do_load_box rfl rfl rfl ?_)
    refine rw_t 10 rfl rfl rfl (do_fieldaddr rfl ?_)
    refine rw_t 11 rfl rfl rfl (do_load_box rfl rfl rfl ?_)
    refine rw_t 12 rfl rfl rfl (do_fieldaddr rfl ?_)
    refine rw_t 13 rfl rfl rfl (do_load_box rfl rfl rfl ?_)
    refine rw_t 14 rfl rfl rfl (do_ix0 rfl rfl rfl (by first | omega | (simp only [ls] <;> omega)) ?_)
    refine rw_u rfl rfl (n_store_arr (z := e.h) rfl rfl rfl (by first | omega | (simp only [ls] <;> omega)) rfl (by decide) rfl ?_)
    refine rw_nil ?_
    refine w_ret ?_
    exact ret_eq (.inl rfl) (.nil) [0, 1, 2, 3, 4, 5, 6, 7, 8] (rfl) ⟨shR rfl, shR rfl, shR rfl, shR rfl, shR rfl, shR rfl, .inr ⟨_, rfl, .inl (congrArg (SO.ints true .i64) (by unfold doesP; rw [if_pos hc1]))⟩, .inr ⟨_, rfl, .inl (congrArg (SO.ints true .i64) (by unfold doesP; rw [if_pos hc1]))⟩, .inr ⟨_, rfl, .inl (congrArg (SO.ints true .i64) (by unfold doesP; rw [if_pos hc1]))⟩, trivial⟩ rfl (pre_ok rfl)
  refine w_skip ?_
  refine w_seq ?_
  obtain ⟨a1, a2, a3, a4, a5, a6, a7⟩ := legal_push hl hc1
  obtain ⟨t1, t2, t3⟩ := tail_of_arc h.toCsrT ⟨hu.2.1, hu.2.2.1⟩ a1 a2
  have hA : e.arc.toNat < c.Head.length := by omega
  have hv := h.rv _ hA
  have hne := h.rne _ hA
  have hhd2 := h.hd _ hA
  have r1 := ho.resv _ hA
  have r2 := ho.resv (c.Rev.getD e.arc.toNat 0).toNat (by omega)
  have c1 := h.capv _ hA
  have c2 := h.capv (c.Rev.getD e.arc.toNat 0).toNat (by omega)
  have x1 := ho.exv e.u.toNat (by omega)
  have x2 := ho.exv (c.Head.getD e.arc.toNat 0).toNat (by omega)
  refine w_draw mixed [0, 1, 3, 0, 8, 31, 63, 0, 128] [511, 1023, 2047] (by kernel_rfl) (by kernel_rfl) rfl rfl rfl (hle hρ rfl) ?_
  refine ra_q (j := 0) rfl rfl rfl rfl (do_fieldaddr rfl ⟨rfl, rfl⟩) (by rfl) ?_
  refine ra_q (j := 1) rfl rfl rfl rfl (do_fieldaddr rfl ⟨rfl, rfl⟩) (by rfl) ?_
  refine ra_q (j := 2) rfl rfl rfl rfl (do_load_box rfl rfl rfl ⟨rfl, rfl⟩) (by rfl) ?_
  refine ra_q (j := 3) rfl rfl rfl rfl (do_fieldaddr rfl ⟨rfl, rfl⟩) (by rfl) ?_
  refine ra_q (j := 4) rfl rfl rfl rfl (do_load_box rfl rfl rfl ⟨rfl, rfl⟩) (by rfl) ?_
  refine ra_q (j := 5) rfl rfl rfl rfl (do_ix0 rfl rfl rfl (by first | omega | (simp only [ls] <;> omega)) ⟨rfl, rfl⟩) (by rfl) ?_
  refine ra_q (j := 6) rfl rfl rfl rfl (do_load_arr rfl rfl (by first | omega | (simp only [ls] <;> omega)) rfl ⟨rfl, rfl⟩) (by rfl) ?_
  refine ra_q (j := 7) rfl rfl rfl rfl (do_fieldaddr rfl ⟨rfl, rfl⟩) (by rfl) ?_
  refine ra_q (j := 8) rfl rfl rfl rfl (do_load_box rfl rfl rfl ⟨rfl, rfl⟩) (by rfl) ?_
  refine n_done ?_
  refine rw_t 24 rfl rfl rfl (do_sub rfl rfl (by omega) ?_)
  refine rw_t 25 rfl rfl rfl (do_ix0 rfl rfl rfl (by first | omega | (simp only [ls] <;> omega)) ?_)
  refine rw_u rfl rfl (n_store_arr (z := ((p.Res.getD e.arc.toNat 0) - e.d)) rfl rfl rfl (by first | omega | (simp only [ls] <;> omega)) rfl (by decide) rfl ?_)
  refine rw_nil ?_
  refine w_seq ?_
  have g1 := getD_set p.Res e.arc.toNat (c.Rev.getD e.arc.toNat 0).toNat (p.Res.getD e.arc.toNat 0 - e.d) (by omega)
  rw [if_neg (Ne.symm hne)] at g1
  refine w_draw mixed [0, 1, 3, 0, 8, 24, 0, 64, 248, 504, 1023, 2047, 0, 4096] [16383, 32767, 65535] (by kernel_rfl) (by kernel_rfl) rfl rfl rfl (hle hρ rfl) ?_
  refine ra_q (j := 0) rfl rfl rfl rfl (do_fieldaddr rfl ⟨rfl, rfl⟩) (by rfl) ?_
  refine ra_q (j := 1) rfl rfl rfl rfl (do_fieldaddr rfl ⟨rfl, rfl⟩) (by rfl) ?_
  refine ra_q (j := 2) rfl rfl rfl rfl (do_load_box rfl rfl rfl ⟨rfl, rfl⟩) (by rfl) ?_
  refine ra_q (j := 3) rfl rfl rfl rfl (do_fieldaddr rfl ⟨rfl, rfl⟩) (by rfl) ?_
  refine ra_q (j := 4) rfl rfl rfl rfl (do_fieldaddr rfl ⟨rfl, rfl⟩) (by rfl) ?_
  refine ra_q (j := 5) rfl rfl rfl rfl (do_load_box rfl rfl rfl ⟨rfl, rfl⟩) (by rfl) ?_
  refine ra_q (j := 6) rfl rfl rfl rfl (do_fieldaddr rfl ⟨rfl, rfl⟩) (by rfl) ?_
  refine ra_q (j := 7) rfl rfl rfl rfl (do_load_box rfl rfl rfl ⟨rfl, rfl⟩) (by rfl) ?_
  refine ra_q (j := 8) rfl rfl rfl rfl (do_ix0 rfl rfl rfl (by first | omega | (simp only [ls] <;> omega)) ⟨rfl, rfl⟩) (by rfl) ?_
  refine ra_q (j := 9) rfl rfl rfl rfl (do_load_arr rfl rfl (by first | omega | (simp only [ls] <;> omega)) rfl ⟨rfl, rfl⟩) (by rfl) ?_
  refine ra_q (j := 10) rfl rfl rfl rfl (do_ix0 rfl rfl rfl (by first | omega | (simp only [ls] <;> omega)) ⟨rfl, rfl⟩) (by rfl) ?_
  refine ra_q (j := 11) rfl rfl rfl rfl (do_load_arr rfl rfl (by first | omega | (simp only [ls] <;> omega)) rfl ⟨rfl, rfl⟩) (by rfl) ?_
  refine ra_q (j := 12) rfl rfl rfl rfl (do_fieldaddr rfl ⟨rfl, rfl⟩) (by rfl) ?_
  refine ra_q (j := 13) rfl rfl rfl rfl (do_load_box rfl rfl rfl ⟨rfl, rfl⟩) (by rfl) ?_
  refine n_done ?_
  refine rw_t 40 rfl rfl rfl (do_add rfl rfl (by omega) ?_)
  refine rw_t 41 rfl rfl rfl (do_ix0 rfl rfl rfl (by first | omega | (simp only [ls] <;> omega)) ?_)
  refine rw_u rfl rfl (n_store_arr (z := (((p.Res.set e.arc.toNat ((p.Res.getD e.arc.toNat 0) - e.d)).getD ((c.Rev.getD e.arc.toNat 0).toNat) 0) + e.d)) rfl rfl rfl (by first | omega | (simp only [ls] <;> omega)) rfl (by decide) rfl ?_)
  refine rw_nil ?_
  refine w_seq ?_
  refine w_draw mixed [0, 1, 3, 0, 8, 31, 63, 0, 128] [511, 1023, 2047] (by kernel_rfl) (by kernel_rfl) rfl rfl rfl (hle hρ rfl) ?_
  refine ra_q (j := 0) rfl rfl rfl rfl (do_fieldaddr rfl ⟨rfl, rfl⟩) (by rfl) ?_
  refine ra_q (j := 1) rfl rfl rfl rfl (do_fieldaddr rfl ⟨rfl, rfl⟩) (by rfl) ?_
  refine ra_q (j := 2) rfl rfl rfl rfl (do_load_box rfl rfl rfl ⟨rfl, rfl⟩) (by rfl) ?_
  refine ra_q (j := 3) rfl rfl rfl rfl (do_fieldaddr rfl ⟨rfl, rfl⟩) (by rfl) ?_
  refine ra_q (j := 4) rfl rfl rfl rfl (do_load_box rfl rfl rfl ⟨rfl, rfl⟩) (by rfl) ?_
  refine ra_q (j := 5) rfl rfl rfl rfl (do_ix0 rfl rfl rfl (by first | omega | (simp only [ls] <;> omega)) ⟨rfl, rfl⟩) (by rfl) ?_
  refine ra_q (j := 6) rfl rfl rfl rfl (do_load_arr rfl rfl (by first | omega | (simp only [ls] <;> omega)) rfl ⟨rfl, rfl⟩) (by rfl) ?_
  refine ra_q (j := 7) rfl rfl rfl rfl (do_fieldaddr rfl ⟨rfl, rfl⟩) (by rfl) ?_
  refine ra_q (j := 8) rfl rfl rfl rfl (do_load_box rfl rfl rfl ⟨rfl, rfl⟩) (by rfl) ?_
  refine n_done ?_
  refine rw_t 51 rfl rfl rfl (do_sub rfl rfl (by omega) ?_)
  refine rw_t 52 rfl rfl rfl (do_ix0 rfl rfl rfl (by first | omega | (simp only [ls] <;> omega)) ?_)
  refine rw_u rfl rfl (n_store_arr (z := ((p.Ex.getD e.u.toNat 0) - e.d)) rfl rfl rfl (by first | omega | (simp only [ls] <;> omega)) rfl (by decide) rfl ?_)
  refine rw_nil ?_
  have g2 := getD_set p.Ex e.u.toNat (c.Head.getD e.arc.toNat 0).toNat (p.Ex.getD e.u.toNat 0 - e.d) (by omega)
  have g3 : -9000000000000000000 ≤ (p.Ex.set e.u.toNat (p.Ex.getD e.u.toNat 0 - e.d)).getD (c.Head.getD e.arc.toNat 0).toNat 0 ∧ (p.Ex.set e.u.toNat (p.Ex.getD e.u.toNat 0 - e.d)).getD (c.Head.getD e.arc.toNat 0).toNat 0 ≤ 9000000000000000000 := by rw [g2]; split <;> omega
  refine w_draw mixed [0, 1, 3, 0, 8, 24, 0, 64, 248, 504, 1023, 2047, 0, 4096] [16383, 32767, 65535] (by kernel_rfl) (by kernel_rfl) rfl rfl rfl (hle hρ rfl) ?_
  refine ra_q (j := 0) rfl rfl rfl rfl (do_fieldaddr rfl ⟨rfl, rfl⟩) (by rfl) ?_
  refine ra_q (j := 1) rfl rfl rfl rfl (do_fieldaddr rfl ⟨rfl, rfl⟩) (by rfl) ?_
  refine ra_q (j := 2) rfl rfl rfl rfl (do_load_box rfl rfl rfl ⟨rfl, rfl⟩) (by rfl) ?_
  refine ra_q (j := 3) rfl rfl rfl rfl (do_fieldaddr rfl ⟨rfl, rfl⟩) (by rfl) ?_
  refine ra_q (j := 4) rfl rfl rfl rfl (do_fieldaddr rfl ⟨rfl, rfl⟩) (by rfl) ?_
  refine ra_q (j := 5) rfl rfl rfl rfl (do_load_box rfl rfl rfl ⟨rfl, rfl⟩) (by rfl) ?_
  refine ra_q (j := 6) rfl rfl rfl rfl (do_fieldaddr rfl ⟨rfl, rfl⟩) (by rfl) ?_
  refine ra_q (j := 7) rfl rfl rfl rfl (do_load_box rfl rfl rfl ⟨rfl, rfl⟩) (by rfl) ?_
  refine ra_q (j := 8) rfl rfl rfl rfl (do_ix0 rfl rfl rfl (by first | omega | (simp only [ls] <;> omega)) ⟨rfl, rfl⟩) (by rfl) ?_
  refine ra_q (j := 9) rfl rfl rfl rfl (do_load_arr rfl rfl (by first | omega | (simp only [ls] <;> omega)) rfl ⟨rfl, rfl⟩) (by rfl) ?_
  refine ra_q (j := 10) rfl rfl rfl rfl (do_ix0 rfl rfl rfl (by first | omega | (simp only [ls] <;> omega)) ⟨rfl, rfl⟩) (by rfl) ?_
  refine ra_q (j := 11) rfl rfl rfl rfl (do_load_arr rfl rfl (by first | omega | (simp only [ls] <;> omega)) rfl ⟨rfl, rfl⟩) (by rfl) ?_
  refine ra_q (j := 12) rfl rfl rfl rfl (do_fieldaddr rfl ⟨rfl, rfl⟩) (by rfl) ?_
  refine ra_q (j := 13) rfl rfl rfl rfl (do_load_box rfl rfl rfl ⟨rfl, rfl⟩) (by rfl) ?_
  refine n_done ?_
  refine rw_t 67 rfl rfl rfl (do_add rfl rfl (by omega) ?_)
  refine rw_t 68 rfl rfl rfl (do_ix0 rfl rfl rfl (by first | omega | (simp only [ls] <;> omega)) ?_)
  refine rw_u rfl rfl (n_store_arr (z := (((p.Ex.set e.u.toNat ((p.Ex.getD e.u.toNat 0) - e.d)).getD ((c.Head.getD e.arc.toNat 0).toNat) 0) + e.d)) rfl rfl rfl (by first | omega | (simp only [ls] <;> omega)) rfl (by decide) rfl ?_)
  refine rw_nil ?_
  exact ret_eq (.inr rfl) (.nil) [0, 1, 2, 3, 4, 5, 6, 7, 8] (rfl) ⟨shR rfl, shR rfl, shR rfl, shR rfl, shR rfl, shR rfl, .inr ⟨_, rfl, .inl (congrArg (SO.ints true .i64) (by unfold doesP; rw [if_neg hc1]; rfl))⟩, .inr ⟨_, rfl, .inl (congrArg (SO.ints true .i64) (by unfold doesP; rw [if_neg hc1]; rfl))⟩, .inr ⟨_, rfl, .inl (congrArg (SO.ints true .i64) (by unfold doesP; rw [if_neg hc1]))⟩, trivial⟩ rfl (pre_ok rfl)
set_option maxHeartbeats 8000000 in
set_option synthInstance.maxHeartbeats 400000 in
set_option synthInstance.maxSize 2000 in
theorem t_Run (c : Csr) (p : Pre) (h : CsrG c) (hp : rightP c p) (l : List Event) (hl : ∀ e ∈ l, EvIn e) (hll : l.length < 1073741824) : Tri Try.prog 19 [.agg [.val (.int .i64 c.N), .val (.int .i64 c.S), .val (.int .i64 c.T), .slc 0 0 c.First.length none, .slc 1 0 c.Head.length none, .slc 2 0 c.Rev.length none, .slc 3 0 c.Cap.length none, .slc 4 0 c.Arc.length none, .slc 5 0 c.Back.length none], .agg [.slc 6 0 p.Res.length none, .slc 7 0 p.Ex.length none, .slc 8 0 p.H.length none], .slc 9 0 l.length none] [SO.ints false .i64 c.First, SO.ints false .i64 c.Head, SO.ints false .i64 c.Rev, SO.ints false .i64 c.Cap, SO.ints false .i64 c.Arc, SO.bools false c.Back, SO.ints false .i64 p.Res, SO.ints false .i64 p.Ex, SO.ints false .i64 p.H, SO.events false l] (fun s H => s = .tup [.agg [.slc 10 0 ((runE c p l 0).1.Res.length) none, .slc 11 0 ((runE c p l 0).1.Ex.length) none, .slc 12 0 ((runE c p l 0).1.H.length) none], .val (.int .i64 ((runE c p l 0).2.1)), .val (.int .i64 ((runE c p l 0).2.2))] ∧ H = [SO.ints false .i64 c.First, SO.ints false .i64 c.Head, SO.ints false .i64 c.Rev, SO.ints false .i64 c.Cap, SO.ints false .i64 c.Arc, SO.bools false c.Back, SO.ints false .i64 p.Res, SO.ints false .i64 p.Ex, SO.ints false .i64 p.H, SO.events false l, SO.ints true .i64 ((runE c p l 0).1.Res), SO.ints true .i64 ((runE c p l 0).1.Ex), SO.ints true .i64 ((runE c p l 0).1.H)]) := by
  refine tri_of_w (fn := Try.f19) Try.func19 rfl (by simp [Try.f19]) ?_
  intro ρ w hρ
  refine w_seq ?_
  have hn := h.n
  have hf := h.first
  have hhd := h.head
  have hrl := h.rev
  have hcl := h.cap
  have hal := h.arc
  have hbl := h.back
  have hr := hp.1.1
  have hx := hp.1.2.1
  have hh := hp.1.2.2
  have hS := h.s
  have hT := h.t
  refine w_region ?_
  refine rw_t 3 rfl rfl rfl (n_box_agg (n := 10) rfl rfl ?_)
  refine rw_t 4 rfl rfl rfl (n_box_agg (n := 11) rfl rfl ?_)
  refine rw_t 6 rfl rfl rfl (n_alloc (n := 12) rfl ?_)
  refine rw_t 7 rfl rfl rfl (do_assign rfl ?_)
  refine rw_t 8 rfl rfl rfl (do_assign rfl ?_)
  refine rw_nil ?_
  refine w_seq ?_
  refine w_draw mixed [0, 0, 2, 7, 0] [31] (by kernel_rfl) (by kernel_rfl) rfl rfl rfl (hle hρ rfl) ?_
  refine ra_q (j := 0) rfl rfl rfl rfl (n_load_boxagg [_, _, _, _, _, _, _, _, _] rfl rfl (Nat.le_of_ble_eq_true rfl) rfl ⟨rfl, rfl⟩) (by rfl) ?_
  refine ra_q (j := 1) rfl rfl rfl rfl (n_load_boxagg [_, _, _] rfl rfl (Nat.le_of_ble_eq_true rfl) rfl ⟨rfl, rfl⟩) (by rfl) ?_
  refine ra_n (j := 2) rfl rfl rfl rfl (g_callN (X' := .agg [.slc 13 0 p.Res.length none, .slc 14 0 p.Ex.length none, .slc 15 0 p.H.length none]) (N' := [SO.ints true .i64 p.Res, SO.ints true .i64 p.Ex, SO.ints true .i64 p.H]) rfl rfl (t_own (p := p) (by omega)) [6, 7, 8] ⟨.inr ⟨_, rfl, srv⟩, .inr ⟨_, rfl, srv⟩, .inr ⟨_, rfl, srv⟩, trivial⟩ rfl rfl rfl rfl rfl ⟨rfl, rfl⟩) (by rfl) (by rfl) (by rfl) ?_
  refine ra_q (j := 3) rfl rfl rfl rfl (do_build (out := [_, _, _, _, _, _, _, _, _, _, _, _]) rfl rfl ⟨rfl, rfl⟩) (by rfl) ?_
  refine ra_n (j := 4) rfl rfl rfl rfl (g_alloc (n := 16) rfl ⟨rfl, rfl⟩) (by rfl) (by rfl) (by rfl) ?_
  refine n_done ?_
  refine rw_u rfl rfl (n_store_whole rfl rfl rfl rfl rfl rfl ?_)
  refine rw_nil ?_
  refine w_seq ?_
  refine w_seq ?_
  refine w_region ?_
  refine rw_t 17 rfl rfl rfl (do_move rfl ?_)
  refine rw_t 18 rfl rfl rfl (do_len rfl ?_)
  refine rw_t 19 rfl rfl rfl (do_move rfl ?_)
  refine rw_nil ?_
  refine w_block ?_
  refine w_loopS (ι := Nat × Pre) (fun q => [(2, .slc 9 0 l.length none), (3, .ptr 10 0 0), (6, .ptr 12 0 0), (9, .ptr 16 0 0), (17, .slc 9 0 l.length none), (18, .val (.int .i64 ((l.length : Nat) : Int))), (19, .val (.int .i64 ((q.1 : Nat) : Int)))]) (fun q => [SO.ints false .i64 c.First, SO.ints false .i64 c.Head, SO.ints false .i64 c.Rev, SO.ints false .i64 c.Cap, SO.ints false .i64 c.Arc, SO.bools false c.Back, SO.ints false .i64 p.Res, SO.ints false .i64 p.Ex, SO.ints false .i64 p.H, SO.events false l, .box [.val (.int .i64 c.N), .val (.int .i64 c.S), .val (.int .i64 c.T), .slc 0 0 c.First.length none, .slc 1 0 c.Head.length none, .slc 2 0 c.Rev.length none, .slc 3 0 c.Cap.length none, .slc 4 0 c.Arc.length none, .slc 5 0 c.Back.length none], .box [.slc 6 0 p.Res.length none, .slc 7 0 p.Ex.length none, .slc 8 0 p.H.length none], .box [.val (.slice none 0 0), .val (.slice none 0 0), .val (.slice none 0 0)], SO.ints true .i64 q.2.Res, SO.ints true .i64 q.2.Ex, SO.ints true .i64 q.2.H, .box [.val (.int .i64 c.N), .val (.int .i64 c.S), .val (.int .i64 c.T), .slc 0 0 c.First.length none, .slc 1 0 c.Head.length none, .slc 2 0 c.Rev.length none, .slc 3 0 c.Cap.length none, .slc 4 0 c.Arc.length none, .slc 5 0 c.Back.length none, .slc 13 0 q.2.Res.length none, .slc 14 0 q.2.Ex.length none, .slc 15 0 q.2.H.length none]]) (fun q => l.length - q.1) (fun q => q.1 ≤ l.length ∧ rightP c q.2 ∧ runE c p l 0 = runE c q.2 (l.drop q.1) q.1) ((0, p)) [0, 1, 2, 3, 4, 5, 6, 7, 8, 9, 10, 11, 12, 13, 14, 15, 16] (⟨by simp, hp, rfl⟩) ⟨shR rfl, shR rfl, shR rfl, shR rfl, shR rfl, shR rfl, shR rfl, shR rfl, shR rfl, shR rfl, shR rfl, shR rfl, shR rfl, shR rfl, shR rfl, shR rfl, shR rfl, trivial⟩ rfl (pre_ok rfl) hρ ⟨⟨_, rfl, rfl⟩, ⟨_, rfl, rfl⟩, ⟨_, rfl, rfl⟩, ⟨_, rfl, rfl⟩, ⟨_, rfl, rfl⟩, ⟨_, rfl, rfl⟩, ⟨_, rfl, rfl⟩, trivial⟩ ?_
  rintro ⟨i, r⟩ ⟨g1, g2, g3⟩
  dsimp only at g1 g2 g3 ⊢
  refine w_seq ?_
  refine w_region ?_
  refine rw_t 20 rfl rfl rfl (do_bin rfl rfl rfl ?_)
  refine rw_nil ?_
  refine w_seq ?_
  refine w_cond rfl (fun hc1 => ?_) (fun hc1 => ?_)
  all_goals try simp only [bs] at hc1
  rotate_left
  · refine w_exit ?_
    refine w_seq ?_
    have hi : i = l.length := by omega
    subst hi
    have e1 : runE c p l 0 = (r, (l.length : Int), 0) := by rw [g3, List.drop_length]; rfl
    refine w_region ?_
    refine rw_t 39 rfl rfl rfl (do_fieldaddr rfl ?_)
    refine rw_t 40 rfl rfl rfl (n_load_boxagg [_, _, _] rfl rfl (Nat.le_of_ble_eq_true rfl) rfl ?_)
    refine rw_t 41 rfl rfl rfl (do_move rfl ?_)
    refine rw_t 42 rfl rfl rfl (do_len rfl ?_)
    refine rw_u rfl rfl (n_store_whole rfl rfl rfl rfl rfl rfl ?_)
    refine rw_t 7 rfl rfl rfl (do_assign rfl ?_)
    refine rw_t 8 rfl rfl rfl (do_assign rfl ?_)
    refine rw_nil ?_
    refine w_ret ?_
    exact ret_eq (.inl rfl) (.cons (res_agg rfl rfl (Nat.le_of_ble_eq_true rfl)) (.cons (res_tmp rfl) (.cons (res_tmp rfl) .nil))) [0, 1, 2, 3, 4, 5, 6, 7, 8, 9, 13, 14, 15] (by rw [e1]; rfl) ⟨shR rfl, shR rfl, shR rfl, shR rfl, shR rfl, shR rfl, shR rfl, shR rfl, shR rfl, shR rfl, .inr ⟨_, rfl, .inl (congrArg (SO.ints true .i64) (by rw [e1]))⟩, .inr ⟨_, rfl, .inl (congrArg (SO.ints true .i64) (by rw [e1]))⟩, .inr ⟨_, rfl, .inl (congrArg (SO.ints true .i64) (by rw [e1]))⟩, trivial⟩ rfl (pre_ok rfl)
  refine w_skip ?_
  refine w_seq ?_
  refine w_block ?_
  refine w_seq ?_
  have he := hl _ (getD_mem Event.none (show i < l.length by omega))
  have hdr := drop_getD Event.none (show i < l.length by omega)
  refine w_region ?_
  refine rw_t 21 rfl rfl rfl (do_move rfl ?_)
  refine rw_t 22 rfl rfl rfl (do_ixn rfl rfl rfl (by first | omega | (simp only [ls] <;> omega)) ?_)
  refine rw_t 23 rfl rfl rfl (n_load_arragg [_, _, _, _, _, _, _] rfl rfl rfl (by first | omega | (simp only [ls] <;> omega)) rfl ?_)
  refine rw_t 11 rfl rfl rfl (n_alloc (n := 17) rfl ?_)
  refine rw_t 10 rfl rfl rfl (do_assign rfl ?_)
  refine rw_u rfl rfl (n_store_whole rfl rfl rfl rfl rfl rfl ?_)
  refine rw_nil ?_
  refine w_seq ?_
  refine w_seq ?_
  refine w_region ?_
  refine rw_t 24 rfl rfl rfl (n_load_boxagg [_, _, _, _, _, _, _, _, _] rfl rfl (Nat.le_of_ble_eq_true rfl) rfl ?_)
  refine rw_t 25 rfl rfl rfl (do_fieldaddr rfl ?_)
  refine rw_t 26 rfl rfl rfl (n_load_boxagg [_, _, _] rfl rfl (Nat.le_of_ble_eq_true rfl) rfl ?_)
  refine rw_t 27 rfl rfl rfl (n_load_boxagg [_, _, _, _, _, _, _] rfl rfl (Nat.le_of_ble_eq_true rfl) rfl ?_)
  refine rw_t 28 rfl rfl rfl (do_callR (X' := .val (.int .i64 (legalE c r (l.getD i Event.none)))) rfl rfl (t_Legal (c := c) (p := r) (e := (l.getD i Event.none)) (h.toCsrOK) (right_len g2) (he)) [0, 1, 2, 3, 4, 5, 13, 14, 15] ⟨.inr ⟨_, rfl, srv⟩, .inr ⟨_, rfl, srv⟩, .inr ⟨_, rfl, srv⟩, .inr ⟨_, rfl, srv⟩, .inr ⟨_, rfl, srv⟩, .inr ⟨_, rfl, srv⟩, .inr ⟨_, rfl, srv⟩, .inr ⟨_, rfl, srv⟩, .inr ⟨_, rfl, srv⟩, trivial⟩ rfl rfl rfl ?_)
  refine rw_t 12 rfl rfl rfl (do_assign rfl ?_)
  refine rw_nil ?_
  refine w_seq ?_
  refine w_region ?_
  refine rw_t 29 rfl rfl rfl (do_move rfl ?_)
  refine rw_t 30 rfl rfl rfl (do_bin rfl rfl rfl ?_)
  refine rw_nil ?_
  refine w_cond rfl (fun hc2 => ?_) (fun hc2 => ?_)
  all_goals try simp only [bs] at hc2
  · refine w_seq ?_
    have e1 : runE c p l 0 = (r, (i : Int), legalE c r (l.getD i Event.none)) := by rw [g3, hdr]; simp only [runE]; rw [if_neg hc2]
    refine w_region ?_
    refine rw_t 31 rfl rfl rfl (do_fieldaddr rfl ?_)
    refine rw_t 32 rfl rfl rfl (n_load_boxagg [_, _, _] rfl rfl (Nat.le_of_ble_eq_true rfl) rfl ?_)
    refine rw_t 33 rfl rfl rfl (do_move rfl ?_)
    refine rw_t 34 rfl rfl rfl (do_move rfl ?_)
    refine rw_u rfl rfl (n_store_whole rfl rfl rfl rfl rfl rfl ?_)
    refine rw_t 7 rfl rfl rfl (do_assign rfl ?_)
    refine rw_t 8 rfl rfl rfl (do_assign rfl ?_)
    refine rw_nil ?_
    refine w_ret ?_
    exact ret_eq (.inl rfl) (.cons (res_agg rfl rfl (Nat.le_of_ble_eq_true rfl)) (.cons (res_tmp rfl) (.cons (res_tmp rfl) .nil))) [0, 1, 2, 3, 4, 5, 6, 7, 8, 9, 13, 14, 15] (by rw [e1]; rfl) ⟨shR rfl, shR rfl, shR rfl, shR rfl, shR rfl, shR rfl, shR rfl, shR rfl, shR rfl, shR rfl, .inr ⟨_, rfl, .inl (congrArg (SO.ints true .i64) (by rw [e1]))⟩, .inr ⟨_, rfl, .inl (congrArg (SO.ints true .i64) (by rw [e1]))⟩, .inr ⟨_, rfl, .inl (congrArg (SO.ints true .i64) (by rw [e1]))⟩, trivial⟩ rfl (pre_ok rfl)
  refine w_skip ?_
  have e2 := right_does h g2 hc2
  refine w_region ?_
  refine rw_t 35 rfl rfl rfl (n_load_boxagg [_, _, _, _, _, _, _, _, _, _, _, _] rfl rfl (Nat.le_of_ble_eq_true rfl) rfl ?_)
  refine rw_t 36 rfl rfl rfl (n_load_boxagg [_, _, _, _, _, _, _] rfl rfl (Nat.le_of_ble_eq_true rfl) rfl ?_)
  refine rw_t 37 rfl rfl rfl (n_callW (X' := .tup []) (H' := [SO.ints false .i64 c.First, SO.ints false .i64 c.Head, SO.ints false .i64 c.Rev, SO.ints false .i64 c.Cap, SO.ints false .i64 c.Arc, SO.bools false c.Back, SO.ints false .i64 p.Res, SO.ints false .i64 p.Ex, SO.ints false .i64 p.H, SO.events false l, .box [.val (.int .i64 c.N), .val (.int .i64 c.S), .val (.int .i64 c.T), .slc 0 0 c.First.length none, .slc 1 0 c.Head.length none, .slc 2 0 c.Rev.length none, .slc 3 0 c.Cap.length none, .slc 4 0 c.Arc.length none, .slc 5 0 c.Back.length none], .box [.slc 6 0 p.Res.length none, .slc 7 0 p.Ex.length none, .slc 8 0 p.H.length none], .box [.val (.slice none 0 0), .val (.slice none 0 0), .val (.slice none 0 0)], SO.ints true .i64 ((doesP c r (l.getD i Event.none)).Res), SO.ints true .i64 ((doesP c r (l.getD i Event.none)).Ex), SO.ints true .i64 ((doesP c r (l.getD i Event.none)).H), .box [.val (.int .i64 c.N), .val (.int .i64 c.S), .val (.int .i64 c.T), .slc 0 0 c.First.length none, .slc 1 0 c.Head.length none, .slc 2 0 c.Rev.length none, .slc 3 0 c.Cap.length none, .slc 4 0 c.Arc.length none, .slc 5 0 c.Back.length none, .slc 13 0 r.Res.length none, .slc 14 0 r.Ex.length none, .slc 15 0 r.H.length none], .box [.val (.int .i64 ((l.getD i Event.none).who)), .val (.int .u8 ((l.getD i Event.none).what)), .val (.int .i64 ((l.getD i Event.none).u)), .val (.int .i64 ((l.getD i Event.none).arc)), .val (.int .i64 ((l.getD i Event.none).d)), .val (.int .i64 ((l.getD i Event.none).h)), .val (.int .i64 ((l.getD i Event.none).low))]]) rfl rfl (t_does (c := c) (p := r) (e := (l.getD i Event.none)) (h) (g2) (he) (hc2)) [0, 1, 2, 3, 4, 5, 13, 14, 15] ⟨.inr ⟨_, rfl, srv⟩, .inr ⟨_, rfl, srv⟩, .inr ⟨_, rfl, srv⟩, .inr ⟨_, rfl, srv⟩, .inr ⟨_, rfl, srv⟩, .inr ⟨_, rfl, srv⟩, shR rfl, shR rfl, shR rfl, trivial⟩ rfl rfl ⟨fun h => (by cases h), ⟨fun h => (by cases h), ⟨fun h => (by cases h), ⟨fun h => (by cases h), ⟨fun h => (by cases h), ⟨fun h => (by cases h), ⟨fun h => .inl rfl, ⟨fun h => .inl rfl, ⟨fun h => .inl rfl, (fun y hy => by simp at hy)⟩⟩⟩⟩⟩⟩⟩⟩⟩ rfl rfl ?_)
  refine rw_nil ?_
  refine w_region ?_
  refine rw_t 38 rfl rfl rfl (do_add rfl rfl (by omega) ?_)
  refine rw_t 19 rfl rfl rfl (do_move rfl ?_)
  refine rw_nil ?_
  refine ⟨(i + 1, doesP c r (l.getD i Event.none)), [0, 1, 2, 3, 4, 5, 6, 7, 8, 9, 10, 11, 12, 13, 14, 15, 16], by dsimp only; omega, ⟨by dsimp only; omega, e2, by dsimp only; rw [g3, hdr]; simp only [runE]; rw [if_pos hc2]⟩, ⟨shR rfl, shR rfl, shR rfl, shR rfl, shR rfl, shR rfl, shR rfl, shR rfl, shR rfl, shR rfl, shR rfl, shR rfl, shR rfl, shR rfl, shR rfl, shR rfl, .inr ⟨_, rfl, .inl (box_congr (cons_congr (rfl) (cons_congr (rfl) (cons_congr (rfl) (cons_congr (rfl) (cons_congr (rfl) (cons_congr (rfl) (cons_congr (rfl) (cons_congr (rfl) (cons_congr (rfl) (cons_congr (congrArg (fun n => SV.slc 13 0 n none) (e2.1.1.trans g2.1.1.symm)) (cons_congr (congrArg (fun n => SV.slc 14 0 n none) (e2.1.2.1.trans g2.1.2.1.symm)) (cons_congr (congrArg (fun n => SV.slc 15 0 n none) (e2.1.2.2.trans g2.1.2.2.symm)) ((rfl : ([] : List SV) = [])))))))))))))))⟩, trivial⟩, rfl, pre_ok rfl, ⟨⟨_, rfl, rfl⟩, ⟨_, rfl, rfl⟩, ⟨_, rfl, rfl⟩, ⟨_, rfl, rfl⟩, ⟨_, rfl, rfl⟩, ⟨_, rfl, rfl⟩, ⟨_, rfl, rfl⟩, trivial⟩⟩
set_option maxHeartbeats 8000000 in
set_option synthInstance.maxHeartbeats 400000 in
set_option synthInstance.maxSize 2000 in
theorem t_Move (c : Csr) (p : Pre) (h : CsrG c) (hp : rightP c p) (e : Event) (he : EvIn e) : Tri Try.prog 13 [.agg [.val (.int .i64 c.N), .val (.int .i64 c.S), .val (.int .i64 c.T), .slc 0 0 c.First.length none, .slc 1 0 c.Head.length none, .slc 2 0 c.Rev.length none, .slc 3 0 c.Cap.length none, .slc 4 0 c.Arc.length none, .slc 5 0 c.Back.length none], .agg [.slc 6 0 p.Res.length none, .slc 7 0 p.Ex.length none, .slc 8 0 p.H.length none], .agg [.val (.int .i64 e.who), .val (.int .u8 e.what), .val (.int .i64 e.u), .val (.int .i64 e.arc), .val (.int .i64 e.d), .val (.int .i64 e.h), .val (.int .i64 e.low)]] [SO.ints false .i64 c.First, SO.ints false .i64 c.Head, SO.ints false .i64 c.Rev, SO.ints false .i64 c.Cap, SO.ints false .i64 c.Arc, SO.bools false c.Back, SO.ints false .i64 p.Res, SO.ints false .i64 p.Ex, SO.ints false .i64 p.H] (fun s H => s = .tup [.agg [.slc 9 0 ((moveE c p e).1.Res.length) none, .slc 10 0 ((moveE c p e).1.Ex.length) none, .slc 11 0 ((moveE c p e).1.H.length) none], .val (.int .i64 ((moveE c p e).2))] ∧ H = [SO.ints false .i64 c.First, SO.ints false .i64 c.Head, SO.ints false .i64 c.Rev, SO.ints false .i64 c.Cap, SO.ints false .i64 c.Arc, SO.bools false c.Back, SO.ints false .i64 p.Res, SO.ints false .i64 p.Ex, SO.ints false .i64 p.H, SO.ints true .i64 ((moveE c p e).1.Res), SO.ints true .i64 ((moveE c p e).1.Ex), SO.ints true .i64 ((moveE c p e).1.H)]) := by
  refine tri_of_w (fn := Try.f13) Try.func13 rfl (by simp [Try.f13]) ?_
  intro ρ w hρ
  refine w_seq ?_
  refine w_region ?_
  refine rw_t 3 rfl rfl rfl (n_box_agg (n := 9) rfl rfl ?_)
  refine rw_t 4 rfl rfl rfl (n_box_agg (n := 10) rfl rfl ?_)
  refine rw_t 5 rfl rfl rfl (n_box_agg (n := 11) rfl rfl ?_)
  refine rw_t 6 rfl rfl rfl (n_alloc (n := 12) rfl ?_)
  refine rw_t 7 rfl rfl rfl (do_assign rfl ?_)
  refine rw_nil ?_
  refine w_seq ?_
  refine w_region ?_
  refine rw_t 12 rfl rfl rfl (n_load_boxagg [_, _, _, _, _, _, _, _, _] rfl rfl (Nat.le_of_ble_eq_true rfl) rfl ?_)
  refine rw_t 13 rfl rfl rfl (n_load_boxagg [_, _, _] rfl rfl (Nat.le_of_ble_eq_true rfl) rfl ?_)
  refine rw_t 14 rfl rfl rfl (n_load_boxagg [_, _, _, _, _, _, _] rfl rfl (Nat.le_of_ble_eq_true rfl) rfl ?_)
  refine rw_t 15 rfl rfl rfl (n_bs (nm := 13) Event encEvent Event.none [e] rfl rfl rfl rfl rfl (fun _ => rfl) (fun _ _ h => by simp [encEvent] at h; rcases h with rfl | rfl | rfl | rfl | rfl | rfl | rfl <;> rfl) rfl ?_)
  refine rw_cap 15 rfl ?_
  refine rw_t 16 rfl rfl rfl (n_callN (X' := .tup [.agg [.slc 14 0 ((runE c p [e] 0).1.Res.length) none, .slc 15 0 ((runE c p [e] 0).1.Ex.length) none, .slc 16 0 ((runE c p [e] 0).1.H.length) none], .val (.int .i64 ((runE c p [e] 0).2.1)), .val (.int .i64 ((runE c p [e] 0).2.2))]) (N' := [SO.ints true .i64 ((runE c p [e] 0).1.Res), SO.ints true .i64 ((runE c p [e] 0).1.Ex), SO.ints true .i64 ((runE c p [e] 0).1.H)]) rfl rfl (t_Run (c := c) (p := p) (l := [e]) (h) (hp) (fun x hx => by simp only [List.mem_singleton] at hx; exact hx ▸ he) (by simp)) [0, 1, 2, 3, 4, 5, 6, 7, 8, 13] ⟨.inr ⟨_, rfl, srv⟩, .inr ⟨_, rfl, srv⟩, .inr ⟨_, rfl, srv⟩, .inr ⟨_, rfl, srv⟩, .inr ⟨_, rfl, srv⟩, .inr ⟨_, rfl, srv⟩, .inr ⟨_, rfl, srv⟩, .inr ⟨_, rfl, srv⟩, .inr ⟨_, rfl, srv⟩, .inr ⟨_, rfl, srv⟩, trivial⟩ rfl rfl rfl rfl rfl ?_)
  refine rw_t 11 rfl rfl rfl (do_move rfl ?_)
  refine rw_t 17 rfl rfl rfl (do_extract rfl rfl ?_)
  refine rw_t 18 rfl rfl rfl (do_extract rfl rfl ?_)
  refine rw_t 19 rfl rfl rfl (do_extract rfl rfl ?_)
  refine rw_t 8 rfl rfl rfl (n_alloc (n := 17) rfl ?_)
  refine rw_u rfl rfl (n_store_whole rfl rfl rfl rfl rfl rfl ?_)
  refine rw_t 9 rfl rfl rfl (do_assign rfl ?_)
  refine rw_t 10 rfl rfl rfl (do_assign rfl ?_)
  refine rw_nil ?_
  refine w_seq ?_
  refine w_region ?_
  refine rw_t 20 rfl rfl rfl (n_load_boxagg [_, _, _] rfl rfl (Nat.le_of_ble_eq_true rfl) rfl ?_)
  refine rw_t 21 rfl rfl rfl (do_move rfl ?_)
  refine rw_u rfl rfl (n_store_whole rfl rfl rfl rfl rfl rfl ?_)
  refine rw_t 7 rfl rfl rfl (do_assign rfl ?_)
  refine rw_nil ?_
  have e1 := runE_one c p e
  refine w_ret ?_
  exact ret_eq (.inl rfl) (.cons (res_agg rfl rfl (Nat.le_of_ble_eq_true rfl)) (.cons (res_tmp rfl) .nil)) [0, 1, 2, 3, 4, 5, 6, 7, 8, 14, 15, 16] (by rw [← e1]; rfl) ⟨shR rfl, shR rfl, shR rfl, shR rfl, shR rfl, shR rfl, shR rfl, shR rfl, shR rfl, .inr ⟨_, rfl, .inl (congrArg (SO.ints true .i64) (by rw [← e1]))⟩, .inr ⟨_, rfl, .inl (congrArg (SO.ints true .i64) (by rw [← e1]))⟩, .inr ⟨_, rfl, .inl (congrArg (SO.ints true .i64) (by rw [← e1]))⟩, trivial⟩ rfl (pre_ok rfl)
end Go.Proofs
