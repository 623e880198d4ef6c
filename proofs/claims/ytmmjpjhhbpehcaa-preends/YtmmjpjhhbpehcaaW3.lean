/- If nobody is active what is left is of a flow, T is not reached from S, and no flow is worth more. Part 3. -/
import Derived.Test.YtmmjpjhhbpehcaaW2
set_option linter.unusedVariables false
set_option linter.unusedSimpArgs false
set_option linter.unusedVariables false
namespace Go.Proofs
open Go Go.Sx Go.RowKit
set_option maxHeartbeats 8000000 in
theorem t_Make (n : Net) (h : NetOK n) (hs : n.N ≤ 64 ∧ n.arcs.length ≤ 64) : Tri Try.prog 9 [n.sv 0] [SO.arcs false n.arcs] (fun s H => s = .tup [(makeC n).sv 1, .val (.int .i64 0)] ∧ H = [SO.arcs false n.arcs, SO.ints true .i64 (makeC n).First, SO.ints true .i64 (makeC n).Head, SO.ints true .i64 (makeC n).Rev, SO.ints true .i64 (makeC n).Cap, SO.ints true .i64 (makeC n).Arc, SO.bools true (makeC n).Back]) := by
  refine tri_of_w (fn := Try.f9) Try.func9 rfl (by simp [Try.f9]) ?_
  intro ρ w hρ
  refine w_seq ?_
  have hlo := h.lo
  refine w_region ?_
  refine rw_t 1 rfl rfl rfl (n_box_agg (n := 1) rfl  rfl ?_)
  refine rw_t 2 rfl rfl rfl (n_alloc (n := 2) rfl ?_)
  refine rw_t 3 rfl rfl rfl (do_assign rfl ?_)
  refine rw_nil ?_
  refine w_seq ?_
  refine w_region ?_
  first
    | refine rw_t 11 rfl rfl rfl (do_load_box rfl rfl rfl ?_)
    | refine rw_t 11 rfl rfl rfl (do_load_arr rfl rfl (by first | omega | (simp only [ls]; omega)) rfl ?_)
    | refine rw_t 11 rfl rfl rfl (n_load_boxagg [_, _, _, _] rfl rfl (Nat.le_of_ble_eq_true rfl) rfl ?_)
    | refine rw_t 11 rfl rfl rfl (n_load_arragg [_, _, _, _] rfl rfl rfl (by omega) rfl ?_)
  refine rw_t 12 rfl rfl rfl (do_callR (X' := .val (.int .i64 0)) rfl rfl (t_Check n h) [0] ⟨.inr ⟨_, rfl, srv⟩, trivial⟩ rfl rfl rfl ?_)
  refine rw_t 4 rfl rfl rfl (do_assign rfl ?_)
  refine rw_nil ?_
  refine w_seq ?_
  refine w_seq ?_
  refine w_region ?_
  refine rw_t 13 rfl rfl rfl (do_move rfl ?_)
  refine rw_t 14 rfl rfl rfl (do_bin rfl rfl rfl ?_)
  refine rw_nil ?_
  refine w_cond rfl (fun hc1 => ?_) (fun hc1 => ?_)
  · exfalso; first | (cases hc1; done) | (simp only [bs] at hc1; omega)
  refine w_skip ?_
  refine w_seq ?_
  refine w_region ?_
  refine rw_t 17 rfl rfl rfl (do_fieldaddr rfl ?_)
  first
    | refine rw_t 18 rfl rfl rfl (do_load_box rfl rfl rfl ?_)
    | refine rw_t 18 rfl rfl rfl (do_load_arr rfl rfl (by first | omega | (simp only [ls]; omega)) rfl ?_)
    | refine rw_t 18 rfl rfl rfl (n_load_boxagg [_] rfl rfl (Nat.le_of_ble_eq_true rfl) rfl ?_)
    | refine rw_t 18 rfl rfl rfl (n_load_arragg [_] rfl rfl rfl (by omega) rfl ?_)
  refine rw_t 19 rfl rfl rfl (do_fieldaddr rfl ?_)
  first
    | refine rw_t 20 rfl rfl rfl (do_load_box rfl rfl rfl ?_)
    | refine rw_t 20 rfl rfl rfl (do_load_arr rfl rfl (by first | omega | (simp only [ls]; omega)) rfl ?_)
    | refine rw_t 20 rfl rfl rfl (n_load_boxagg [_] rfl rfl (Nat.le_of_ble_eq_true rfl) rfl ?_)
    | refine rw_t 20 rfl rfl rfl (n_load_arragg [_] rfl rfl rfl (by omega) rfl ?_)
  refine rw_t 21 rfl rfl rfl (do_fieldaddr rfl ?_)
  first
    | refine rw_t 22 rfl rfl rfl (do_load_box rfl rfl rfl ?_)
    | refine rw_t 22 rfl rfl rfl (do_load_arr rfl rfl (by first | omega | (simp only [ls]; omega)) rfl ?_)
    | refine rw_t 22 rfl rfl rfl (n_load_boxagg [_] rfl rfl (Nat.le_of_ble_eq_true rfl) rfl ?_)
    | refine rw_t 22 rfl rfl rfl (n_load_arragg [_] rfl rfl rfl (by omega) rfl ?_)
  refine rw_t 23 rfl rfl rfl (do_build (out := [_, _, _, _, _, _, _, _, _]) rfl rfl ?_)
  refine rw_t 5 rfl rfl rfl (n_alloc (n := 3) rfl ?_)
  first
    | refine rw_u rfl rfl (n_store_box rfl rfl rfl (Nat.le_of_ble_eq_true rfl) rfl ?_)
    | refine rw_u rfl rfl (n_store_arr rfl rfl rfl (by omega) rfl (by decide) rfl ?_)
    | refine rw_u rfl rfl (n_store_whole rfl rfl rfl rfl rfl rfl ?_)
  refine rw_nil ?_
  refine w_seq ?_
  refine w_seq ?_
  refine w_region ?_
  refine rw_t 6 rfl rfl rfl (do_assign rfl ?_)
  refine rw_nil ?_
  refine w_block ?_ -- block 0
  refine n_ghost Int 1 (encI .i64) 0 (fun _ => rfl) (fun _ _ h => by simp [encI] at h; subst h; rfl) ?_
  refine n_ghost Int 1 (encI .i64) 0 (fun _ => rfl) (fun _ _ h => by simp [encI] at h; subst h; rfl) ?_
  refine n_ghost Int 1 (encI .i64) 0 (fun _ => rfl) (fun _ _ h => by simp [encI] at h; subst h; rfl) ?_
  refine n_ghost Int 1 (encI .i64) 0 (fun _ => rfl) (fun _ _ h => by simp [encI] at h; subst h; rfl) ?_
  refine n_ghost Int 1 (encI .i64) 0 (fun _ => rfl) (fun _ _ h => by simp [encI] at h; subst h; rfl) ?_
  refine n_ghost Bool 1 encB false (fun _ => rfl) (fun _ _ h => by simp [encB] at h; subst h; rfl) ?_
  refine n_nilB 3 3 4 0 rfl rfl ?_
  refine n_nilB 3 4 5 0 rfl rfl ?_
  refine n_nilB 3 5 6 0 rfl rfl ?_
  refine n_nilB 3 6 7 0 rfl rfl ?_
  refine n_nilB 3 7 8 0 rfl rfl ?_
  refine n_nilB 3 8 9 0 rfl rfl ?_
  refine w_loopS (ι := Nat × Nat) (fun i => [(1, .ptr 1 0 0), (2, .ptr 2 0 0), (5, .ptr 3 0 0), (6, .val (.int .i64 ((i.1 : Nat))))]) (fun i => [SO.arcs false n.arcs, .box [.val (.int .i64 n.N), .val (.int .i64 n.S), .val (.int .i64 n.T), .slc 0 0 n.arcs.length none], .box [.val (.int .i64 0), .val (.int .i64 0), .val (.int .i64 0), .val (.slice none 0 0), .val (.slice none 0 0), .val (.slice none 0 0), .val (.slice none 0 0), .val (.slice none 0 0), .val (.slice none 0 0)], .box [.val (.int .i64 n.N), .val (.int .i64 n.S), .val (.int .i64 n.T), .slc 4 0 (i.1) none, .slc 5 0 (i.2) none, .slc 6 0 (0) none, .slc 7 0 (i.2) none, .slc 8 0 (i.2) none, .slc 9 0 (i.2) none], SO.ints true .i64 (firstOf n i.1), SO.ints true .i64 ((rowsOf n i.1).map Row.hd), SO.ints true .i64 ([]), SO.ints true .i64 ((rowsOf n i.1).map Row.cap), SO.ints true .i64 ((rowsOf n i.1).map Row.arc), SO.bools true ((rowsOf n i.1).map Row.back)]) (fun i => n.N.toNat - i.1) (fun i => i.1 ≤ n.N.toNat ∧ i.2 = (rowsOf n i.1).length) (0, 0) [0, 1, 2, 3, 4, 5, 6, 7, 8, 9] (⟨by simp, rfl⟩) ⟨shR rfl, shR rfl, shR rfl, shR rfl, shR rfl, shR rfl, shR rfl, shR rfl, shR rfl, shR rfl, trivial⟩ rfl (pre_ok rfl) hρ ⟨⟨_, rfl, rfl⟩, ⟨_, rfl, rfl⟩, ⟨_, rfl, rfl⟩, ⟨_, rfl, rfl⟩, trivial⟩ ?_
  rintro ⟨v, L⟩ ⟨hv, hL⟩
  dsimp only at hv hL ⊢
  have hb := rowsOf_len n v
  have hb2 : v * (2 * n.arcs.length) ≤ 64 * (2 * 64) := Nat.mul_le_mul (by omega) (by omega)
  refine w_seq ?_
  refine w_seq ?_
  refine w_region ?_
  refine rw_t 24 rfl rfl rfl (do_move rfl ?_)
  refine rw_t 25 rfl rfl rfl (do_fieldaddr rfl ?_)
  first
    | refine rw_t 26 rfl rfl rfl (do_load_box rfl rfl rfl ?_)
    | refine rw_t 26 rfl rfl rfl (do_load_arr rfl rfl (by first | omega | (simp only [ls]; omega)) rfl ?_)
    | refine rw_t 26 rfl rfl rfl (n_load_boxagg [_] rfl rfl (Nat.le_of_ble_eq_true rfl) rfl ?_)
    | refine rw_t 26 rfl rfl rfl (n_load_arragg [_] rfl rfl rfl (by omega) rfl ?_)
  refine rw_t 27 rfl rfl rfl (do_bin rfl rfl rfl ?_)
  refine rw_nil ?_
  refine w_cond rfl (fun hc2 => ?_) (fun hc2 => ?_)
  all_goals simp only [bs] at hc2
  rotate_left
  · refine w_exit ?_
    refine w_seq ?_
    refine w_region ?_
    refine rw_t 111 rfl rfl rfl (do_fieldaddr rfl ?_)
    first
      | refine rw_t 112 rfl rfl rfl (do_load_box rfl rfl rfl ?_)
      | refine rw_t 112 rfl rfl rfl (do_load_arr rfl rfl (by first | omega | (simp only [ls]; omega)) rfl ?_)
      | refine rw_t 112 rfl rfl rfl (n_load_boxagg [_] rfl rfl (Nat.le_of_ble_eq_true rfl) rfl ?_)
      | refine rw_t 112 rfl rfl rfl (n_load_arragg [_] rfl rfl rfl (by omega) rfl ?_)
    refine rw_t 113 rfl rfl rfl (do_fieldaddr rfl ?_)
    first
      | refine rw_t 114 rfl rfl rfl (do_load_box rfl rfl rfl ?_)
      | refine rw_t 114 rfl rfl rfl (do_load_arr rfl rfl (by first | omega | (simp only [ls]; omega)) rfl ?_)
      | refine rw_t 114 rfl rfl rfl (n_load_boxagg [_] rfl rfl (Nat.le_of_ble_eq_true rfl) rfl ?_)
      | refine rw_t 114 rfl rfl rfl (n_load_arragg [_] rfl rfl rfl (by omega) rfl ?_)
    refine rw_t 115 rfl rfl rfl (do_len rfl ?_)
    refine rw_t 116 rfl rfl rfl (n_bs (nm := 10) Int (encI .i64) 0 [(L : Int)] rfl rfl rfl rfl rfl (fun _ => rfl) (fun _ _ h => by simp [encI] at h; subst h; rfl) rfl ?_)
    refine rw_t 117 rfl rfl rfl (n_append_own (nm := 11) rfl rfl rfl rfl rfl (by first | omega | (simp only [List.length_map, firstOf_len]; omega)) (by simp) (by omega) (by omega) rfl ?_)
    refine rw_t 118 rfl rfl rfl (do_fieldaddr rfl ?_)
    first
      | refine rw_u rfl rfl (n_store_box rfl rfl rfl (Nat.le_of_ble_eq_true rfl) rfl ?_)
      | refine rw_u rfl rfl (n_store_arr rfl rfl rfl (by omega) rfl (by decide) rfl ?_)
      | refine rw_u rfl rfl (n_store_whole rfl rfl rfl rfl rfl rfl ?_)
    refine rw_nil ?_
    refine w_seq ?_
    refine w_seq ?_
    refine w_region ?_
    refine rw_t 9 rfl rfl rfl (do_assign rfl ?_)
    refine rw_nil ?_
    refine w_block ?_ -- block 4
    have hv' : v = n.N.toNat := by omega
    subst hv'
    subst hL
    have hA : (rows n).length ≤ 8192 := by show (rowsOf n n.N.toNat).length ≤ 8192; omega
    refine w_loopS (ι := Nat × Nat) (fun q => [(1, .ptr 1 0 0), (2, .ptr 2 0 0), (5, .ptr 3 0 0), (9, .val (.int .i64 ((q.1 : Nat))))]) (fun q => [SO.arcs false n.arcs, .box [.val (.int .i64 n.N), .val (.int .i64 n.S), .val (.int .i64 n.T), .slc 0 0 n.arcs.length none], .box [.val (.int .i64 0), .val (.int .i64 0), .val (.int .i64 0), .val (.slice none 0 0), .val (.slice none 0 0), .val (.slice none 0 0), .val (.slice none 0 0), .val (.slice none 0 0), .val (.slice none 0 0)], .box [.val (.int .i64 n.N), .val (.int .i64 n.S), .val (.int .i64 n.T), .slc 4 0 (n.N.toNat + 1) none, .slc 5 0 ((rows n).length) none, .slc 6 0 (q.2) none, .slc 7 0 ((rows n).length) none, .slc 8 0 ((rows n).length) none, .slc 9 0 ((rows n).length) none], SO.ints true .i64 (firstOf n n.N.toNat ++ [((rows n).length : Int)]), SO.ints true .i64 ((rows n).map Row.hd), SO.ints true .i64 (revOf (rows n) q.1), SO.ints true .i64 ((rows n).map Row.cap), SO.ints true .i64 ((rows n).map Row.arc), SO.bools true ((rows n).map Row.back)]) (fun q => (rows n).length - q.1) (fun q => q.1 ≤ (rows n).length ∧ q.2 = (revOf (rows n) q.1).length) (0, 0) [0, 1, 2, 3, 11, 5, 6, 7, 8, 9] (⟨by simp, rfl⟩) ⟨shR rfl, shR rfl, shR rfl, shR rfl, .inr ⟨_, rfl, .inl (congrArg (SO.ints true .i64) (list_app _ (firstOf_len n _).symm))⟩, shR rfl, shR rfl, shR rfl, shR rfl, shR rfl, trivial⟩ rfl (pre_ok rfl) hρ ⟨⟨_, rfl, rfl⟩, ⟨_, rfl, rfl⟩, ⟨_, rfl, rfl⟩, ⟨_, rfl, rfl⟩, trivial⟩ ?_
    rintro ⟨i, RL⟩ ⟨hi, hRL⟩
    dsimp only at hi hRL ⊢
    have hr1 := revOf_len (rows n) i
    have hr2 : i * (rows n).length ≤ 8192 * 8192 := Nat.mul_le_mul (by omega) (by omega)
    refine w_seq ?_
    refine w_seq ?_
    refine w_region ?_
    refine rw_t 119 rfl rfl rfl (do_move rfl ?_)
    refine rw_t 120 rfl rfl rfl (do_fieldaddr rfl ?_)
    first
      | refine rw_t 121 rfl rfl rfl (do_load_box rfl rfl rfl ?_)
      | refine rw_t 121 rfl rfl rfl (do_load_arr rfl rfl (by first | omega | (simp only [ls]; omega)) rfl ?_)
      | refine rw_t 121 rfl rfl rfl (n_load_boxagg [_] rfl rfl (Nat.le_of_ble_eq_true rfl) rfl ?_)
      | refine rw_t 121 rfl rfl rfl (n_load_arragg [_] rfl rfl rfl (by omega) rfl ?_)
    refine rw_t 122 rfl rfl rfl (do_len rfl ?_)
    refine rw_t 123 rfl rfl rfl (do_bin rfl rfl rfl ?_)
    refine rw_nil ?_
    refine w_cond rfl (fun hc3 => ?_) (fun hc3 => ?_)
    all_goals simp only [bs] at hc3
    rotate_left
    · refine w_exit ?_
      refine w_seq ?_
      refine w_region ?_
      first
        | refine rw_t 155 rfl rfl rfl (do_load_box rfl rfl rfl ?_)
        | refine rw_t 155 rfl rfl rfl (do_load_arr rfl rfl (by first | omega | (simp only [ls]; omega)) rfl ?_)
        | refine rw_t 155 rfl rfl rfl (n_load_boxagg [_, _, _, _, _, _, _, _, _] rfl rfl (Nat.le_of_ble_eq_true rfl) rfl ?_)
        | refine rw_t 155 rfl rfl rfl (n_load_arragg [_, _, _, _, _, _, _, _, _] rfl rfl rfl (by omega) rfl ?_)
      first
        | refine rw_u rfl rfl (n_store_box rfl rfl rfl (Nat.le_of_ble_eq_true rfl) rfl ?_)
        | refine rw_u rfl rfl (n_store_arr rfl rfl rfl (by omega) rfl (by decide) rfl ?_)
        | refine rw_u rfl rfl (n_store_whole rfl rfl rfl rfl rfl rfl ?_)
      refine rw_t 3 rfl rfl rfl (do_assign rfl ?_)
      refine rw_nil ?_
      refine w_ret ?_
      have hi' : i = (rows n).length := by omega
      subst hi'
      have e1 : (makeC n).First.length = n.N.toNat + 1 := by simp [makeC, firstOf_len]
      have e2 : (makeC n).Head.length = (rows n).length := by simp [makeC]
      have e3 : (makeC n).Rev.length = RL := hRL.symm
      have e4 : (makeC n).Cap.length = (rows n).length := by simp [makeC]
      have e5 : (makeC n).Arc.length = (rows n).length := by simp [makeC]
      have e6 : (makeC n).Back.length = (rows n).length := by simp [makeC]
      exact ret_eq (.inl rfl) (.cons (res_agg rfl rfl (Nat.le_of_ble_eq_true rfl)) (.cons (res_tmp rfl) .nil)) [0, 4, 5, 6, 7, 8, 9] (by show SV.tup [SV.agg [.val (.int .i64 n.N), .val (.int .i64 n.S), .val (.int .i64 n.T), .slc 4 0 (n.N.toNat + 1) none, .slc 5 0 (rows n).length none, .slc 6 0 RL none, .slc 7 0 (rows n).length none, .slc 8 0 (rows n).length none, .slc 9 0 (rows n).length none], .val (.int .i64 0)] = SV.tup [SV.agg [.val (.int .i64 n.N), .val (.int .i64 n.S), .val (.int .i64 n.T), .slc 4 0 (makeC n).First.length none, .slc 5 0 (makeC n).Head.length none, .slc 6 0 (makeC n).Rev.length none, .slc 7 0 (makeC n).Cap.length none, .slc 8 0 (makeC n).Arc.length none, .slc 9 0 (makeC n).Back.length none], .val (.int .i64 0)]; rw [e1, e2, e3, e4, e5, e6]) ⟨shR rfl, shR rfl, shR rfl, shR rfl, shR rfl, shR rfl, shR rfl, trivial⟩ rfl (pre_ok rfl)
    refine w_skip ?_
    refine w_seq ?_
    refine w_block ?_ -- block 5
    refine w_seq ?_
    refine w_region ?_
    refine rw_t 10 rfl rfl rfl (do_assign rfl ?_)
    refine rw_nil ?_
    refine w_block ?_ -- block 6
    refine w_loopS (ι := Nat × Nat) (fun q => [(1, .ptr 1 0 0), (2, .ptr 2 0 0), (5, .ptr 3 0 0), (9, .val (.int .i64 ((i : Nat)))), (10, .val (.int .i64 ((q.1 : Nat))))]) (fun q => [SO.arcs false n.arcs, .box [.val (.int .i64 n.N), .val (.int .i64 n.S), .val (.int .i64 n.T), .slc 0 0 n.arcs.length none], .box [.val (.int .i64 0), .val (.int .i64 0), .val (.int .i64 0), .val (.slice none 0 0), .val (.slice none 0 0), .val (.slice none 0 0), .val (.slice none 0 0), .val (.slice none 0 0), .val (.slice none 0 0)], .box [.val (.int .i64 n.N), .val (.int .i64 n.S), .val (.int .i64 n.T), .slc 4 0 (n.N.toNat + 1) none, .slc 5 0 ((rows n).length) none, .slc 6 0 (q.2) none, .slc 7 0 ((rows n).length) none, .slc 8 0 ((rows n).length) none, .slc 9 0 ((rows n).length) none], SO.ints true .i64 (firstOf n n.N.toNat ++ [((rows n).length : Int)]), SO.ints true .i64 ((rows n).map Row.hd), SO.ints true .i64 (revOf (rows n) i ++ revAt (rows n) i q.1), SO.ints true .i64 ((rows n).map Row.cap), SO.ints true .i64 ((rows n).map Row.arc), SO.bools true ((rows n).map Row.back)]) (fun q => (rows n).length - q.1) (fun q => q.1 ≤ (rows n).length ∧ q.2 = (revOf (rows n) i ++ revAt (rows n) i q.1).length) (0, RL) [0, 1, 2, 3, 4, 5, 6, 7, 8, 9] (⟨by simp, by dsimp only; rw [hRL]; simp [revAt]⟩) ⟨shR rfl, shR rfl, shR rfl, shR rfl, shR rfl, shR rfl, .inr ⟨_, rfl, .inl (congrArg (SO.ints true .i64) (List.append_nil (revOf (rows n) i)))⟩, shR rfl, shR rfl, shR rfl, trivial⟩ rfl (pre_ok rfl) hρ ⟨⟨_, rfl, rfl⟩, ⟨_, rfl, rfl⟩, ⟨_, rfl, rfl⟩, ⟨_, rfl, rfl⟩, ⟨_, rfl, rfl⟩, trivial⟩ ?_
    rintro ⟨j, RL2⟩ ⟨hj, hRL2⟩
    dsimp only at hj hRL2 ⊢
    have hr3 := revAt_len (rows n) i j
    have hr4 : RL2 ≤ 8192 * 8192 + 8192 := by rw [hRL2, List.length_append]; omega
    refine w_seq ?_
    refine w_seq ?_
    refine w_region ?_
    refine rw_t 126 rfl rfl rfl (do_move rfl ?_)
    refine rw_t 127 rfl rfl rfl (do_fieldaddr rfl ?_)
    first
      | refine rw_t 128 rfl rfl rfl (do_load_box rfl rfl rfl ?_)
      | refine rw_t 128 rfl rfl rfl (do_load_arr rfl rfl (by first | omega | (simp only [ls]; omega)) rfl ?_)
      | refine rw_t 128 rfl rfl rfl (n_load_boxagg [_] rfl rfl (Nat.le_of_ble_eq_true rfl) rfl ?_)
      | refine rw_t 128 rfl rfl rfl (n_load_arragg [_] rfl rfl rfl (by omega) rfl ?_)
    refine rw_t 129 rfl rfl rfl (do_len rfl ?_)
    refine rw_t 130 rfl rfl rfl (do_bin rfl rfl rfl ?_)
    refine rw_nil ?_
    refine w_cond rfl (fun hc4 => ?_) (fun hc4 => ?_)
    all_goals simp only [bs] at hc4
    rotate_left
    · refine w_exit ?_
      refine w_region ?_
      refine rw_t 124 rfl rfl rfl (do_move rfl ?_)
      refine rw_t 125 rfl rfl rfl (do_add rfl rfl (by omega) ?_)
      refine rw_t 9 rfl rfl rfl (do_assign rfl ?_)
      refine rw_nil ?_
      have hj' : j = (rows n).length := by omega
      subst hj'
      refine ⟨(i + 1, RL2), [0, 1, 2, 3, 4, 5, 6, 7, 8, 9], by dsimp only; omega, ⟨by dsimp only; omega, by dsimp only; rw [revOf_next]; exact hRL2⟩, ⟨shR rfl, shR rfl, shR rfl, shR rfl, shR rfl, shR rfl, .inr ⟨_, rfl, .inl (congrArg (SO.ints true .i64) (revOf_next (rows n) i))⟩, shR rfl, shR rfl, shR rfl, trivial⟩, rfl, pre_ok rfl, ⟨⟨_, rfl, rfl⟩, ⟨_, rfl, rfl⟩, ⟨_, rfl, rfl⟩, ⟨_, rfl, rfl⟩, trivial⟩⟩
    refine w_skip ?_
    refine w_seq ?_
    refine w_block ?_ -- block 7
    refine w_seqB 148 (((rows n).map Row.arc).getD i 0 = ((rows n).map Row.arc).getD j 0 ∧ (i : Int) ≠ (j : Int)) ?_ ?_
    · -- region 31
      refine w_draw mixed [0, 1, 0, 7, 15, 0, 32, 0, 224, 480, 1023, 2047, 4095, 4095] [16383, 32767] (by kernel_rfl) (by kernel_rfl) rfl rfl rfl (hle hρ rfl) ?_
      refine ra_q (j := 0) rfl rfl rfl rfl (do_fieldaddr rfl ⟨rfl, rfl⟩) (by rfl) ?_
      first
        | refine ra_q (j := 1) rfl rfl rfl rfl (do_load_box rfl rfl rfl ⟨rfl, rfl⟩) (by rfl) ?_
        | refine ra_q (j := 1) rfl rfl rfl rfl (do_load_arr rfl rfl (by first | omega | (simp only [ls]; omega)) rfl ⟨rfl, rfl⟩) (by rfl) ?_
        | refine ra_q (j := 1) rfl rfl rfl rfl (n_load_boxagg [_] rfl rfl (Nat.le_of_ble_eq_true rfl) rfl ⟨rfl, rfl⟩) (by rfl) ?_
        | refine ra_q (j := 1) rfl rfl rfl rfl (n_load_arragg [_] rfl rfl rfl (by omega) rfl ⟨rfl, rfl⟩) (by rfl) ?_
      refine ra_q (j := 2) rfl rfl rfl rfl (do_move rfl ⟨rfl, rfl⟩) (by rfl) ?_
      first
        | refine ra_q (j := 3) rfl rfl rfl rfl (do_ixn rfl rfl rfl (by omega) ⟨rfl, rfl⟩) (by rfl) ?_
        | refine ra_q (j := 3) rfl rfl rfl rfl (do_ix0 rfl rfl rfl (by omega) ⟨rfl, rfl⟩) (by rfl) ?_
        | refine ra_q (j := 3) rfl rfl rfl rfl (do_ix rfl rfl rfl (by omega) ⟨rfl, rfl⟩) (by rfl) ?_
      first
        | refine ra_q (j := 4) rfl rfl rfl rfl (do_load_box rfl rfl rfl ⟨rfl, rfl⟩) (by rfl) ?_
        | refine ra_q (j := 4) rfl rfl rfl rfl (do_load_arr rfl rfl (by first | omega | (simp only [ls]; omega)) rfl ⟨rfl, rfl⟩) (by rfl) ?_
        | refine ra_q (j := 4) rfl rfl rfl rfl (n_load_boxagg [_] rfl rfl (Nat.le_of_ble_eq_true rfl) rfl ⟨rfl, rfl⟩) (by rfl) ?_
        | refine ra_q (j := 4) rfl rfl rfl rfl (n_load_arragg [_] rfl rfl rfl (by omega) rfl ⟨rfl, rfl⟩) (by rfl) ?_
      refine ra_q (j := 5) rfl rfl rfl rfl (do_fieldaddr rfl ⟨rfl, rfl⟩) (by rfl) ?_
      first
        | refine ra_q (j := 6) rfl rfl rfl rfl (do_load_box rfl rfl rfl ⟨rfl, rfl⟩) (by rfl) ?_
        | refine ra_q (j := 6) rfl rfl rfl rfl (do_load_arr rfl rfl (by first | omega | (simp only [ls]; omega)) rfl ⟨rfl, rfl⟩) (by rfl) ?_
        | refine ra_q (j := 6) rfl rfl rfl rfl (n_load_boxagg [_] rfl rfl (Nat.le_of_ble_eq_true rfl) rfl ⟨rfl, rfl⟩) (by rfl) ?_
        | refine ra_q (j := 6) rfl rfl rfl rfl (n_load_arragg [_] rfl rfl rfl (by omega) rfl ⟨rfl, rfl⟩) (by rfl) ?_
      refine ra_q (j := 7) rfl rfl rfl rfl (do_move rfl ⟨rfl, rfl⟩) (by rfl) ?_
      first
        | refine ra_q (j := 8) rfl rfl rfl rfl (do_ixn rfl rfl rfl (by omega) ⟨rfl, rfl⟩) (by rfl) ?_
        | refine ra_q (j := 8) rfl rfl rfl rfl (do_ix0 rfl rfl rfl (by omega) ⟨rfl, rfl⟩) (by rfl) ?_
        | refine ra_q (j := 8) rfl rfl rfl rfl (do_ix rfl rfl rfl (by omega) ⟨rfl, rfl⟩) (by rfl) ?_
      first
        | refine ra_q (j := 9) rfl rfl rfl rfl (do_load_box rfl rfl rfl ⟨rfl, rfl⟩) (by rfl) ?_
        | refine ra_q (j := 9) rfl rfl rfl rfl (do_load_arr rfl rfl (by first | omega | (simp only [ls]; omega)) rfl ⟨rfl, rfl⟩) (by rfl) ?_
        | refine ra_q (j := 9) rfl rfl rfl rfl (n_load_boxagg [_] rfl rfl (Nat.le_of_ble_eq_true rfl) rfl ⟨rfl, rfl⟩) (by rfl) ?_
        | refine ra_q (j := 9) rfl rfl rfl rfl (n_load_arragg [_] rfl rfl rfl (by omega) rfl ⟨rfl, rfl⟩) (by rfl) ?_
      refine ra_q (j := 10) rfl rfl rfl rfl (do_bin rfl rfl rfl ⟨rfl, rfl⟩) (by rfl) ?_
      refine ra_q (j := 11) rfl rfl rfl rfl (do_move rfl ⟨rfl, rfl⟩) (by rfl) ?_
      refine ra_case 144 rfl (fun g1 => ?_) (fun g1 => ?_)
      · have kg1 := g1
        simp only [bs] at kg1
        refine ra_gt (j := 12) rfl rfl rfl rfl (by first | rfl | assumption | (simp only [bs]; omega) | (simp [*]; done)) rfl rfl rfl (do_move rfl ⟨rfl, rfl⟩) (by rfl) ?_
        refine ra_gt (j := 13) rfl rfl rfl rfl (by first | rfl | assumption | (simp only [bs]; omega) | (simp [*]; done)) rfl rfl rfl (do_move rfl ⟨rfl, rfl⟩) (by rfl) ?_
        refine n_done ?_
        refine rw_gt 147 11 144 true rfl rfl rfl rfl rfl rfl (by first | rfl | assumption | (simp only [bs]; omega) | (simp [*]; done)) (do_bin rfl rfl rfl ?_)
        refine rw_t 148 rfl rfl rfl (do_pick_t rfl (by first | rfl | assumption | (simp only [bs]; omega) | (simp [*]; done)) rfl ?_)
        refine rw_nil ?_
        refine ⟨rfl, ⟨_, rfl, by first | (simp only [bs]; omega) | (simp; done) | (simp; omega) | (constructor <;> intro h <;> simp_all <;> omega)⟩, ?_⟩
        repeat (refine ⟨⟨_, rfl, rfl⟩, ?_⟩)
        exact trivial
      · have kg1 := g1
        simp only [bs] at kg1
        refine ra_gf (j := 12) rfl rfl rfl rfl (by first | decide | (simp only [bs]; omega) | (simp [*]; done) | (intro h; simp_all)) rfl rfl rfl ?_
        refine ra_gf (j := 13) rfl rfl rfl rfl (by first | decide | (simp only [bs]; omega) | (simp [*]; done) | (intro h; simp_all)) rfl rfl rfl ?_
        refine n_done ?_
        refine rw_gf 147 11 144 true rfl rfl rfl rfl rfl rfl (by first | decide | (simp only [bs]; omega) | (simp [*]; done) | (intro h; simp_all)) ?_
        refine rw_t 148 rfl rfl rfl (do_pick_f rfl (by first | rfl | assumption | (simp only [bs]; omega) | (simp [*]; done)) rfl ?_)
        refine rw_nil ?_
        refine ⟨rfl, ⟨_, rfl, by first | (simp only [bs]; omega) | (simp; done) | (simp; omega) | (constructor <;> intro h <;> simp_all <;> omega)⟩, ?_⟩
        repeat (refine ⟨⟨_, rfl, rfl⟩, ?_⟩)
        exact trivial
    intro b1 hb1
    refine w_condP hb1 rfl (fun hc5 => ?_) (fun hc5 => ?_)
    · -- region 32
      refine w_region ?_
      refine rw_t 149 rfl rfl rfl (do_fieldaddr rfl ?_)
      first
        | refine rw_t 150 rfl rfl rfl (do_load_box rfl rfl rfl ?_)
        | refine rw_t 150 rfl rfl rfl (do_load_arr rfl rfl (by first | omega | (simp only [ls]; omega)) rfl ?_)
        | refine rw_t 150 rfl rfl rfl (n_load_boxagg [_] rfl rfl (Nat.le_of_ble_eq_true rfl) rfl ?_)
        | refine rw_t 150 rfl rfl rfl (n_load_arragg [_] rfl rfl rfl (by omega) rfl ?_)
      refine rw_t 151 rfl rfl rfl (do_move rfl ?_)
      refine rw_t 152 rfl rfl rfl (n_bs (nm := 10) Int (encI .i64) 0 [(j : Int)] rfl rfl rfl rfl rfl (fun _ => rfl) (fun _ _ h => by simp [encI] at h; subst h; rfl) rfl ?_)
      refine rw_t 153 rfl rfl rfl (n_append_own (nm := 11) rfl rfl rfl rfl rfl (by first | omega | (simp only [List.length_map, firstOf_len]; omega)) (by simp) (by omega) (by omega) rfl ?_)
      refine rw_t 154 rfl rfl rfl (do_fieldaddr rfl ?_)
      first
        | refine rw_u rfl rfl (n_store_box rfl rfl rfl (Nat.le_of_ble_eq_true rfl) rfl ?_)
        | refine rw_u rfl rfl (n_store_arr rfl rfl rfl (by omega) rfl (by decide) rfl ?_)
        | refine rw_u rfl rfl (n_store_whole rfl rfl rfl rfl rfl rfl ?_)
      refine rw_nil ?_
      refine w_region ?_
      refine rw_t 131 rfl rfl rfl (do_move rfl ?_)
      refine rw_t 132 rfl rfl rfl (do_add rfl rfl (by omega) ?_)
      refine rw_t 10 rfl rfl rfl (do_assign rfl ?_)
      refine rw_nil ?_
      rw [getD_arc, getD_arc] at hc5
      have PF : revOf (rows n) i ++ revAt (rows n) i (j + 1) = (revOf (rows n) i ++ revAt (rows n) i j) ++ [(j : Int)] := by rw [revAt_next, if_pos ⟨hc5.1, fun e => hc5.2 (by rw [e])⟩, List.append_assoc]
      refine ⟨(j + 1, RL2 + 1), [0, 1, 2, 3, 4, 5, 11, 7, 8, 9], by dsimp only; omega, ⟨by dsimp only; omega, by dsimp only; rw [PF, hRL2]; exact (len_snoc _ _).symm⟩, ⟨shR rfl, shR rfl, shR rfl, shR rfl, shR rfl, shR rfl, .inr ⟨_, rfl, .inl (congrArg (SO.ints true .i64) (PF.trans (list_app (j : Int) hRL2)))⟩, shR rfl, shR rfl, shR rfl, trivial⟩, rfl, pre_ok rfl, ⟨⟨_, rfl, rfl⟩, ⟨_, rfl, rfl⟩, ⟨_, rfl, rfl⟩, ⟨_, rfl, rfl⟩, ⟨_, rfl, rfl⟩, trivial⟩⟩
    · refine w_skip ?_
      refine w_region ?_
      refine rw_t 131 rfl rfl rfl (do_move rfl ?_)
      refine rw_t 132 rfl rfl rfl (do_add rfl rfl (by omega) ?_)
      refine rw_t 10 rfl rfl rfl (do_assign rfl ?_)
      refine rw_nil ?_
      rw [getD_arc, getD_arc] at hc5
      have PF : revOf (rows n) i ++ revAt (rows n) i (j + 1) = revOf (rows n) i ++ revAt (rows n) i j := by rw [revAt_next, if_neg (fun e => hc5 ⟨e.1, fun e2 => e.2 (by omega)⟩), List.append_nil]
      refine ⟨(j + 1, RL2), [0, 1, 2, 3, 4, 5, 6, 7, 8, 9], by dsimp only; omega, ⟨by dsimp only; omega, by dsimp only; rw [PF]; exact hRL2⟩, ⟨shR rfl, shR rfl, shR rfl, shR rfl, shR rfl, shR rfl, .inr ⟨_, rfl, .inl (congrArg (SO.ints true .i64) PF)⟩, shR rfl, shR rfl, shR rfl, trivial⟩, rfl, pre_ok rfl, ⟨⟨_, rfl, rfl⟩, ⟨_, rfl, rfl⟩, ⟨_, rfl, rfl⟩, ⟨_, rfl, rfl⟩, ⟨_, rfl, rfl⟩, trivial⟩⟩
  refine w_skip ?_
  refine w_seq ?_
  refine w_block ?_ -- block 1
  refine w_seq ?_
  refine w_region ?_
  refine rw_t 30 rfl rfl rfl (do_fieldaddr rfl ?_)
  first
    | refine rw_t 31 rfl rfl rfl (do_load_box rfl rfl rfl ?_)
    | refine rw_t 31 rfl rfl rfl (do_load_arr rfl rfl (by first | omega | (simp only [ls]; omega)) rfl ?_)
    | refine rw_t 31 rfl rfl rfl (n_load_boxagg [_] rfl rfl (Nat.le_of_ble_eq_true rfl) rfl ?_)
    | refine rw_t 31 rfl rfl rfl (n_load_arragg [_] rfl rfl rfl (by omega) rfl ?_)
  refine rw_t 32 rfl rfl rfl (do_fieldaddr rfl ?_)
  first
    | refine rw_t 33 rfl rfl rfl (do_load_box rfl rfl rfl ?_)
    | refine rw_t 33 rfl rfl rfl (do_load_arr rfl rfl (by first | omega | (simp only [ls]; omega)) rfl ?_)
    | refine rw_t 33 rfl rfl rfl (n_load_boxagg [_] rfl rfl (Nat.le_of_ble_eq_true rfl) rfl ?_)
    | refine rw_t 33 rfl rfl rfl (n_load_arragg [_] rfl rfl rfl (by omega) rfl ?_)
  refine rw_t 34 rfl rfl rfl (do_len rfl ?_)
  refine rw_t 35 rfl rfl rfl (n_bs (nm := 10) Int (encI .i64) 0 [(L : Int)] rfl rfl rfl rfl rfl (fun _ => rfl) (fun _ _ h => by simp [encI] at h; subst h; rfl) rfl ?_)
  refine rw_t 36 rfl rfl rfl (n_append_own (nm := 11) rfl rfl rfl rfl rfl (by first | omega | (simp only [List.length_map, firstOf_len]; omega)) (by simp) (by omega) (by omega) rfl ?_)
  refine rw_t 37 rfl rfl rfl (do_fieldaddr rfl ?_)
  first
    | refine rw_u rfl rfl (n_store_box rfl rfl rfl (Nat.le_of_ble_eq_true rfl) rfl ?_)
    | refine rw_u rfl rfl (n_store_arr rfl rfl rfl (by omega) rfl (by decide) rfl ?_)
    | refine rw_u rfl rfl (n_store_whole rfl rfl rfl rfl rfl rfl ?_)
  refine rw_nil ?_
  refine w_seq ?_
  refine w_region ?_
  refine rw_t 7 rfl rfl rfl (do_assign rfl ?_)
  refine rw_nil ?_
  refine w_block ?_ -- block 2
  refine w_loopS (ι := Nat × Nat) (fun q => [(1, .ptr 1 0 0), (2, .ptr 2 0 0), (5, .ptr 3 0 0), (6, .val (.int .i64 ((v : Nat)))), (7, .val (.int .i64 ((q.1 : Nat))))]) (fun q => [SO.arcs false n.arcs, .box [.val (.int .i64 n.N), .val (.int .i64 n.S), .val (.int .i64 n.T), .slc 0 0 n.arcs.length none], .box [.val (.int .i64 0), .val (.int .i64 0), .val (.int .i64 0), .val (.slice none 0 0), .val (.slice none 0 0), .val (.slice none 0 0), .val (.slice none 0 0), .val (.slice none 0 0), .val (.slice none 0 0)], .box [.val (.int .i64 n.N), .val (.int .i64 n.S), .val (.int .i64 n.T), .slc 4 0 (v + 1) none, .slc 5 0 (q.2) none, .slc 6 0 (0) none, .slc 7 0 (q.2) none, .slc 8 0 (q.2) none, .slc 9 0 (q.2) none], SO.ints true .i64 (firstOf n (v + 1)), SO.ints true .i64 ((rowsOf n v ++ rowsAt n v q.1).map Row.hd), SO.ints true .i64 ([]), SO.ints true .i64 ((rowsOf n v ++ rowsAt n v q.1).map Row.cap), SO.ints true .i64 ((rowsOf n v ++ rowsAt n v q.1).map Row.arc), SO.bools true ((rowsOf n v ++ rowsAt n v q.1).map Row.back)]) (fun q => n.arcs.length - q.1) (fun q => q.1 ≤ n.arcs.length ∧ q.2 = (rowsOf n v ++ rowsAt n v q.1).length) (0, L) [0, 1, 2, 3, 11, 5, 6, 7, 8, 9] (⟨by simp, by dsimp only; rw [hL]; simp [rowsAt]⟩) ⟨shR rfl, shR rfl, shR rfl, shR rfl, .inr ⟨_, rfl, .inl (congrArg (SO.ints true .i64) ((firstOf_next n v).trans (by rw [← hL]; exact list_app (L : Int) (firstOf_len n v).symm)))⟩, .inr ⟨_, rfl, .inl (congrArg (fun R => SO.ints true .i64 (List.map Row.hd R)) (List.append_nil (rowsOf n v)))⟩, shR rfl, .inr ⟨_, rfl, .inl (congrArg (fun R => SO.ints true .i64 (List.map Row.cap R)) (List.append_nil (rowsOf n v)))⟩, .inr ⟨_, rfl, .inl (congrArg (fun R => SO.ints true .i64 (List.map Row.arc R)) (List.append_nil (rowsOf n v)))⟩, .inr ⟨_, rfl, .inl (congrArg (fun R => SO.bools true (List.map Row.back R)) (List.append_nil (rowsOf n v)))⟩, trivial⟩ rfl (pre_ok rfl) hρ ⟨⟨_, rfl, rfl⟩, ⟨_, rfl, rfl⟩, ⟨_, rfl, rfl⟩, ⟨_, rfl, rfl⟩, ⟨_, rfl, rfl⟩, trivial⟩ ?_
  rintro ⟨k, L⟩ ⟨hk, hL⟩
  dsimp only at hk hL ⊢
  have hb3 := rowsAt_len n v k
  have hb4 : L ≤ 64 * (2 * 64) + 2 * 64 := by rw [hL, List.length_append]; omega
  refine w_seq ?_
  refine w_seq ?_
  refine w_region ?_
  refine rw_t 38 rfl rfl rfl (do_move rfl ?_)
  refine rw_t 39 rfl rfl rfl (do_fieldaddr rfl ?_)
  first
    | refine rw_t 40 rfl rfl rfl (do_load_box rfl rfl rfl ?_)
    | refine rw_t 40 rfl rfl rfl (do_load_arr rfl rfl (by first | omega | (simp only [ls]; omega)) rfl ?_)
    | refine rw_t 40 rfl rfl rfl (n_load_boxagg [_] rfl rfl (Nat.le_of_ble_eq_true rfl) rfl ?_)
    | refine rw_t 40 rfl rfl rfl (n_load_arragg [_] rfl rfl rfl (by omega) rfl ?_)
  refine rw_t 41 rfl rfl rfl (do_len rfl ?_)
  refine rw_t 42 rfl rfl rfl (do_bin rfl rfl rfl ?_)
  refine rw_nil ?_
  refine w_cond rfl (fun hc6 => ?_) (fun hc6 => ?_)
  all_goals simp only [bs] at hc6
  rotate_left
  · refine w_exit ?_
    refine w_region ?_
    refine rw_t 28 rfl rfl rfl (do_move rfl ?_)
    refine rw_t 29 rfl rfl rfl (do_add rfl rfl (by omega) ?_)
    refine rw_t 6 rfl rfl rfl (do_assign rfl ?_)
    refine rw_nil ?_
    have hk' : k = n.arcs.length := by omega
    subst hk'
    refine ⟨(v + 1, L), [0, 1, 2, 3, 4, 5, 6, 7, 8, 9], by dsimp only; omega, ⟨by dsimp only; omega, by dsimp only; rw [rowsOf_next]; exact hL⟩, ⟨shR rfl, shR rfl, shR rfl, shR rfl, shR rfl, .inr ⟨_, rfl, .inl (congrArg (fun R => SO.ints true .i64 (List.map Row.hd R)) (rowsOf_next n v))⟩, shR rfl, .inr ⟨_, rfl, .inl (congrArg (fun R => SO.ints true .i64 (List.map Row.cap R)) (rowsOf_next n v))⟩, .inr ⟨_, rfl, .inl (congrArg (fun R => SO.ints true .i64 (List.map Row.arc R)) (rowsOf_next n v))⟩, .inr ⟨_, rfl, .inl (congrArg (fun R => SO.bools true (List.map Row.back R)) (rowsOf_next n v))⟩, trivial⟩, rfl, pre_ok rfl, ⟨⟨_, rfl, rfl⟩, ⟨_, rfl, rfl⟩, ⟨_, rfl, rfl⟩, ⟨_, rfl, rfl⟩, trivial⟩⟩
  refine w_skip ?_
  refine w_seq ?_
  refine w_block ?_ -- block 3
  refine w_seq ?_
  refine w_region ?_
  refine rw_t 45 rfl rfl rfl (do_fieldaddr rfl ?_)
  first
    | refine rw_t 46 rfl rfl rfl (do_load_box rfl rfl rfl ?_)
    | refine rw_t 46 rfl rfl rfl (do_load_arr rfl rfl (by first | omega | (simp only [ls]; omega)) rfl ?_)
    | refine rw_t 46 rfl rfl rfl (n_load_boxagg [_] rfl rfl (Nat.le_of_ble_eq_true rfl) rfl ?_)
    | refine rw_t 46 rfl rfl rfl (n_load_arragg [_] rfl rfl rfl (by omega) rfl ?_)
  refine rw_t 47 rfl rfl rfl (do_move rfl ?_)
  first
    | refine rw_t 48 rfl rfl rfl (do_ixn rfl rfl rfl (by omega) ?_)
    | refine rw_t 48 rfl rfl rfl (do_ix0 rfl rfl rfl (by omega) ?_)
    | refine rw_t 48 rfl rfl rfl (do_ix rfl rfl rfl (by omega) ?_)
  first
    | refine rw_t 49 rfl rfl rfl (do_load_box rfl rfl rfl ?_)
    | refine rw_t 49 rfl rfl rfl (do_load_arr rfl rfl (by first | omega | (simp only [ls]; omega)) rfl ?_)
    | refine rw_t 49 rfl rfl rfl (n_load_boxagg [_, _, _] rfl rfl (Nat.le_of_ble_eq_true rfl) rfl ?_)
    | refine rw_t 49 rfl rfl rfl (n_load_arragg [_, _, _] rfl rfl rfl (by omega) rfl ?_)
  refine rw_t 8 rfl rfl rfl (n_alloc (n := 10) rfl ?_)
  first
    | refine rw_u rfl rfl (n_store_box rfl rfl rfl (Nat.le_of_ble_eq_true rfl) rfl ?_)
    | refine rw_u rfl rfl (n_store_arr rfl rfl rfl (by omega) rfl (by decide) rfl ?_)
    | refine rw_u rfl rfl (n_store_whole rfl rfl rfl rfl rfl rfl ?_)
  refine rw_nil ?_
  refine w_seq ?_
  refine w_seq ?_
  refine w_region ?_
  refine rw_t 50 rfl rfl rfl (do_fieldaddr rfl ?_)
  first
    | refine rw_t 51 rfl rfl rfl (do_load_box rfl rfl rfl ?_)
    | refine rw_t 51 rfl rfl rfl (do_load_arr rfl rfl (by first | omega | (simp only [ls]; omega)) rfl ?_)
    | refine rw_t 51 rfl rfl rfl (n_load_boxagg [_] rfl rfl (Nat.le_of_ble_eq_true rfl) rfl ?_)
    | refine rw_t 51 rfl rfl rfl (n_load_arragg [_] rfl rfl rfl (by omega) rfl ?_)
  refine rw_t 52 rfl rfl rfl (do_fieldaddr rfl ?_)
  first
    | refine rw_t 53 rfl rfl rfl (do_load_box rfl rfl rfl ?_)
    | refine rw_t 53 rfl rfl rfl (do_load_arr rfl rfl (by first | omega | (simp only [ls]; omega)) rfl ?_)
    | refine rw_t 53 rfl rfl rfl (n_load_boxagg [_] rfl rfl (Nat.le_of_ble_eq_true rfl) rfl ?_)
    | refine rw_t 53 rfl rfl rfl (n_load_arragg [_] rfl rfl rfl (by omega) rfl ?_)
  refine rw_t 54 rfl rfl rfl (do_bin rfl rfl rfl ?_)
  refine rw_nil ?_
  refine w_cond rfl (fun hc7 => ?_) (fun hc7 => ?_)
  all_goals simp only [bs] at hc7
  · refine w_exit ?_
    refine w_region ?_
    refine rw_t 43 rfl rfl rfl (do_move rfl ?_)
    refine rw_t 44 rfl rfl rfl (do_add rfl rfl (by omega) ?_)
    refine rw_t 7 rfl rfl rfl (do_assign rfl ?_)
    refine rw_nil ?_
    have PF : rowsOf n v ++ rowsAt n v (k + 1) = rowsOf n v ++ rowsAt n v k := by rw [rowsAt_next]; simp only [rowOf, if_pos hc7, List.append_nil]
    refine ⟨(k + 1, L), [0, 1, 2, 3, 4, 5, 6, 7, 8, 9], by dsimp only; omega, ⟨by dsimp only; omega, by dsimp only; rw [PF]; exact hL⟩, ⟨shR rfl, shR rfl, shR rfl, shR rfl, shR rfl, .inr ⟨_, rfl, .inl (congrArg (fun R => SO.ints true .i64 (List.map Row.hd R)) (PF))⟩, shR rfl, .inr ⟨_, rfl, .inl (congrArg (fun R => SO.ints true .i64 (List.map Row.cap R)) (PF))⟩, .inr ⟨_, rfl, .inl (congrArg (fun R => SO.ints true .i64 (List.map Row.arc R)) (PF))⟩, .inr ⟨_, rfl, .inl (congrArg (fun R => SO.bools true (List.map Row.back R)) (PF))⟩, trivial⟩, rfl, pre_ok rfl, ⟨⟨_, rfl, rfl⟩, ⟨_, rfl, rfl⟩, ⟨_, rfl, rfl⟩, ⟨_, rfl, rfl⟩, ⟨_, rfl, rfl⟩, trivial⟩⟩
  refine w_skip ?_
  refine w_midS (ι := List Row × Nat) (fun q => [(1, .ptr 1 0 0), (2, .ptr 2 0 0), (5, .ptr 3 0 0), (6, .val (.int .i64 ((v : Nat)))), (7, .val (.int .i64 ((k : Nat)))), (8, .ptr 10 0 0)]) (fun q => [SO.arcs false n.arcs, .box [.val (.int .i64 n.N), .val (.int .i64 n.S), .val (.int .i64 n.T), .slc 0 0 n.arcs.length none], .box [.val (.int .i64 0), .val (.int .i64 0), .val (.int .i64 0), .val (.slice none 0 0), .val (.slice none 0 0), .val (.slice none 0 0), .val (.slice none 0 0), .val (.slice none 0 0), .val (.slice none 0 0)], .box [.val (.int .i64 n.N), .val (.int .i64 n.S), .val (.int .i64 n.T), .slc 4 0 (v + 1) none, .slc 5 0 (q.2) none, .slc 6 0 (0) none, .slc 7 0 (q.2) none, .slc 8 0 (q.2) none, .slc 9 0 (q.2) none], SO.ints true .i64 (firstOf n (v + 1)), SO.ints true .i64 ((q.1).map Row.hd), SO.ints true .i64 ([]), SO.ints true .i64 ((q.1).map Row.cap), SO.ints true .i64 ((q.1).map Row.arc), SO.bools true ((q.1).map Row.back), .box ((encArc (n.arcs.getD k Arc.none)).map .val)]) (fun q => q.1 = rowsOf n v ++ rowsAt n v k ++ (if (n.arcs.getD k Arc.none).frm = v then [⟨(n.arcs.getD k Arc.none).to, (n.arcs.getD k Arc.none).cap, k, false⟩] else []) ∧ q.2 = q.1.length) hρ ?_ ?_
  · refine w_seq ?_
    refine w_region ?_
    refine rw_t 55 rfl rfl rfl (do_fieldaddr rfl ?_)
    first
      | refine rw_t 56 rfl rfl rfl (do_load_box rfl rfl rfl ?_)
      | refine rw_t 56 rfl rfl rfl (do_load_arr rfl rfl (by first | omega | (simp only [ls]; omega)) rfl ?_)
      | refine rw_t 56 rfl rfl rfl (n_load_boxagg [_] rfl rfl (Nat.le_of_ble_eq_true rfl) rfl ?_)
      | refine rw_t 56 rfl rfl rfl (n_load_arragg [_] rfl rfl rfl (by omega) rfl ?_)
    refine rw_t 57 rfl rfl rfl (do_move rfl ?_)
    refine rw_t 58 rfl rfl rfl (do_bin rfl rfl rfl ?_)
    refine rw_nil ?_
    refine w_cond rfl (fun hc8 => ?_) (fun hc8 => ?_)
    all_goals simp only [bs] at hc8
    · refine w_seq ?_
      refine w_region ?_
      refine rw_t 59 rfl rfl rfl (do_fieldaddr rfl ?_)
      first
        | refine rw_t 60 rfl rfl rfl (do_load_box rfl rfl rfl ?_)
        | refine rw_t 60 rfl rfl rfl (do_load_arr rfl rfl (by first | omega | (simp only [ls]; omega)) rfl ?_)
        | refine rw_t 60 rfl rfl rfl (n_load_boxagg [_] rfl rfl (Nat.le_of_ble_eq_true rfl) rfl ?_)
        | refine rw_t 60 rfl rfl rfl (n_load_arragg [_] rfl rfl rfl (by omega) rfl ?_)
      refine rw_t 61 rfl rfl rfl (do_fieldaddr rfl ?_)
      first
        | refine rw_t 62 rfl rfl rfl (do_load_box rfl rfl rfl ?_)
        | refine rw_t 62 rfl rfl rfl (do_load_arr rfl rfl (by first | omega | (simp only [ls]; omega)) rfl ?_)
        | refine rw_t 62 rfl rfl rfl (n_load_boxagg [_] rfl rfl (Nat.le_of_ble_eq_true rfl) rfl ?_)
        | refine rw_t 62 rfl rfl rfl (n_load_arragg [_] rfl rfl rfl (by omega) rfl ?_)
      refine rw_t 63 rfl rfl rfl (n_bs (nm := 11) Int (encI .i64) 0 [(n.arcs.getD k Arc.none).to] rfl rfl rfl rfl rfl (fun _ => rfl) (fun _ _ h => by simp [encI] at h; subst h; rfl) rfl ?_)
      refine rw_t 64 rfl rfl rfl (n_append_own (nm := 12) rfl rfl rfl rfl rfl (by first | omega | (simp only [List.length_map, firstOf_len]; omega)) (by simp) (by omega) (by omega) rfl ?_)
      refine rw_t 65 rfl rfl rfl (do_fieldaddr rfl ?_)
      first
        | refine rw_u rfl rfl (n_store_box rfl rfl rfl (Nat.le_of_ble_eq_true rfl) rfl ?_)
        | refine rw_u rfl rfl (n_store_arr rfl rfl rfl (by omega) rfl (by decide) rfl ?_)
        | refine rw_u rfl rfl (n_store_whole rfl rfl rfl rfl rfl rfl ?_)
      refine rw_nil ?_
      refine w_seq ?_
      refine w_region ?_
      refine rw_t 66 rfl rfl rfl (do_fieldaddr rfl ?_)
      first
        | refine rw_t 67 rfl rfl rfl (do_load_box rfl rfl rfl ?_)
        | refine rw_t 67 rfl rfl rfl (do_load_arr rfl rfl (by first | omega | (simp only [ls]; omega)) rfl ?_)
        | refine rw_t 67 rfl rfl rfl (n_load_boxagg [_] rfl rfl (Nat.le_of_ble_eq_true rfl) rfl ?_)
        | refine rw_t 67 rfl rfl rfl (n_load_arragg [_] rfl rfl rfl (by omega) rfl ?_)
      refine rw_t 68 rfl rfl rfl (do_fieldaddr rfl ?_)
      first
        | refine rw_t 69 rfl rfl rfl (do_load_box rfl rfl rfl ?_)
        | refine rw_t 69 rfl rfl rfl (do_load_arr rfl rfl (by first | omega | (simp only [ls]; omega)) rfl ?_)
        | refine rw_t 69 rfl rfl rfl (n_load_boxagg [_] rfl rfl (Nat.le_of_ble_eq_true rfl) rfl ?_)
        | refine rw_t 69 rfl rfl rfl (n_load_arragg [_] rfl rfl rfl (by omega) rfl ?_)
      refine rw_t 70 rfl rfl rfl (n_bs (nm := 13) Int (encI .i64) 0 [(n.arcs.getD k Arc.none).cap] rfl rfl rfl rfl rfl (fun _ => rfl) (fun _ _ h => by simp [encI] at h; subst h; rfl) rfl ?_)
      refine rw_t 71 rfl rfl rfl (n_append_own (nm := 14) rfl rfl rfl rfl rfl (by first | omega | (simp only [List.length_map, firstOf_len]; omega)) (by simp) (by omega) (by omega) rfl ?_)
      refine rw_t 72 rfl rfl rfl (do_fieldaddr rfl ?_)
      first
        | refine rw_u rfl rfl (n_store_box rfl rfl rfl (Nat.le_of_ble_eq_true rfl) rfl ?_)
        | refine rw_u rfl rfl (n_store_arr rfl rfl rfl (by omega) rfl (by decide) rfl ?_)
        | refine rw_u rfl rfl (n_store_whole rfl rfl rfl rfl rfl rfl ?_)
      refine rw_nil ?_
      refine w_seq ?_
      refine w_region ?_
      refine rw_t 73 rfl rfl rfl (do_fieldaddr rfl ?_)
      first
        | refine rw_t 74 rfl rfl rfl (do_load_box rfl rfl rfl ?_)
        | refine rw_t 74 rfl rfl rfl (do_load_arr rfl rfl (by first | omega | (simp only [ls]; omega)) rfl ?_)
        | refine rw_t 74 rfl rfl rfl (n_load_boxagg [_] rfl rfl (Nat.le_of_ble_eq_true rfl) rfl ?_)
        | refine rw_t 74 rfl rfl rfl (n_load_arragg [_] rfl rfl rfl (by omega) rfl ?_)
      refine rw_t 75 rfl rfl rfl (do_move rfl ?_)
      refine rw_t 76 rfl rfl rfl (n_bs (nm := 15) Int (encI .i64) 0 [(k : Int)] rfl rfl rfl rfl rfl (fun _ => rfl) (fun _ _ h => by simp [encI] at h; subst h; rfl) rfl ?_)
      refine rw_t 77 rfl rfl rfl (n_append_own (nm := 16) rfl rfl rfl rfl rfl (by first | omega | (simp only [List.length_map, firstOf_len]; omega)) (by simp) (by omega) (by omega) rfl ?_)
      refine rw_t 78 rfl rfl rfl (do_fieldaddr rfl ?_)
      first
        | refine rw_u rfl rfl (n_store_box rfl rfl rfl (Nat.le_of_ble_eq_true rfl) rfl ?_)
        | refine rw_u rfl rfl (n_store_arr rfl rfl rfl (by omega) rfl (by decide) rfl ?_)
        | refine rw_u rfl rfl (n_store_whole rfl rfl rfl rfl rfl rfl ?_)
      refine rw_nil ?_
      refine w_region ?_
      refine rw_t 79 rfl rfl rfl (do_fieldaddr rfl ?_)
      first
        | refine rw_t 80 rfl rfl rfl (do_load_box rfl rfl rfl ?_)
        | refine rw_t 80 rfl rfl rfl (do_load_arr rfl rfl (by first | omega | (simp only [ls]; omega)) rfl ?_)
        | refine rw_t 80 rfl rfl rfl (n_load_boxagg [_] rfl rfl (Nat.le_of_ble_eq_true rfl) rfl ?_)
        | refine rw_t 80 rfl rfl rfl (n_load_arragg [_] rfl rfl rfl (by omega) rfl ?_)
      refine rw_t 81 rfl rfl rfl (n_bs (nm := 17) Bool encB false [false] rfl rfl rfl rfl rfl (fun _ => rfl) (fun _ _ h => by simp [encB] at h; subst h; rfl) rfl ?_)
      refine rw_t 82 rfl rfl rfl (n_append_own (nm := 18) rfl rfl rfl rfl rfl (by first | omega | (simp only [List.length_map, firstOf_len]; omega)) (by simp) (by omega) (by omega) rfl ?_)
      refine rw_t 83 rfl rfl rfl (do_fieldaddr rfl ?_)
      first
        | refine rw_u rfl rfl (n_store_box rfl rfl rfl (Nat.le_of_ble_eq_true rfl) rfl ?_)
        | refine rw_u rfl rfl (n_store_arr rfl rfl rfl (by omega) rfl (by decide) rfl ?_)
        | refine rw_u rfl rfl (n_store_whole rfl rfl rfl rfl rfl rfl ?_)
      refine rw_nil ?_
      exact ⟨(rowsOf n v ++ rowsAt n v k ++ [⟨(n.arcs.getD k Arc.none).to, (n.arcs.getD k Arc.none).cap, k, false⟩], L + 1), [0, 1, 2, 3, 4, 12, 6, 14, 16, 18, 10], ⟨by dsimp only; rw [if_pos hc8], by dsimp only; rw [hL]; exact (len_snoc _ _).symm⟩, ⟨shR rfl, shR rfl, shR rfl, shR rfl, shR rfl, .inr ⟨_, rfl, .inl (congrArg (SO.ints true .i64) ((congrArg (List.map Row.hd) (rfl)).trans (map_app Row.hd ⟨(n.arcs.getD k Arc.none).to, (n.arcs.getD k Arc.none).cap, k, false⟩ hL)))⟩, shR rfl, .inr ⟨_, rfl, .inl (congrArg (SO.ints true .i64) ((congrArg (List.map Row.cap) (rfl)).trans (map_app Row.cap ⟨(n.arcs.getD k Arc.none).to, (n.arcs.getD k Arc.none).cap, k, false⟩ hL)))⟩, .inr ⟨_, rfl, .inl (congrArg (SO.ints true .i64) ((congrArg (List.map Row.arc) (rfl)).trans (map_app Row.arc ⟨(n.arcs.getD k Arc.none).to, (n.arcs.getD k Arc.none).cap, k, false⟩ hL)))⟩, .inr ⟨_, rfl, .inl (congrArg (SO.bools true) ((congrArg (List.map Row.back) (rfl)).trans (map_app Row.back ⟨(n.arcs.getD k Arc.none).to, (n.arcs.getD k Arc.none).cap, k, false⟩ hL)))⟩, shR rfl, trivial⟩, rfl, pre_ok rfl, ⟨⟨_, rfl, rfl⟩, ⟨_, rfl, rfl⟩, ⟨_, rfl, rfl⟩, ⟨_, rfl, rfl⟩, ⟨_, rfl, rfl⟩, ⟨_, rfl, rfl⟩, trivial⟩⟩
    · refine w_skip ?_
      exact ⟨(rowsOf n v ++ rowsAt n v k, L), [0, 1, 2, 3, 4, 5, 6, 7, 8, 9, 10], ⟨by dsimp only; rw [if_neg hc8, List.append_nil], hL⟩, ⟨shR rfl, shR rfl, shR rfl, shR rfl, shR rfl, shR rfl, shR rfl, shR rfl, shR rfl, shR rfl, shR rfl, trivial⟩, rfl, pre_ok rfl, ⟨⟨_, rfl, rfl⟩, ⟨_, rfl, rfl⟩, ⟨_, rfl, rfl⟩, ⟨_, rfl, rfl⟩, ⟨_, rfl, rfl⟩, ⟨_, rfl, rfl⟩, trivial⟩⟩
  rintro ⟨R, L2⟩ ⟨hR, hL2⟩
  dsimp only at hR hL2 ⊢
  have hb5 : L2 ≤ 64 * (2 * 64) + 2 * 64 + 1 := by rw [hL2, hR, List.length_append, ← hL]; split <;> simp <;> omega
  refine w_seq ?_
  refine w_region ?_
  refine rw_t 84 rfl rfl rfl (do_fieldaddr rfl ?_)
  first
    | refine rw_t 85 rfl rfl rfl (do_load_box rfl rfl rfl ?_)
    | refine rw_t 85 rfl rfl rfl (do_load_arr rfl rfl (by first | omega | (simp only [ls]; omega)) rfl ?_)
    | refine rw_t 85 rfl rfl rfl (n_load_boxagg [_] rfl rfl (Nat.le_of_ble_eq_true rfl) rfl ?_)
    | refine rw_t 85 rfl rfl rfl (n_load_arragg [_] rfl rfl rfl (by omega) rfl ?_)
  refine rw_t 86 rfl rfl rfl (do_move rfl ?_)
  refine rw_t 87 rfl rfl rfl (do_bin rfl rfl rfl ?_)
  refine rw_nil ?_
  refine w_cond rfl (fun hc9 => ?_) (fun hc9 => ?_)
  all_goals simp only [bs] at hc9
  · refine w_seq ?_
    refine w_region ?_
    refine rw_t 88 rfl rfl rfl (do_fieldaddr rfl ?_)
    first
      | refine rw_t 89 rfl rfl rfl (do_load_box rfl rfl rfl ?_)
      | refine rw_t 89 rfl rfl rfl (do_load_arr rfl rfl (by first | omega | (simp only [ls]; omega)) rfl ?_)
      | refine rw_t 89 rfl rfl rfl (n_load_boxagg [_] rfl rfl (Nat.le_of_ble_eq_true rfl) rfl ?_)
      | refine rw_t 89 rfl rfl rfl (n_load_arragg [_] rfl rfl rfl (by omega) rfl ?_)
    refine rw_t 90 rfl rfl rfl (do_fieldaddr rfl ?_)
    first
      | refine rw_t 91 rfl rfl rfl (do_load_box rfl rfl rfl ?_)
      | refine rw_t 91 rfl rfl rfl (do_load_arr rfl rfl (by first | omega | (simp only [ls]; omega)) rfl ?_)
      | refine rw_t 91 rfl rfl rfl (n_load_boxagg [_] rfl rfl (Nat.le_of_ble_eq_true rfl) rfl ?_)
      | refine rw_t 91 rfl rfl rfl (n_load_arragg [_] rfl rfl rfl (by omega) rfl ?_)
    refine rw_t 92 rfl rfl rfl (n_bs (nm := 11) Int (encI .i64) 0 [(n.arcs.getD k Arc.none).frm] rfl rfl rfl rfl rfl (fun _ => rfl) (fun _ _ h => by simp [encI] at h; subst h; rfl) rfl ?_)
    refine rw_t 93 rfl rfl rfl (n_append_own (nm := 12) rfl rfl rfl rfl rfl (by first | omega | (simp only [List.length_map, firstOf_len]; omega)) (by simp) (by omega) (by omega) rfl ?_)
    refine rw_t 94 rfl rfl rfl (do_fieldaddr rfl ?_)
    first
      | refine rw_u rfl rfl (n_store_box rfl rfl rfl (Nat.le_of_ble_eq_true rfl) rfl ?_)
      | refine rw_u rfl rfl (n_store_arr rfl rfl rfl (by omega) rfl (by decide) rfl ?_)
      | refine rw_u rfl rfl (n_store_whole rfl rfl rfl rfl rfl rfl ?_)
    refine rw_nil ?_
    refine w_seq ?_
    refine w_region ?_
    refine rw_t 95 rfl rfl rfl (do_fieldaddr rfl ?_)
    first
      | refine rw_t 96 rfl rfl rfl (do_load_box rfl rfl rfl ?_)
      | refine rw_t 96 rfl rfl rfl (do_load_arr rfl rfl (by first | omega | (simp only [ls]; omega)) rfl ?_)
      | refine rw_t 96 rfl rfl rfl (n_load_boxagg [_] rfl rfl (Nat.le_of_ble_eq_true rfl) rfl ?_)
      | refine rw_t 96 rfl rfl rfl (n_load_arragg [_] rfl rfl rfl (by omega) rfl ?_)
    refine rw_t 97 rfl rfl rfl (n_bs (nm := 13) Int (encI .i64) 0 [0] rfl rfl rfl rfl rfl (fun _ => rfl) (fun _ _ h => by simp [encI] at h; subst h; rfl) rfl ?_)
    refine rw_t 98 rfl rfl rfl (n_append_own (nm := 14) rfl rfl rfl rfl rfl (by first | omega | (simp only [List.length_map, firstOf_len]; omega)) (by simp) (by omega) (by omega) rfl ?_)
    refine rw_t 99 rfl rfl rfl (do_fieldaddr rfl ?_)
    first
      | refine rw_u rfl rfl (n_store_box rfl rfl rfl (Nat.le_of_ble_eq_true rfl) rfl ?_)
      | refine rw_u rfl rfl (n_store_arr rfl rfl rfl (by omega) rfl (by decide) rfl ?_)
      | refine rw_u rfl rfl (n_store_whole rfl rfl rfl rfl rfl rfl ?_)
    refine rw_nil ?_
    refine w_seq ?_
    refine w_region ?_
    refine rw_t 100 rfl rfl rfl (do_fieldaddr rfl ?_)
    first
      | refine rw_t 101 rfl rfl rfl (do_load_box rfl rfl rfl ?_)
      | refine rw_t 101 rfl rfl rfl (do_load_arr rfl rfl (by first | omega | (simp only [ls]; omega)) rfl ?_)
      | refine rw_t 101 rfl rfl rfl (n_load_boxagg [_] rfl rfl (Nat.le_of_ble_eq_true rfl) rfl ?_)
      | refine rw_t 101 rfl rfl rfl (n_load_arragg [_] rfl rfl rfl (by omega) rfl ?_)
    refine rw_t 102 rfl rfl rfl (do_move rfl ?_)
    refine rw_t 103 rfl rfl rfl (n_bs (nm := 15) Int (encI .i64) 0 [(k : Int)] rfl rfl rfl rfl rfl (fun _ => rfl) (fun _ _ h => by simp [encI] at h; subst h; rfl) rfl ?_)
    refine rw_t 104 rfl rfl rfl (n_append_own (nm := 16) rfl rfl rfl rfl rfl (by first | omega | (simp only [List.length_map, firstOf_len]; omega)) (by simp) (by omega) (by omega) rfl ?_)
    refine rw_t 105 rfl rfl rfl (do_fieldaddr rfl ?_)
    first
      | refine rw_u rfl rfl (n_store_box rfl rfl rfl (Nat.le_of_ble_eq_true rfl) rfl ?_)
      | refine rw_u rfl rfl (n_store_arr rfl rfl rfl (by omega) rfl (by decide) rfl ?_)
      | refine rw_u rfl rfl (n_store_whole rfl rfl rfl rfl rfl rfl ?_)
    refine rw_nil ?_
    refine w_region ?_
    refine rw_t 106 rfl rfl rfl (do_fieldaddr rfl ?_)
    first
      | refine rw_t 107 rfl rfl rfl (do_load_box rfl rfl rfl ?_)
      | refine rw_t 107 rfl rfl rfl (do_load_arr rfl rfl (by first | omega | (simp only [ls]; omega)) rfl ?_)
      | refine rw_t 107 rfl rfl rfl (n_load_boxagg [_] rfl rfl (Nat.le_of_ble_eq_true rfl) rfl ?_)
      | refine rw_t 107 rfl rfl rfl (n_load_arragg [_] rfl rfl rfl (by omega) rfl ?_)
    refine rw_t 108 rfl rfl rfl (n_bs (nm := 17) Bool encB false [true] rfl rfl rfl rfl rfl (fun _ => rfl) (fun _ _ h => by simp [encB] at h; subst h; rfl) rfl ?_)
    refine rw_t 109 rfl rfl rfl (n_append_own (nm := 18) rfl rfl rfl rfl rfl (by first | omega | (simp only [List.length_map, firstOf_len]; omega)) (by simp) (by omega) (by omega) rfl ?_)
    refine rw_t 110 rfl rfl rfl (do_fieldaddr rfl ?_)
    first
      | refine rw_u rfl rfl (n_store_box rfl rfl rfl (Nat.le_of_ble_eq_true rfl) rfl ?_)
      | refine rw_u rfl rfl (n_store_arr rfl rfl rfl (by omega) rfl (by decide) rfl ?_)
      | refine rw_u rfl rfl (n_store_whole rfl rfl rfl rfl rfl rfl ?_)
    refine rw_nil ?_
    refine w_region ?_
    refine rw_t 43 rfl rfl rfl (do_move rfl ?_)
    refine rw_t 44 rfl rfl rfl (do_add rfl rfl (by omega) ?_)
    refine rw_t 7 rfl rfl rfl (do_assign rfl ?_)
    refine rw_nil ?_
    have PF : rowsOf n v ++ rowsAt n v (k + 1) = R ++ [⟨(n.arcs.getD k Arc.none).frm, 0, k, true⟩] := by rw [rowsAt_next, hR, ← List.append_assoc]; simp only [rowOf, if_neg hc7, if_pos hc9, List.append_assoc]
    refine ⟨(k + 1, L2 + 1), [0, 1, 2, 3, 4, 12, 6, 14, 16, 18], by dsimp only; omega, ⟨by dsimp only; omega, by dsimp only; rw [PF, hL2]; simp⟩, ⟨shR rfl, shR rfl, shR rfl, shR rfl, shR rfl, .inr ⟨_, rfl, .inl (congrArg (SO.ints true .i64) ((congrArg (List.map Row.hd) (PF)).trans (map_app Row.hd ⟨(n.arcs.getD k Arc.none).frm, 0, k, true⟩ hL2)))⟩, shR rfl, .inr ⟨_, rfl, .inl (congrArg (SO.ints true .i64) ((congrArg (List.map Row.cap) (PF)).trans (map_app Row.cap ⟨(n.arcs.getD k Arc.none).frm, 0, k, true⟩ hL2)))⟩, .inr ⟨_, rfl, .inl (congrArg (SO.ints true .i64) ((congrArg (List.map Row.arc) (PF)).trans (map_app Row.arc ⟨(n.arcs.getD k Arc.none).frm, 0, k, true⟩ hL2)))⟩, .inr ⟨_, rfl, .inl (congrArg (SO.bools true) ((congrArg (List.map Row.back) (PF)).trans (map_app Row.back ⟨(n.arcs.getD k Arc.none).frm, 0, k, true⟩ hL2)))⟩, trivial⟩, rfl, pre_ok rfl, ⟨⟨_, rfl, rfl⟩, ⟨_, rfl, rfl⟩, ⟨_, rfl, rfl⟩, ⟨_, rfl, rfl⟩, ⟨_, rfl, rfl⟩, trivial⟩⟩
  · refine w_skip ?_
    refine w_region ?_
    refine rw_t 43 rfl rfl rfl (do_move rfl ?_)
    refine rw_t 44 rfl rfl rfl (do_add rfl rfl (by omega) ?_)
    refine rw_t 7 rfl rfl rfl (do_assign rfl ?_)
    refine rw_nil ?_
    have PF : rowsOf n v ++ rowsAt n v (k + 1) = R := by rw [rowsAt_next, hR, ← List.append_assoc]; simp only [rowOf, if_neg hc7, if_neg hc9, List.append_nil, List.append_assoc]
    refine ⟨(k + 1, L2), [0, 1, 2, 3, 4, 5, 6, 7, 8, 9], by dsimp only; omega, ⟨by dsimp only; omega, by dsimp only; rw [PF]; exact hL2⟩, ⟨shR rfl, shR rfl, shR rfl, shR rfl, shR rfl, .inr ⟨_, rfl, .inl (congrArg (fun R => SO.ints true .i64 (List.map Row.hd R)) (PF))⟩, shR rfl, .inr ⟨_, rfl, .inl (congrArg (fun R => SO.ints true .i64 (List.map Row.cap R)) (PF))⟩, .inr ⟨_, rfl, .inl (congrArg (fun R => SO.ints true .i64 (List.map Row.arc R)) (PF))⟩, .inr ⟨_, rfl, .inl (congrArg (fun R => SO.bools true (List.map Row.back R)) (PF))⟩, trivial⟩, rfl, pre_ok rfl, ⟨⟨_, rfl, rfl⟩, ⟨_, rfl, rfl⟩, ⟨_, rfl, rfl⟩, ⟨_, rfl, rfl⟩, ⟨_, rfl, rfl⟩, trivial⟩⟩
end Go.Proofs

set_option linter.unusedVariables false
namespace Go.Proofs
open Go Go.Sx Go.RowKit
/-- Lengths of a row of residual arcs. -/
structure CsrLen (c : Csr) : Prop where
  n : 2 ≤ c.N ∧ c.N ≤ 4096
  first : c.First.length = c.N.toNat + 1
  head : c.Head.length ≤ 32768
  rev : c.Rev.length = c.Head.length
  cap : c.Cap.length = c.Head.length
  arc : c.Arc.length = c.Head.length
  back : c.Back.length = c.Head.length
def isTail (c : Csr) (a : Int) (v : Nat) : Prop := c.First.getD v 0 ≤ a ∧ a < c.First.getD (v + 1) 0
instance (c : Csr) (a : Int) (v : Nat) : Decidable (isTail c a v) := by unfold isTail; exact inferInstance
def tailOf (c : Csr) (a : Int) : Int := match (List.range c.N.toNat).find? (fun v => decide (isTail c a v)) with
  | some v => (v : Int)
  | none => -1
theorem tail_found {c : Csr} {a : Int} {i : Nat} (hi : i < c.N.toNat) (h : isTail c a i) (hno : ∀ v, v < i → ¬ isTail c a v) : tailOf c a = i := by
  unfold tailOf
  have : (List.range c.N.toNat).find? (fun v => decide (isTail c a v)) = some i := by
    rw [List.find?_range_eq_some]
    refine ⟨by simpa using h, by simpa using hi, fun j hj => by simpa using hno j hj⟩
  rw [this]
end Go.Proofs

set_option linter.unusedVariables false
namespace Go.Proofs
open Go Go.Sx Go.RowKit
def mostOf (c : Csr) (a : Nat) : Int := c.Cap.getD a 0 + c.Cap.getD (c.Rev.getD a 0).toNat 0
def flowAt (c : Csr) (f : List Int) (a : Nat) : Int := f.getD (c.Arc.getD a 0).toNat 0
def resAt (c : Csr) (f : List Int) (a : Nat) : Int := if c.Back.getD a false = true then flowAt c f a else mostOf c a - flowAt c f a
def resOf (c : Csr) (f : List Int) (m : Nat) : List Int := (List.range m).map (resAt c f)
/-- A flow that the row may have. -/
structure ResIn (c : Csr) (f : List Int) : Prop where
  arc : ∀ a, a < c.Head.length → 0 ≤ c.Arc.getD a 0 ∧ c.Arc.getD a 0 < f.length
  rev : ∀ a, a < c.Head.length → 0 ≤ c.Rev.getD a 0 ∧ c.Rev.getD a 0 < c.Head.length
  flow : ∀ a, a < c.Head.length → 0 ≤ flowAt c f a ∧ flowAt c f a ≤ mostOf c a ∧ mostOf c a ≤ 4611686018427387904
end Go.Proofs

set_option linter.unusedVariables false
namespace Go.Proofs
open Go Go.Sx Go.RowKit

theorem mem_rowOf {v : Int} {a : Arc} {k : Nat} {r : Row} : r ∈ rowOf v a k ↔ a.frm ≠ a.to ∧ ((a.frm = v ∧ r = ⟨a.to, a.cap, k, false⟩) ∨ (a.to = v ∧ r = ⟨a.frm, 0, k, true⟩)) := by
  unfold rowOf
  by_cases h : a.frm = a.to
  · simp [h]
  · rw [if_neg h, List.mem_append]
    by_cases h1 : a.frm = v <;> by_cases h2 : a.to = v <;> simp [h1, h2, h]
    all_goals first | omega | skip
    all_goals intro _; omega
theorem mem_rowsAt {n : Net} {v : Int} {r : Row} : ∀ {m : Nat}, r ∈ rowsAt n v m ↔ ∃ j, j < m ∧ r ∈ rowOf v (n.arcs.getD j Arc.none) j := by
  intro m
  simp [rowsAt]
theorem mem_rowsOf {n : Net} {v : Nat} {r : Row} : r ∈ rowsOf n v ↔ ∃ u : Nat, u < v ∧ r ∈ rowsAt n (u : Int) n.arcs.length := by
  simp [rowsOf]
theorem mem_rows {n : Net} (h : NetOK n) {r : Row} : r ∈ rows n ↔ ∃ k, k < n.arcs.length ∧ (n.arcs.getD k Arc.none).frm ≠ (n.arcs.getD k Arc.none).to ∧
    (r = ⟨(n.arcs.getD k Arc.none).to, (n.arcs.getD k Arc.none).cap, k, false⟩ ∨ r = ⟨(n.arcs.getD k Arc.none).frm, 0, k, true⟩) := by
  unfold rows
  rw [mem_rowsOf]
  constructor
  · rintro ⟨u, hu, hr⟩
    obtain ⟨j, hj, hr⟩ := mem_rowsAt.1 hr
    obtain ⟨h1, h2⟩ := mem_rowOf.1 hr
    refine ⟨j, hj, h1, ?_⟩
    rcases h2 with ⟨_, h2⟩ | ⟨_, h2⟩
    · exact .inl h2
    · exact .inr h2
  · rintro ⟨k, hk, h1, h2⟩
    have ha := h.arc hk
    rcases h2 with h2 | h2
    · refine ⟨(n.arcs.getD k Arc.none).frm.toNat, by omega, mem_rowsAt.2 ⟨k, hk, mem_rowOf.2 ⟨h1, .inl ⟨by omega, h2⟩⟩⟩⟩
    · refine ⟨(n.arcs.getD k Arc.none).to.toNat, by omega, mem_rowsAt.2 ⟨k, hk, mem_rowOf.2 ⟨h1, .inr ⟨by omega, h2⟩⟩⟩⟩
def Row.key (r : Row) : Int × Bool := (r.arc, r.back)
theorem keysAt (n : Net) (v : Int) (m : Nat) : ((rowsAt n v m).map Row.key).Nodup := by
  induction m with
  | zero => simp [rowsAt]
  | succ m ih =>
    rw [rowsAt_next, List.map_append, List.nodup_append]
    refine ⟨ih, ?_, ?_⟩
    · unfold rowOf
      split
      · simp
      · split <;> split <;> simp [Row.key]
    · intro x hx y hy hxy
      obtain ⟨r, hr, rfl⟩ := List.mem_map.1 hx
      obtain ⟨r', hr', rfl⟩ := List.mem_map.1 hy
      obtain ⟨j, hj, hr⟩ := mem_rowsAt.1 hr
      obtain ⟨_, h1⟩ := mem_rowOf.1 hr
      obtain ⟨_, h2⟩ := mem_rowOf.1 hr'
      have e1 : r.arc = (j : Int) := by rcases h1 with ⟨_, rfl⟩ | ⟨_, rfl⟩ <;> rfl
      have e2 : r'.arc = (m : Int) := by rcases h2 with ⟨_, rfl⟩ | ⟨_, rfl⟩ <;> rfl
      simp only [Row.key, Prod.mk.injEq] at hxy
      omega
/-- From which vertex a residual arc goes. -/
def endOf (n : Net) (x : Int × Bool) : Int := if x.2 then (n.arcs.getD x.1.toNat Arc.none).to else (n.arcs.getD x.1.toNat Arc.none).frm
theorem end_rowsAt {n : Net} {v : Int} {m : Nat} {r : Row} (h : r ∈ rowsAt n v m) : endOf n r.key = v := by
  obtain ⟨j, hj, h⟩ := mem_rowsAt.1 h
  obtain ⟨_, h1⟩ := mem_rowOf.1 h
  rcases h1 with ⟨h2, rfl⟩ | ⟨h2, rfl⟩ <;> simpa [endOf, Row.key] using h2
theorem keysOf (n : Net) (v : Nat) : ((rowsOf n v).map Row.key).Nodup := by
  induction v with
  | zero => simp [rowsOf]
  | succ v ih =>
    rw [rowsOf_next, List.map_append, List.nodup_append]
    refine ⟨ih, keysAt n v _, ?_⟩
    intro x hx y hy hxy
    obtain ⟨r, hr, rfl⟩ := List.mem_map.1 hx
    obtain ⟨r', hr', rfl⟩ := List.mem_map.1 hy
    obtain ⟨u, hu, hr⟩ := mem_rowsOf.1 hr
    have e1 := end_rowsAt hr
    have e2 := end_rowsAt hr'
    rw [hxy, e2] at e1
    omega
theorem key_inj {n : Net} {i j : Nat} (hi : i < (rows n).length) (hj : j < (rows n).length) (h : ((rows n).getD i Row.none).key = ((rows n).getD j Row.none).key) : i = j := by
  have hk := keysOf n n.N.toNat
  have hk : ((rows n).map Row.key).Nodup := hk
  rw [List.Nodup, List.pairwise_iff_getElem] at hk
  have e1 : (rows n).getD i Row.none = (rows n)[i] := by simp [List.getD, hi]
  have e2 : (rows n).getD j Row.none = (rows n)[j] := by simp [List.getD, hj]
  rw [e1, e2] at h
  rcases Nat.lt_trichotomy i j with h1 | h1 | h1
  · exact (hk i j (by simpa using hi) (by simpa using hj) h1 (by simpa using h)).elim
  · exact h1
  · exact (hk j i (by simpa using hj) (by simpa using hi) h1 (by simpa using h.symm)).elim
end Go.Proofs

set_option linter.unusedVariables false
namespace Go.Proofs
open Go Go.Sx Go.RowKit

theorem filter_one {p : Nat → Bool} {j : Nat} : ∀ {m : Nat}, j < m → (∀ x, x < m → (p x = true ↔ x = j)) → (List.range m).filter p = [j]
  | 0, h, _ => by omega
  | m + 1, h, hp => by
    rw [List.range_succ, List.filter_append]
    by_cases hj : j = m
    · subst hj
      have h1 : (List.range j).filter p = [] := by
        rw [List.filter_eq_nil_iff]
        intro x hx
        have hx := List.mem_range.1 hx
        rw [hp x (by omega)]
        omega
      have h2 : p j = true := (hp j (by omega)).2 rfl
      rw [h1]; simp [h2]
    · have h1 := filter_one (p := p) (j := j) (m := m) (by omega) (fun x hx => hp x (by omega))
      have h2 : p m = false := by
        cases hb : p m with
        | false => rfl
        | true => exact (hj ((hp m (by omega)).1 hb).symm).elim
      rw [h1]; simp [h2]
theorem row_mem {n : Net} {i : Nat} (hi : i < (rows n).length) : (rows n).getD i Row.none ∈ rows n := getD_mem _ hi
theorem mem_at {n : Net} {r : Row} (h : r ∈ rows n) : ∃ j, j < (rows n).length ∧ (rows n).getD j Row.none = r := by
  obtain ⟨j, hj, e⟩ := List.getElem_of_mem h
  exact ⟨j, hj, by simp [List.getD, hj, e]⟩
/-- Each residual arc has one partner. -/
theorem partner {n : Net} (h : NetOK n) {i : Nat} (hi : i < (rows n).length) : ∃ j, j < (rows n).length ∧ j ≠ i ∧ revAt (rows n) i (rows n).length = [(j : Int)] ∧ ((rows n).getD j Row.none).arc = ((rows n).getD i Row.none).arc ∧
    ((rows n).getD j Row.none).back = !((rows n).getD i Row.none).back := by
  obtain ⟨k, hk, hne, hr⟩ := (mem_rows h).1 (row_mem hi)
  have hp : ∃ r' ∈ rows n, r'.arc = ((rows n).getD i Row.none).arc ∧ r'.back = !((rows n).getD i Row.none).back := by
    rcases hr with hr | hr
    · exact ⟨_, (mem_rows h).2 ⟨k, hk, hne, .inr rfl⟩, by rw [hr], by rw [hr]; rfl⟩
    · exact ⟨_, (mem_rows h).2 ⟨k, hk, hne, .inl rfl⟩, by rw [hr], by rw [hr]; rfl⟩
  obtain ⟨r', hr', h1, h2⟩ := hp
  obtain ⟨j, hj, rfl⟩ := mem_at hr'
  have hji : j ≠ i := by
    intro e
    rw [e] at h2
    cases hb : ((rows n).getD i Row.none).back <;> rw [hb] at h2 <;> cases h2
  refine ⟨j, hj, hji, ?_, h1, h2⟩
  unfold revAt
  rw [filter_one hj]
  · rfl
  · intro x hx
    rw [decide_eq_true_eq]
    constructor
    · rintro ⟨e1, e2⟩
      -- the same arc: either end
      cases hb : ((rows n).getD x Row.none).back == ((rows n).getD i Row.none).back with
      | true =>
        have hb := eq_of_beq hb
        exact (e2 (key_inj hi hx (by unfold Row.key; rw [e1, hb]))).elim
      | false =>
        have hb : ((rows n).getD x Row.none).back ≠ ((rows n).getD i Row.none).back := by simpa using hb
        refine key_inj hx hj ?_
        unfold Row.key
        rw [h1, ← e1, h2]
        congr 1
        revert hb
        cases ((rows n).getD x Row.none).back <;> cases ((rows n).getD i Row.none).back <;> simp
    · rintro rfl
      exact ⟨h1.symm, Ne.symm hji⟩
theorem revOf_one {n : Net} (h : NetOK n) : ∀ {i : Nat}, i ≤ (rows n).length → (revOf (rows n) i).length = i
  | 0, _ => by simp [revOf]
  | i + 1, hi => by
    obtain ⟨j, _, _, h1, _⟩ := partner h (i := i) (by omega)
    rw [revOf_next, List.length_append, revOf_one h (by omega), h1]; rfl
theorem revOf_get {n : Net} (h : NetOK n) : ∀ {m i : Nat}, m ≤ (rows n).length → i < m → revAt (rows n) i (rows n).length = [(revOf (rows n) m).getD i 0]
  | 0, i, _, hi => by omega
  | m + 1, i, hm, hi => by
    have hl := revOf_one h (i := m) (by omega)
    rw [revOf_next]
    rcases Nat.lt_or_ge i m with h1 | h1
    · rw [revOf_get h (m := m) (by omega) h1]
      simp only [List.getD]
      rw [List.getElem?_append_left (by omega)]
    · have : i = m := by omega
      subst this
      obtain ⟨j, _, _, h2, _⟩ := partner h (i := i) (by omega)
      rw [h2]
      simp only [List.getD]
      rw [List.getElem?_append_right (by omega), hl]
      simp
/-- The partner, by the row's own numbers. -/
theorem rev_spec {n : Net} (h : NetOK n) {i : Nat} (hi : i < (rows n).length) : ∃ j, j < (rows n).length ∧ j ≠ i ∧ (makeC n).Rev.getD i 0 = (j : Int) ∧ ((rows n).getD j Row.none).arc = ((rows n).getD i Row.none).arc ∧
    ((rows n).getD j Row.none).back = !((rows n).getD i Row.none).back := by
  obtain ⟨j, h1, h2, h3, h4, h5⟩ := partner h hi
  have := revOf_get h (Nat.le_refl _) hi
  rw [h3] at this
  simp only [List.cons.injEq, and_true] at this
  exact ⟨j, h1, h2, this.symm, h4, h5⟩
end Go.Proofs

set_option linter.unusedVariables false
namespace Go.Proofs
open Go Go.Sx Go.RowKit

theorem getD_cap (l : List Row) (i : Nat) : (l.map Row.cap).getD i 0 = (l.getD i Row.none).cap := by
  simp only [List.getD, List.getElem?_map]
  cases l[i]? <;> rfl
theorem getD_hd (l : List Row) (i : Nat) : (l.map Row.hd).getD i 0 = (l.getD i Row.none).hd := by
  simp only [List.getD, List.getElem?_map]
  cases l[i]? <;> rfl
theorem getD_back (l : List Row) (i : Nat) : (l.map Row.back).getD i false = (l.getD i Row.none).back := by
  simp only [List.getD, List.getElem?_map]
  cases l[i]? <;> rfl
theorem rows_len {n : Net} (h : NetOK n) (hs : n.N ≤ 64 ∧ n.arcs.length ≤ 64) : (rows n).length ≤ 8192 := by
  have hb := rowsOf_len n n.N.toNat
  have hb2 : n.N.toNat * (2 * n.arcs.length) ≤ 64 * (2 * 64) := Nat.mul_le_mul (by omega) (by omega)
  show (rowsOf n n.N.toNat).length ≤ 8192
  omega
theorem make_head (n : Net) : (makeC n).Head.length = (rows n).length := by simp [makeC]
theorem make_len {n : Net} (h : NetOK n) (hs : n.N ≤ 64 ∧ n.arcs.length ≤ 64) : CsrLen (makeC n) where
  n := ⟨h.lo, h.hi⟩
  first := by simp [makeC, firstOf_len]
  head := by rw [make_head]; have := rows_len h hs; omega
  rev := by rw [make_head]; exact revOf_one h (Nat.le_refl _)
  cap := by simp [makeC]
  arc := by simp [makeC]
  back := by simp [makeC]
/-- What a residual arc is: of which arc, and which way. -/
theorem row_cases {n : Net} (h : NetOK n) {i : Nat} (hi : i < (rows n).length) : ∃ k, k < n.arcs.length ∧ (n.arcs.getD k Arc.none).frm ≠ (n.arcs.getD k Arc.none).to ∧
    ((rows n).getD i Row.none = ⟨(n.arcs.getD k Arc.none).to, (n.arcs.getD k Arc.none).cap, k, false⟩ ∨ (rows n).getD i Row.none = ⟨(n.arcs.getD k Arc.none).frm, 0, k, true⟩) := (mem_rows h).1 (row_mem hi)
theorem most_spec {n : Net} (h : NetOK n) {i k : Nat} (hi : i < (rows n).length) (hk : ((rows n).getD i Row.none).arc = k) : mostOf (makeC n) i = (n.arcs.getD k Arc.none).cap := by
  obtain ⟨j, h1, h2, h3, h4, h5⟩ := rev_spec h hi
  unfold mostOf
  rw [h3, Int.toNat_natCast]
  show ((rows n).map Row.cap).getD i 0 + ((rows n).map Row.cap).getD j 0 = _
  rw [getD_cap, getD_cap]
  obtain ⟨k1, q1, q2, q3⟩ := row_cases h hi
  obtain ⟨k2, r1, r2, r3⟩ := row_cases h h1
  have e1 : ((rows n).getD i Row.none).arc = (k1 : Int) := by rcases q3 with q3 | q3 <;> rw [q3]
  have e2 : ((rows n).getD j Row.none).arc = (k2 : Int) := by rcases r3 with r3 | r3 <;> rw [r3]
  have e3 : k1 = k := by omega
  have e4 : k2 = k := by omega
  subst e3; subst e4
  rcases q3 with q3 | q3 <;> rcases r3 with r3 | r3 <;> rw [q3, r3] at h5 ⊢ <;> simp at h5 ⊢
theorem cap_le {n : Net} (h : NetOK n) {k : Nat} (hk : k < n.arcs.length) : (n.arcs.getD k Arc.none).cap ≤ 4611686018427387904 := by
  have h1 := h.part (k + 1)
  have h2 := h.part k
  rw [capSum_next hk] at h1
  omega
/-- A flow within the capacities may be of the row. -/
theorem res_in {n : Net} (h : NetOK n) {f : List Int} (hl : f.length = n.arcs.length) (hf : ∀ k, k < n.arcs.length → 0 ≤ f.getD k 0 ∧ f.getD k 0 ≤ (n.arcs.getD k Arc.none).cap) : ResIn (makeC n) f where
  arc := by
    intro a ha
    rw [make_head] at ha
    show 0 ≤ ((rows n).map Row.arc).getD a 0 ∧ ((rows n).map Row.arc).getD a 0 < f.length
    rw [getD_arc]
    obtain ⟨k, q1, q2, q3⟩ := row_cases h ha
    have e1 : ((rows n).getD a Row.none).arc = (k : Int) := by rcases q3 with q3 | q3 <;> rw [q3]
    omega
  rev := by
    intro a ha
    rw [make_head] at ha ⊢
    obtain ⟨j, h1, h2, h3, h4, h5⟩ := rev_spec h ha
    omega
  flow := by
    intro a ha
    rw [make_head] at ha
    obtain ⟨k, q1, q2, q3⟩ := row_cases h ha
    have e1 : ((rows n).getD a Row.none).arc = (k : Int) := by rcases q3 with q3 | q3 <;> rw [q3]
    rw [most_spec h ha e1]
    have e2 : flowAt (makeC n) f a = f.getD k 0 := by
      unfold flowAt
      show f.getD (((rows n).map Row.arc).getD a 0).toNat 0 = _
      rw [getD_arc, e1, Int.toNat_natCast]
    rw [e2]
    have := hf k q1
    have := cap_le h q1
    omega
end Go.Proofs

set_option linter.unusedVariables false
namespace Go.Proofs
open Go Go.Sx Go.RowKit
/-- A preflow: what is left, excesses, heights. -/
structure Pre where
  Res : List Int
  Ex : List Int
  H : List Int
abbrev Pre.sv (p : Pre) (o : Nat) : SV := .agg [.slc o 0 p.Res.length none, .slc (o + 1) 0 p.Ex.length none, .slc (o + 2) 0 p.H.length none]
def fullArc (n : Net) (k : Nat) : Prop := (n.arcs.getD k Arc.none).frm = n.S ∧ (n.arcs.getD k Arc.none).to ≠ n.S
instance (n : Net) (k : Nat) : Decidable (fullArc n k) := by unfold fullArc; exact inferInstance
def begF (n : Net) : Nat → List Int
  | 0 => List.replicate n.arcs.length 0
  | k + 1 => if fullArc n k then (begF n k).set k (n.arcs.getD k Arc.none).cap else begF n k
def addAt (l : List Int) (i : Int) (x : Int) : List Int := l.set i.toNat (l.getD i.toNat 0 + x)
def begX (n : Net) : Nat → List Int
  | 0 => List.replicate n.N.toNat 0
  | k + 1 => if fullArc n k then ((begX n k).set (n.arcs.getD k Arc.none).frm.toNat ((begX n k).getD (n.arcs.getD k Arc.none).frm.toNat 0 - (n.arcs.getD k Arc.none).cap)).set (n.arcs.getD k Arc.none).to.toNat (((begX n k).set (n.arcs.getD k Arc.none).frm.toNat ((begX n k).getD (n.arcs.getD k Arc.none).frm.toNat 0 - (n.arcs.getD k Arc.none).cap)).getD (n.arcs.getD k Arc.none).to.toNat 0 + (n.arcs.getD k Arc.none).cap) else begX n k
def begH (n : Net) : List Int := (List.replicate n.N.toNat 0).set n.S.toNat n.N
def begP (n : Net) : Pre := ⟨resOf (makeC n) (begF n n.arcs.length) (makeC n).Head.length, begX n n.arcs.length, begH n⟩
theorem getD_set (l : List Int) (i j : Nat) (x : Int) (hi : i < l.length) : (l.set i x).getD j 0 = if i = j then x else l.getD j 0 := by
  simp only [List.getD, List.getElem?_set]
  split
  · rename_i h; subst h; simp [hi]
  · rfl
end Go.Proofs

set_option linter.unusedVariables false
namespace Go.Proofs
open Go Go.Sx Go.RowKit
/-- A move; a move to be made to fit. -/
structure Event where
  who : Int
  what : Int
  u : Int
  arc : Int
  d : Int
  h : Int
  low : Int
abbrev Event.sv (e : Event) : SV := .agg [.val (.int .i64 e.who), .val (.int .u8 e.what), .val (.int .i64 e.u), .val (.int .i64 e.arc), .val (.int .i64 e.d), .val (.int .i64 e.h), .val (.int .i64 e.low)]
structure Act where
  e : Event
  raw : Bool
  fit : Int
abbrev Act.sv (x : Act) : SV := .agg [.val (.int .i64 x.e.who), .val (.int .u8 x.e.what), .val (.int .i64 x.e.u), .val (.int .i64 x.e.arc), .val (.int .i64 x.e.d), .val (.int .i64 x.e.h), .val (.int .i64 x.e.low), .val (.bool x.raw), .val (.int .u8 x.fit)]
/-- A row that is right enough to be walked over. -/
structure CsrOK (c : Csr) : Prop extends CsrLen c where
  s : 0 ≤ c.S ∧ c.S < c.N
  t : 0 ≤ c.T ∧ c.T < c.N
  st : c.S ≠ c.T
  mono : ∀ v, v < c.N.toNat → 0 ≤ c.First.getD v 0 ∧ c.First.getD v 0 ≤ c.First.getD (v + 1) 0 ∧ c.First.getD (v + 1) 0 ≤ c.Head.length
  hd : ∀ a, a < c.Head.length → 0 ≤ c.Head.getD a 0 ∧ c.Head.getD a 0 < c.N
  rv : ∀ a, a < c.Head.length → 0 ≤ c.Rev.getD a 0 ∧ c.Rev.getD a 0 < c.Head.length
  cp : ∀ a, a < c.Head.length → 0 ≤ c.Cap.getD a 0 ∧ 0 ≤ mostOf c a ∧ mostOf c a ≤ 4611686018427387904
/-- A state whose numbers are not too great. -/
structure PreOK (c : Csr) (p : Pre) : Prop where
  res : p.Res.length = c.Head.length
  ex : p.Ex.length = c.N.toNat
  h : p.H.length = c.N.toNat
  resv : ∀ a, a < c.Head.length → 0 ≤ p.Res.getD a 0 ∧ p.Res.getD a 0 ≤ mostOf c a
  exv : ∀ v, v < c.N.toNat → -4611686018427387904 ≤ p.Ex.getD v 0 ∧ p.Ex.getD v 0 ≤ 4611686018427387904
  hv : ∀ v, v < c.N.toNat → 0 ≤ p.H.getD v 0 ∧ p.H.getD v 0 ≤ 8192
def mostD (p : Pre) (u arc : Int) : Int := if p.Res.getD (arc).toNat 0 < (if 0 > p.Ex.getD (u).toNat 0 then 0 else p.Ex.getD (u).toNat 0) then p.Res.getD (arc).toNat 0 else (if 0 > p.Ex.getD (u).toNat 0 then 0 else p.Ex.getD (u).toNat 0)
def halfD (fit d : Int) : Int := if andI .u8 fit 2 ≠ 0 ∧ d > 1 then 1 + d.tdiv 2 else d
def fitE (c : Csr) (p : Pre) (x : Act) : Event :=
  if x.raw = true then x.e else
  let what := IntKind.u8.wrap (1 + andI .u8 x.fit 1)
  let u := Among x.e.u c.N
  if what = 2 then { x.e with what := what, u := u, h := p.H.getD (u).toNat 0 + 1 + Among x.e.h 3 } else
  let many := c.First.getD ((u + 1)).toNat 0 - c.First.getD (u).toNat 0
  let h := p.H.getD (u).toNat 0
  if many > 0 then
    let arc := c.First.getD (u).toNat 0 + Among x.e.arc many
    { x.e with what := what, u := u, arc := arc, d := halfD x.fit (mostD p u arc), h := h, low := h - 1 - Among x.e.low 2 }
  else { x.e with what := what, u := u, h := h, low := h - 1 - Among x.e.low 2 }
end Go.Proofs

set_option linter.unusedVariables false
namespace Go.Proofs
open Go Go.Sx Go.RowKit
/-- The first place of a rising row at which there is x or more. -/
def searchI (xs : List Int) (x : Int) : Nat := match (List.range xs.length).find? (fun i => decide (x ≤ xs.getD i 0)) with
  | some i => i
  | none => xs.length
theorem search_at {xs : List Int} {x : Int} {r : Nat} (hr : r ≤ xs.length) (h1 : ∀ k, k < r → xs.getD k 0 < x) (h2 : r < xs.length → x ≤ xs.getD r 0) : searchI xs x = r := by
  unfold searchI
  rcases Nat.lt_or_ge r xs.length with h | h
  · have : (List.range xs.length).find? (fun i => decide (x ≤ xs.getD i 0)) = some r := by
      rw [List.find?_range_eq_some]
      refine ⟨by simpa using h2 h, by simpa using h, fun j hj => ?_⟩
      have := h1 j hj
      simp only [Bool.not_eq_true', decide_eq_false_iff_not]; omega
    rw [this]
  · have : (List.range xs.length).find? (fun i => decide (x ≤ xs.getD i 0)) = none := by
      rw [List.find?_range_eq_none]
      intro i hi
      have := h1 i (by omega)
      simp only [Bool.not_eq_true', decide_eq_false_iff_not]; omega
    rw [this]; show xs.length = r; omega
/-- A row whose vertices' pieces lie one behind the other. -/
structure CsrT (c : Csr) : Prop extends CsrOK c where
  f0 : c.First.getD 0 0 = 0
  fN : c.First.getD c.N.toNat 0 = c.Head.length
  small : c.Head.length ≤ 2048
  capv : ∀ a, a < c.Head.length → mostOf c a ≤ 1125899906842624
theorem CsrT.up {c : Csr} (h : CsrT c) : ∀ {i j : Nat}, i ≤ j → j ≤ c.N.toNat → c.First.getD i 0 ≤ c.First.getD j 0 := by
  intro i j hij
  induction j with
  | zero => intro _; have : i = 0 := by omega
            subst this; omega
  | succ j ih =>
    intro hj
    rcases Nat.eq_or_lt_of_le hij with he | hl
    · subst he; omega
    · have h1 := ih (by omega) (by omega)
      have h2 := h.mono j (by omega)
      omega
theorem CsrT.tail_at {c : Csr} (h : CsrT c) {a : Int} (h0 : 0 ≤ a) (h1 : a < c.Head.length) : ∃ v : Nat, v < c.N.toNat ∧ isTail c a v ∧ tailOf c a = v ∧ (searchI c.First (a + 1) : Int) - 1 = v := by
  have hn := h.n
  have key : ∀ m : Nat, m ≤ c.N.toNat → a < c.First.getD m 0 → ∃ v : Nat, v < m ∧ isTail c a v ∧ ∀ u, u ≤ v → c.First.getD u 0 ≤ a := by
    intro m
    induction m with
    | zero => intro _ hl; have := h.f0; omega
    | succ m ih =>
      intro hm hl
      rcases Int.lt_or_le a (c.First.getD m 0) with hc | hc
      · obtain ⟨v, q1, q2⟩ := ih (by omega) hc
        exact ⟨v, by omega, q2⟩
      · exact ⟨m, by omega, ⟨hc, hl⟩, fun u hu => by have := h.up hu (by omega); omega⟩
  obtain ⟨v, q1, q2, q3⟩ := key c.N.toNat (by omega) (by rw [h.fN]; exact h1)
  have q4 := q2
  obtain ⟨q4, q5⟩ := q4
  refine ⟨v, q1, q2, tail_found q1 q2 fun u hu hc => ?_, ?_⟩
  · have h3 := h.up (i := u + 1) (j := v) (by omega) (by omega)
    obtain ⟨c1, c2⟩ := hc
    omega
  · rw [search_at (r := v + 1)]
    · omega
    · rw [h.first]; omega
    · intro k hk
      have := q3 k (by omega)
      omega
    · intro _; omega
end Go.Proofs

set_option linter.unusedVariables false
namespace Go.Proofs
open Go Go.Sx Go.RowKit
set_option maxHeartbeats 8000000 in
set_option synthInstance.maxHeartbeats 400000 in
set_option synthInstance.maxSize 2000 in
theorem t_si1 (xs : List Int) (x i : Int) (hi : 0 ≤ i ∧ i < xs.length) : Tri Try.prog 81 [.val (.int .i64 i), .ptr 1 0 0, .ptr 2 0 0] [SO.ints false .i64 xs, .box [.slc 0 0 xs.length none], .box [.val (.int .i64 x)]] (fun s H => s = .val (.bool (decide (xs.getD i.toNat 0 ≥ x))) ∧ H = [SO.ints false .i64 xs, .box [.slc 0 0 xs.length none], .box [.val (.int .i64 x)]]) := by
  refine tri_of_w (fn := Try.f81) Try.func81 rfl (by simp [Try.f81]) ?_
  intro ρ w hρ
  refine w_seq ?_
  refine w_region ?_
  refine rw_t 4 rfl rfl rfl (do_assign rfl ?_)
  refine rw_nil ?_
  refine w_seq ?_
  refine w_env [(0, .val (.int .i64 i)), (1, .ptr 1 0 0), (2, .ptr 2 0 0)] ⟨⟨_, rfl, rfl⟩, ⟨_, rfl, rfl⟩, ⟨_, rfl, rfl⟩, trivial⟩ ?_
  refine w_draw mixed [0, 0, 3, 7, 0] [31, 63] (by kernel_rfl) (by kernel_rfl) rfl rfl rfl (hle hρ rfl) ?_
  refine ra_q (j := 0) rfl rfl rfl rfl (do_load_box rfl rfl rfl ⟨rfl, rfl⟩) (by rfl) ?_
  refine ra_q (j := 1) rfl rfl rfl rfl (do_move rfl ⟨rfl, rfl⟩) (by rfl) ?_
  refine ra_q (j := 2) rfl rfl rfl rfl (do_ix0 rfl rfl rfl (by first | omega | (simp only [ls] <;> omega)) ⟨rfl, rfl⟩) (by rfl) ?_
  refine ra_q (j := 3) rfl rfl rfl rfl (do_load_arr rfl rfl (by first | omega | (simp only [ls] <;> omega)) rfl ⟨rfl, rfl⟩) (by rfl) ?_
  refine ra_q (j := 4) rfl rfl rfl rfl (do_load_box rfl rfl rfl ⟨rfl, rfl⟩) (by rfl) ?_
  refine n_done ?_
  refine rw_t 10 rfl rfl rfl (do_bin rfl rfl rfl ?_)
  refine rw_t 4 rfl rfl rfl (do_assign rfl ?_)
  refine rw_nil ?_
  refine w_ret ?_
  exact ret_eq (.inl rfl) (.cons (res_tmp rfl) .nil) [0, 1, 2] (rfl) ⟨shR rfl, shR rfl, shR rfl, trivial⟩ rfl (pre_ok rfl)
set_option maxHeartbeats 8000000 in
set_option synthInstance.maxHeartbeats 400000 in
set_option synthInstance.maxSize 2000 in
theorem t_Search (xs : List Int) (x : Int) (hl : xs.length < 1073741824) (hm : ∀ i j : Nat, i ≤ j → j < xs.length → xs.getD i 0 ≤ xs.getD j 0) : Tri Try.prog 80 [.val (.int .i64 ((xs.length : Nat) : Int)), .func 81 [] [.ptr 1 0 0, .ptr 2 0 0]] [SO.ints false .i64 xs, .box [.slc 0 0 xs.length none], .box [.val (.int .i64 x)]] (fun s H => s = .val (.int .i64 ((searchI xs x : Nat) : Int)) ∧ H = [SO.ints false .i64 xs, .box [.slc 0 0 xs.length none], .box [.val (.int .i64 x)]]) := by
  refine tri_of_w (fn := Try.f80) Try.func80 rfl (by simp [Try.f80]) ?_
  intro ρ w hρ
  refine w_seq ?_
  refine w_region ?_
  refine rw_t 4 rfl rfl rfl (do_assign rfl ?_)
  refine rw_nil ?_
  refine w_seq ?_
  refine w_region ?_
  refine rw_t 8 rfl rfl rfl (do_move rfl ?_)
  refine rw_t 5 rfl rfl rfl (do_assign rfl ?_)
  refine rw_t 6 rfl rfl rfl (do_assign rfl ?_)
  refine rw_nil ?_
  refine w_seq ?_
  refine w_block ?_
  refine w_loopS (ι := Nat × Nat) (fun q => [(1, .func 81 [] [.ptr 1 0 0, .ptr 2 0 0]), (4, .val (.int .i64 0)), (5, .val (.int .i64 ((q.1 : Nat) : Int))), (6, .val (.int .i64 ((q.2 : Nat) : Int)))]) (fun q => [SO.ints false .i64 xs, .box [.slc 0 0 xs.length none], .box [.val (.int .i64 x)]]) (fun q => q.2 - q.1) (fun q => q.1 ≤ q.2 ∧ q.2 ≤ xs.length ∧ (∀ k, k < q.1 → xs.getD k 0 < x) ∧ (∀ k, q.2 ≤ k → k < xs.length → x ≤ xs.getD k 0)) ((0, xs.length)) [0, 1, 2] (⟨by simp, by simp, fun k hk => by simp at hk, fun k h1 h2 => by dsimp only at h1; omega⟩) ⟨shR rfl, shR rfl, shR rfl, trivial⟩ rfl (pre_ok rfl) hρ ⟨⟨_, rfl, rfl⟩, ⟨_, rfl, rfl⟩, ⟨_, rfl, rfl⟩, ⟨_, rfl, rfl⟩, trivial⟩ ?_
  rintro ⟨i, j⟩ ⟨g1, g2, g3, g4⟩
  dsimp only at g1 g2 g3 g4 ⊢
  refine w_seq ?_
  refine w_seq ?_
  refine w_region ?_
  refine rw_t 9 rfl rfl rfl (do_move rfl ?_)
  refine rw_t 10 rfl rfl rfl (do_move rfl ?_)
  refine rw_t 11 rfl rfl rfl (do_bin rfl rfl rfl ?_)
  refine rw_nil ?_
  refine w_cond rfl (fun hc1 => ?_) (fun hc1 => ?_)
  all_goals try simp only [bs] at hc1
  rotate_left
  · refine w_exit ?_
    refine w_seq ?_
    refine w_region ?_
    refine rw_t 25 rfl rfl rfl (do_move rfl ?_)
    refine rw_t 4 rfl rfl rfl (do_assign rfl ?_)
    refine rw_nil ?_
    refine w_ret ?_
    exact ret_eq (.inl rfl) (.cons (res_tmp rfl) .nil) [0, 1, 2] (Eq.symm (val_congr (by obtain rfl : i = j := (by omega); rw [search_at g2 g3 (g4 i (Nat.le_refl _))]))) ⟨shR rfl, shR rfl, shR rfl, trivial⟩ rfl (pre_ok rfl)
  refine w_skip ?_
  refine w_block ?_
  refine w_seq ?_
  refine w_region ?_
  refine rw_t 12 rfl rfl rfl (do_move rfl ?_)
  refine rw_t 13 rfl rfl rfl (do_move rfl ?_)
  refine rw_t 14 rfl rfl rfl (do_add rfl rfl (by omega) ?_)
  refine rw_t 15 rfl rfl rfl (do_conv rfl ?_)
  refine rw_as (.val (.int .u64 ((i : Int) + (j : Int)))) (val_congr (IntWalk.u64_in _ ⟨by omega, by omega⟩)) ?_
  refine rw_t 16 rfl rfl rfl (do_shr1 rfl rfl (by omega) ?_)
  refine rw_t 17 rfl rfl rfl (do_conv rfl ?_)
  refine rw_as (.val (.int .i64 (((i : Int) + (j : Int)) / 2))) (val_congr (in64 (by omega) (by omega))) ?_
  refine rw_t 7 rfl rfl rfl (do_assign rfl ?_)
  refine rw_nil ?_
  refine w_seq ?_
  refine w_region ?_
  refine rw_t 18 rfl rfl rfl (do_move rfl ?_)
  refine rw_t 19 rfl rfl rfl (do_move rfl ?_)
  refine rw_t 20 rfl rfl rfl (n_callW (X' := .val (.bool (decide (xs.getD (((i : Int) + (j : Int)) / 2).toNat 0 ≥ x)))) (H' := [SO.ints false .i64 xs, .box [.slc 0 0 xs.length none], .box [.val (.int .i64 x)]]) rfl rfl (t_si1 (xs := xs) (x := x) (i := (((i : Int) + (j : Int)) / 2)) (by omega)) [0, 1, 2] ⟨.inr ⟨_, rfl, srv⟩, shR rfl, shR rfl, trivial⟩ rfl rfl ⟨fun h => (by cases h), ⟨fun h => .inl rfl, ⟨fun h => .inl rfl, (fun y hy => by simp at hy)⟩⟩⟩ rfl rfl ?_)
  refine rw_t 21 rfl rfl rfl (do_not rfl ?_)
  refine rw_nil ?_
  refine w_cond rfl (fun hc2 => ?_) (fun hc2 => ?_)
  all_goals try simp only [bs] at hc2
  · -- region 5
    refine w_region ?_
    refine rw_t 22 rfl rfl rfl (do_move rfl ?_)
    refine rw_t 23 rfl rfl rfl (do_add rfl rfl (by omega) ?_)
    refine rw_t 5 rfl rfl rfl (do_assign rfl ?_)
    refine rw_nil ?_
    refine ⟨((((i : Int) + (j : Int)) / 2).toNat + 1, j), [0, 1, 2], by dsimp only; omega, ⟨by dsimp only; omega, g2, fun k hk => by have := hm k (((i : Int) + (j : Int)) / 2).toNat (by dsimp only at hk; omega) (by omega); omega, g4⟩, ⟨shR rfl, shR rfl, shR rfl, trivial⟩, rfl, pre_ok rfl, ⟨⟨_, rfl, rfl⟩, ⟨_, rfl, rfl⟩, ⟨_, rfl, Eq.symm (val_congr (by dsimp only; omega))⟩, ⟨_, rfl, rfl⟩, trivial⟩⟩
  · -- region 6
    refine w_region ?_
    refine rw_t 24 rfl rfl rfl (do_move rfl ?_)
    refine rw_t 6 rfl rfl rfl (do_assign rfl ?_)
    refine rw_nil ?_
    refine ⟨(i, (((i : Int) + (j : Int)) / 2).toNat), [0, 1, 2], by dsimp only; omega, ⟨by dsimp only; omega, by dsimp only; omega, g3, fun k h1 h2 => by have := hm (((i : Int) + (j : Int)) / 2).toNat k (by dsimp only at h1; omega) h2; omega⟩, ⟨shR rfl, shR rfl, shR rfl, trivial⟩, rfl, pre_ok rfl, ⟨⟨_, rfl, rfl⟩, ⟨_, rfl, rfl⟩, ⟨_, rfl, rfl⟩, ⟨_, rfl, Eq.symm (val_congr (by dsimp only; omega))⟩, trivial⟩⟩
set_option maxHeartbeats 8000000 in
set_option synthInstance.maxHeartbeats 400000 in
set_option synthInstance.maxSize 2000 in
theorem t_SearchInts (xs : List Int) (x : Int) (hl : xs.length < 1073741824) (hm : ∀ i j : Nat, i ≤ j → j < xs.length → xs.getD i 0 ≤ xs.getD j 0) : Tri Try.prog 62 [.slc 0 0 xs.length none, .val (.int .i64 x)] [SO.ints false .i64 xs] (fun s H => s = .val (.int .i64 ((searchI xs x : Nat) : Int)) ∧ H = [SO.ints false .i64 xs]) := by
  refine tri_of_w (fn := Try.f62) Try.func62 rfl (by simp [Try.f62]) ?_
  intro ρ w hρ
  refine w_seq ?_
  refine w_region ?_
  refine rw_t 2 rfl rfl rfl (n_box (n := 1) rfl rfl rfl ?_)
  refine rw_t 3 rfl rfl rfl (n_box (n := 2) rfl rfl rfl ?_)
  refine rw_t 4 rfl rfl rfl (do_assign rfl ?_)
  refine rw_nil ?_
  refine w_seq ?_
  refine w_region ?_
  refine rw_t 5 rfl rfl rfl (do_load_box rfl rfl rfl ?_)
  refine rw_t 6 rfl rfl rfl (do_len rfl ?_)
  refine rw_t 7 rfl rfl rfl (do_makefunc rfl rfl ?_)
  refine rw_t 8 rfl rfl rfl (n_callW (X' := .val (.int .i64 ((searchI xs x : Nat) : Int))) (H' := [SO.ints false .i64 xs, .box [.slc 0 0 xs.length none], .box [.val (.int .i64 x)]]) rfl rfl (t_Search (xs := xs) (x := x) (hl) (hm)) [0, 1, 2] ⟨.inr ⟨_, rfl, srv⟩, shR rfl, shR rfl, trivial⟩ rfl rfl ⟨fun h => (by cases h), ⟨fun h => .inl rfl, ⟨fun h => .inl rfl, (fun y hy => by simp at hy)⟩⟩⟩ rfl rfl ?_)
  refine rw_t 4 rfl rfl rfl (do_assign rfl ?_)
  refine rw_nil ?_
  refine w_ret ?_
  exact ret_eq (.inl rfl) (.cons (res_tmp rfl) .nil) [0] (rfl) ⟨shR rfl, trivial⟩ rfl (pre_ok rfl)
end Go.Proofs

set_option linter.unusedVariables false
namespace Go.Proofs
open Go Go.Sx Go.RowKit
abbrev encEvent (e : Event) : List Value := [.int .i64 e.who, .int .u8 e.what, .int .i64 e.u, .int .i64 e.arc, .int .i64 e.d, .int .i64 e.h, .int .i64 e.low]
abbrev Event.none : Event := ⟨0, 0, 0, 0, 0, 0, 0⟩
abbrev SO.events (own : Bool) (xs : List Event) : SO := .arr Event own 7 encEvent Event.none xs
def gE (p : Pre) (v : Int) : Int := p.Ex.getD v.toNat 0
/-- As many numbers as there should be. -/
structure PreLen (c : Csr) (p : Pre) : Prop where
  res : p.Res.length = c.Head.length
  ex : p.Ex.length = c.N.toNat
  h : p.H.length = c.N.toNat
structure EvIn (e : Event) : Prop where
  u : In64 e.u
  arc : In64 e.arc
  d : In64 e.d
  h : In64 e.h
  low : In64 e.low
def pushE (c : Csr) (p : Pre) (e : Event) : Int :=
  if e.arc < c.First.getD e.u.toNat 0 ∨ e.arc ≥ c.First.getD (e.u + 1).toNat 0 then 2
  else if e.d < 1 ∨ e.d > p.Ex.getD e.u.toNat 0 ∨ e.d > p.Res.getD e.arc.toNat 0 ∨ e.h ≠ p.H.getD e.u.toNat 0 ∨ e.h ≤ e.low then 30 else 0
def liftE (c : Csr) (p : Pre) (e : Event) : Int := if e.h ≤ p.H.getD e.u.toNat 0 ∨ e.h > 2 * c.N then 30 else 0
/-- P9.1: may a move be done? -/
def legalE (c : Csr) (p : Pre) (e : Event) : Int :=
  if (e.what ≠ 1 ∧ e.what ≠ 2) ∨ e.u < 0 ∨ e.u ≥ c.N ∨ e.u = c.S ∨ e.u = c.T then 2
  else if e.what = 2 then liftE c p e else pushE c p e
def subAt (l : List Int) (i : Int) (x : Int) : List Int := l.set i.toNat (l.getD i.toNat 0 - x)
/-- P9.2: what comes of a move that may be done. -/
def doesP (c : Csr) (p : Pre) (e : Event) : Pre :=
  if e.what = 2 then ⟨p.Res, p.Ex, p.H.set e.u.toNat e.h⟩
  else ⟨addAt (subAt p.Res e.arc e.d) (c.Rev.getD e.arc.toNat 0) e.d, addAt (subAt p.Ex e.u e.d) (c.Head.getD e.arc.toNat 0) e.d, p.H⟩
end Go.Proofs

set_option linter.unusedVariables false
namespace Go.Proofs
open Go Go.Sx Go.RowKit
theorem dec_of {b : Bool} {P Q : Prop} [Decidable P] (h : b = true ↔ Q) (k : P ↔ Q) : decide P = b := by
  by_cases hp : P
  · rw [decide_eq_true hp]; exact (h.2 (k.1 hp)).symm
  · rw [decide_eq_false hp]
    cases b with
    | false => rfl
    | true => exact (hp (k.2 (h.1 rfl))).elim
/-- A row each of whose residual arcs has its partner. -/
structure CsrG (c : Csr) : Prop extends CsrT c where
  rne : ∀ a, a < c.Head.length → (c.Rev.getD a 0).toNat ≠ a
  rrv : ∀ a, a < c.Head.length → c.Rev.getD (c.Rev.getD a 0).toNat 0 = a
  rbk : ∀ a, a < c.Head.length → c.Back.getD (c.Rev.getD a 0).toNat false = !(c.Back.getD a false)
  rtl : ∀ a : Nat, a < c.Head.length → tailOf c a = c.Head.getD (c.Rev.getD a 0).toNat 0
theorem most_rev {c : Csr} (h : CsrG c) {a : Nat} (ha : a < c.Head.length) : mostOf c (c.Rev.getD a 0).toNat = mostOf c a := by
  unfold mostOf
  rw [h.rrv a ha, Int.toNat_natCast]; omega
/-- The excess that what is left of the first arcs says. -/
def exK (c : Csr) (res : List Int) : Nat → Int → Int
  | 0, _ => 0
  | k + 1, v => exK c res k v + (if c.Back.getD k false = true then (if tailOf c k = v then res.getD k 0 else 0) - (if c.Head.getD k 0 = v then res.getD k 0 else 0) else 0)
def exOf (c : Csr) (res : List Int) (v : Int) : Int := exK c res c.Head.length v
def pairsP (c : Csr) (res : List Int) : Prop := ∀ a : Nat, a < c.Head.length → 0 ≤ res.getD a 0 ∧ res.getD a 0 ≤ mostOf c a ∧ res.getD (c.Rev.getD a 0).toNat 0 = mostOf c a - res.getD a 0
instance (c : Csr) (res : List Int) : Decidable (pairsP c res) := by unfold pairsP; infer_instance
def excessP (c : Csr) (p : Pre) : Prop := ∀ v : Nat, v < c.N.toNat → p.Ex.getD v 0 = exOf c p.Res v ∧ ((v : Int) ≠ c.S → 0 ≤ p.Ex.getD v 0)
instance (c : Csr) (p : Pre) : Decidable (excessP c p) := by unfold excessP; infer_instance
def highP (c : Csr) (p : Pre) : Prop := ∀ v : Nat, v < c.N.toNat → 0 ≤ p.H.getD v 0 ∧ p.H.getD v 0 ≤ 2 * c.N
instance (c : Csr) (p : Pre) : Decidable (highP c p) := by unfold highP; infer_instance
def heightsP (c : Csr) (p : Pre) : Prop := highP c p ∧ p.H.getD c.S.toNat 0 = c.N ∧ p.H.getD c.T.toNat 0 = 0
instance (c : Csr) (p : Pre) : Decidable (heightsP c p) := by unfold heightsP; infer_instance
def lenP (c : Csr) (p : Pre) : Prop := p.Res.length = c.Head.length ∧ p.Ex.length = c.N.toNat ∧ p.H.length = c.N.toNat
instance (c : Csr) (p : Pre) : Decidable (lenP c p) := by unfold lenP; infer_instance
/-- P9.1: a sound state. -/
def rightP (c : Csr) (p : Pre) : Prop := lenP c p ∧ heightsP c p ∧ pairsP c p.Res ∧ excessP c p
instance (c : Csr) (p : Pre) : Decidable (rightP c p) := by unfold rightP; infer_instance

theorem exK_bound {c : Csr} {res : List Int} {M : Int} (hM : 0 ≤ M) (hr : ∀ a, a < c.Head.length → 0 ≤ res.getD a 0 ∧ res.getD a 0 ≤ M) : ∀ k, k ≤ c.Head.length → ∀ v, -(k * M) ≤ exK c res k v ∧ exK c res k v ≤ k * M
  | 0, _, v => by simp [exK]
  | k + 1, hk, v => by
    have h1 := exK_bound hM hr k (by omega) v
    have h2 := hr k (by omega)
    simp only [exK]
    have e : ((k + 1 : Nat) : Int) * M = k * M + M := by rw [Int.natCast_add, Int.add_mul]; simp
    rw [e]
    split
    · split <;> split <;> omega
    · omega
theorem exK_in {c : Csr} (h : CsrT c) {res : List Int} (hr : ∀ a, a < c.Head.length → 0 ≤ res.getD a 0 ∧ res.getD a 0 ≤ mostOf c a) {k : Nat} (hk : k ≤ c.Head.length) (v : Int) : -2305843009213693952 ≤ exK c res k v ∧ exK c res k v ≤ 2305843009213693952 := by
  have h1 := exK_bound (M := 1125899906842624) (by omega) (fun a ha => ⟨(hr a ha).1, Int.le_trans (hr a ha).2 (h.capv a ha)⟩) k hk v
  have h2 := h.small
  have h3 : (k : Int) * 1125899906842624 ≤ 2048 * 1125899906842624 := Int.mul_le_mul_of_nonneg_right (by omega) (by omega)
  omega
theorem exK_set {c : Csr} {res : List Int} {i : Nat} (hi : i < res.length) (x : Int) (v : Int) : ∀ k, exK c (res.set i x) k v = exK c res k v + (if i < k ∧ c.Back.getD i false = true then (if tailOf c i = v then x - res.getD i 0 else 0) - (if c.Head.getD i 0 = v then x - res.getD i 0 else 0) else 0)
  | 0 => by rw [if_neg (by omega)]; simp only [exK]; rfl
  | k + 1 => by
    simp only [exK]
    rw [exK_set hi x v k, getD_set _ _ _ _ hi]
    by_cases hik : i = k
    · subst hik
      cases hb : c.Back.getD i false <;> simp only [Nat.lt_irrefl, Nat.lt_succ_self, true_and, false_and, if_true, if_false, and_true, and_false, Bool.false_eq_true] <;> first | omega | (split <;> split <;> omega)
    · rw [if_neg hik]
      by_cases hb : i < k ∧ c.Back.getD i false = true
      · rw [if_pos hb, if_pos (show i < k + 1 ∧ c.Back.getD i false = true from ⟨by omega, hb.2⟩)]; omega
      · rw [if_neg hb, if_neg (show ¬ (i < k + 1 ∧ c.Back.getD i false = true) from fun q => hb ⟨by omega, q.2⟩)]; omega
/-- What a push does to the excesses. -/
theorem ex_push {c : Csr} (h : CsrG c) {res : List Int} (hl : res.length = c.Head.length) {a : Int} (ha : 0 ≤ a ∧ a < c.Head.length) (d v : Int) :
    exOf c (addAt (subAt res a d) (c.Rev.getD a.toNat 0) d) v = exOf c res v - (if tailOf c a = v then d else 0) + (if c.Head.getD a.toNat 0 = v then d else 0) := by
  obtain ⟨a, rfl⟩ := Int.eq_ofNat_of_zero_le ha.1
  have ha' : a < c.Head.length := by omega
  have hv := h.rv a ha'
  have hne := h.rne a ha'
  have hbk := h.rbk a ha'
  have hrr := h.rrv a ha'
  have ht := h.rtl a ha'
  have ht2 := h.rtl (c.Rev.getD a 0).toNat (by omega)
  have hv' : (c.Rev.getD a 0).toNat < c.Head.length := by omega
  rw [hrr] at ht2
  rw [Int.toNat_natCast] at ht2
  unfold exOf addAt subAt
  rw [Int.toNat_natCast]
  rw [exK_set (by rw [List.length_set]; omega), exK_set (by omega), getD_set _ _ _ _ (by omega), if_neg (Ne.symm hne), ht, ht2]
  cases hb : c.Back.getD a false with
  | true =>
    rw [hb] at hbk
    simp only [hbk, ha', hv', Bool.not_true, Bool.not_false, and_true, true_and, and_false, if_true, if_false, Bool.false_eq_true]
    split <;> split <;> omega
  | false =>
    rw [hb] at hbk
    simp only [hbk, ha', hv', Bool.not_true, Bool.not_false, and_true, true_and, and_false, if_true, if_false, Bool.false_eq_true]
    split <;> split <;> omega
theorem legal_u {c : Csr} {p : Pre} {e : Event} (h : legalE c p e = 0) : (e.what = 1 ∨ e.what = 2) ∧ 0 ≤ e.u ∧ e.u < c.N ∧ e.u ≠ c.S ∧ e.u ≠ c.T := by
  unfold legalE at h
  split at h
  · cases h
  · omega
theorem legal_lift {c : Csr} {p : Pre} {e : Event} (h : legalE c p e = 0) (hw : e.what = 2) : p.H.getD e.u.toNat 0 < e.h ∧ e.h ≤ 2 * c.N := by
  have hu := legal_u h
  unfold legalE at h
  rw [if_neg (by omega), if_pos hw] at h
  unfold liftE at h
  split at h
  · cases h
  · omega
theorem legal_push {c : Csr} {p : Pre} {e : Event} (h : legalE c p e = 0) (hw : e.what ≠ 2) : c.First.getD e.u.toNat 0 ≤ e.arc ∧ e.arc < c.First.getD (e.u.toNat + 1) 0 ∧ 1 ≤ e.d ∧ e.d ≤ p.Ex.getD e.u.toNat 0 ∧ e.d ≤ p.Res.getD e.arc.toNat 0 ∧ e.h = p.H.getD e.u.toNat 0 ∧ e.low < e.h := by
  have hu := legal_u h
  unfold legalE at h
  rw [if_neg (by omega), if_neg hw] at h
  unfold pushE at h
  have hmt : (e.u + 1).toNat = e.u.toNat + 1 := by omega
  rw [hmt] at h
  split at h
  · cases h
  · split at h
    · cases h
    · omega
theorem tail_of_arc {c : Csr} (h : CsrT c) {u a : Int} (hu : 0 ≤ u ∧ u < c.N) (h1 : c.First.getD u.toNat 0 ≤ a) (h2 : a < c.First.getD (u.toNat + 1) 0) : 0 ≤ a ∧ a < c.Head.length ∧ tailOf c a = u := by
  have hm := h.mono u.toNat (by omega)
  refine ⟨by omega, by omega, ?_⟩
  rw [tail_found (i := u.toNat) (by omega) ⟨h1, h2⟩ fun v hv hc => ?_]
  · omega
  · have := h.up (i := v + 1) (j := u.toNat) (by omega) (by omega)
    obtain ⟨c1, c2⟩ := hc
    omega
/-- A sound state stays sound. -/
theorem right_does {c : Csr} (h : CsrG c) {p : Pre} (hp : rightP c p) {e : Event} (hl : legalE c p e = 0) : rightP c (doesP c p e) := by
  have hu := legal_u hl
  obtain ⟨⟨l1, l2, l3⟩, ⟨k1, k2, k3⟩, hpair, hex⟩ := hp
  have hn := h.n
  have hS := h.s
  have hT := h.t
  unfold doesP
  by_cases hw : e.what = 2
  · rw [if_pos hw]
    have hq := legal_lift hl hw
    refine ⟨⟨l1, l2, by simp [l3]⟩, ⟨?_, ?_, ?_⟩, hpair, hex⟩
    · intro v hv
      dsimp only
      rw [getD_set _ _ _ _ (by omega)]
      have := k1 v hv
      have := k1 e.u.toNat (by omega)
      split <;> omega
    · dsimp only; rw [getD_set _ _ _ _ (by omega), if_neg (by omega)]; exact k2
    · dsimp only; rw [getD_set _ _ _ _ (by omega), if_neg (by omega)]; exact k3
  · rw [if_neg hw]
    obtain ⟨a1, a2, a3, a4, a5, a6, a7⟩ := legal_push hl hw
    obtain ⟨t1, t2, t3⟩ := tail_of_arc h.toCsrT ⟨hu.2.1, hu.2.2.1⟩ a1 a2
    have hA : e.arc.toNat < c.Head.length := by omega
    have hv := h.rv e.arc.toNat hA
    have hne := h.rne e.arc.toNat hA
    have hrr := h.rrv e.arc.toNat hA
    have hhd := h.hd e.arc.toNat hA
    have hp1 := hpair e.arc.toNat hA
    have hp2 := hpair (c.Rev.getD e.arc.toNat 0).toNat (by omega)
    have hmr := most_rev h hA
    refine ⟨⟨by simp [addAt, subAt, l1], by simp [addAt, subAt, l2], l3⟩, ⟨k1, k2, k3⟩, ?_, ?_⟩
    · have hget : ∀ j : Nat, (addAt (subAt p.Res e.arc e.d) (c.Rev.getD e.arc.toNat 0) e.d).getD j 0 = p.Res.getD j 0 + (if (c.Rev.getD e.arc.toNat 0).toNat = j then e.d else 0) - (if e.arc.toNat = j then e.d else 0) := by
        intro j
        unfold addAt subAt
        rw [getD_set _ _ _ _ (by rw [List.length_set]; omega), getD_set _ _ _ _ (by omega), getD_set _ _ _ _ (by omega), if_neg (Ne.symm hne)]
        by_cases h1 : (c.Rev.getD e.arc.toNat 0).toNat = j
        · rw [if_pos h1, if_pos h1, if_neg (by omega), h1]; omega
        · rw [if_neg h1, if_neg h1]
          by_cases h2 : e.arc.toNat = j
          · rw [if_pos h2, if_pos h2, h2]; omega
          · rw [if_neg h2, if_neg h2]; omega
      intro b hb
      dsimp only
      rw [hget, hget]
      have hq := hpair b hb
      have hrv := h.rv b hb
      have hrb := h.rrv b hb
      by_cases h1 : (c.Rev.getD e.arc.toNat 0).toNat = b
      · have hb2 : (c.Rev.getD b 0).toNat = e.arc.toNat := by rw [← h1, hrr, Int.toNat_natCast]
        rw [h1] at hmr hp1
        rw [hb2] at hq ⊢
        rw [if_pos h1, if_neg (show ¬ e.arc.toNat = b by omega), if_neg hne]
        simp only [if_true]
        omega
      · by_cases h2 : e.arc.toNat = b
        · rw [← h2] at hq hrb ⊢
          simp only [if_neg hne, if_neg (Ne.symm hne), if_true]
          omega
        · rw [if_neg h1, if_neg h2, if_neg (fun q => ?_), if_neg (fun q => ?_)]
          · omega
          · rw [← q] at hrb
            exact h1 (by omega)
          · rw [← q] at hrb
            omega
    · intro v hv'
      dsimp only
      rw [ex_push h l1 ⟨t1, t2⟩, t3]
      have h1 := hex v hv'
      have h2 := hex e.u.toNat (by omega)
      have hget : (addAt (subAt p.Ex e.u e.d) (c.Head.getD e.arc.toNat 0) e.d).getD v 0 = p.Ex.getD v 0 - (if e.u = (v : Int) then e.d else 0) + (if c.Head.getD e.arc.toNat 0 = (v : Int) then e.d else 0) := by
        unfold addAt subAt
        rw [getD_set _ _ _ _ (by rw [List.length_set]; omega), getD_set _ _ _ _ (by omega), getD_set _ _ _ _ (by omega)]
        by_cases h1 : (c.Head.getD e.arc.toNat 0).toNat = v
        · rw [if_pos h1, if_pos (show c.Head.getD e.arc.toNat 0 = (v : Int) by omega)]
          by_cases h2 : e.u = (v : Int)
          · rw [if_pos h2, if_pos (by omega)]; have : e.u.toNat = v := by omega
            rw [this]
          · rw [if_neg h2, if_neg (by omega), h1]; omega
        · rw [if_neg h1, if_neg (show ¬ c.Head.getD e.arc.toNat 0 = (v : Int) by omega)]
          by_cases h2 : e.u = (v : Int)
          · rw [if_pos h2, if_pos (by omega)]; have : e.u.toNat = v := by omega
            rw [this]; omega
          · rw [if_neg h2, if_neg (by omega)]; omega
      rw [hget]
      refine ⟨by omega, fun hvs => ?_⟩
      have h4 := h1.2 hvs
      by_cases h3 : e.u = (v : Int)
      · rw [if_pos h3]
        have : e.u.toNat = v := by omega
        rw [this] at a4
        split <;> omega
      · rw [if_neg h3]; split <;> omega
end Go.Proofs

set_option linter.unusedVariables false
namespace Go.Proofs
open Go Go.Sx Go.RowKit
/-- A small net: what the statements make of any. -/
structure Small (n : Net) : Prop extends NetOK n where
  sz : n.N ≤ 64 ∧ n.arcs.length ≤ 64
  prod : n.N.toNat * (2 * n.arcs.length) ≤ 2048
  caps : ∀ a ∈ n.arcs, a.cap ≤ 1125899906842624
theorem first_at (n : Net) {v : Nat} (hv : v ≤ n.N.toNat) : (makeC n).First.getD v 0 = ((rowsOf n v).length : Int) := by
  show (firstOf n n.N.toNat ++ [((rows n).length : Int)]).getD v 0 = _
  have hl := firstOf_len n n.N.toNat
  simp only [List.getD]
  rcases Nat.eq_or_lt_of_le hv with h | h
  · subst h
    rw [List.getElem?_append_right (by omega), hl, Nat.sub_self]; rfl
  · rw [List.getElem?_append_left (by omega)]
    simp [firstOf, h]
theorem rowsOf_pre (n : Net) {v w : Nat} (h : v ≤ w) : rowsOf n v <+: rowsOf n w := by
  induction w with
  | zero => have : v = 0 := by omega
            subst this; exact List.prefix_refl _
  | succ w ih =>
    rcases Nat.eq_or_lt_of_le h with h1 | h1
    · subst h1; exact List.prefix_refl _
    · exact (ih (by omega)).trans (by rw [rowsOf_next]; exact List.prefix_append _ _)
theorem rowsOf_mono (n : Net) {v w : Nat} (h : v ≤ w) : (rowsOf n v).length ≤ (rowsOf n w).length := (rowsOf_pre n h).length_le
theorem getD_pre {α : Type} {l m : List α} (h : l <+: m) (d : α) {i : Nat} (hi : i < l.length) : m.getD i d = l.getD i d := by
  obtain ⟨t, rfl⟩ := h
  simp only [List.getD, List.getElem?_append_left hi]
theorem make_ok {n : Net} (h : Small n) : CsrOK (makeC n) where
  toCsrLen := make_len h.toNetOK h.sz
  s := h.s
  t := h.t
  st := h.st
  mono := fun v hv => by
    have hv' : v < n.N.toNat := hv
    rw [first_at n (by omega), first_at n (by omega), make_head]
    have h1 := rowsOf_mono n (show v ≤ v + 1 by omega)
    have h2 : (rowsOf n (v + 1)).length ≤ (rows n).length := rowsOf_mono n (show v + 1 ≤ n.N.toNat by omega)
    omega
  hd := fun a ha => by
    rw [make_head] at ha
    show 0 ≤ ((rows n).map Row.hd).getD a 0 ∧ ((rows n).map Row.hd).getD a 0 < n.N
    rw [getD_hd]
    obtain ⟨k, hk, hne, hc⟩ := row_cases h.toNetOK ha
    have := h.arc hk
    rcases hc with e | e <;> rw [e] <;> dsimp only <;> omega
  rv := fun a ha => by
    rw [make_head] at ha ⊢
    obtain ⟨j, h1, h2, h3, h4, h5⟩ := rev_spec h.toNetOK ha
    rw [h3]; omega
  cp := fun a ha => by
    rw [make_head] at ha
    obtain ⟨k, hk, hne, hc⟩ := row_cases h.toNetOK ha
    have := h.arc hk
    have h1 := cap_le h.toNetOK hk
    have harc : ((rows n).getD a Row.none).arc = (k : Int) := by rcases hc with e | e <;> rw [e]
    rw [most_spec h.toNetOK ha harc]
    refine ⟨?_, by omega, h1⟩
    show 0 ≤ ((rows n).map Row.cap).getD a 0
    rw [getD_cap]
    rcases hc with e | e <;> rw [e] <;> dsimp only <;> omega
theorem make_t {n : Net} (h : Small n) : CsrT (makeC n) where
  toCsrOK := make_ok h
  f0 := by rw [first_at n (by omega)]; rfl
  fN := by
    have : (makeC n).N.toNat = n.N.toNat := rfl
    rw [this, first_at n (Nat.le_refl _), make_head]; rfl
  small := by
    rw [make_head]
    exact Nat.le_trans (rowsOf_len n n.N.toNat) h.prod
  capv := fun a ha => by
    rw [make_head] at ha
    obtain ⟨k, hk, hne, hc⟩ := row_cases h.toNetOK ha
    have harc : ((rows n).getD a Row.none).arc = (k : Int) := by rcases hc with e | e <;> rw [e]
    rw [most_spec h.toNetOK ha harc]
    exact h.caps _ (getD_mem _ hk)
theorem tail_end {n : Net} (h : Small n) {i : Nat} (hi : i < (rows n).length) : tailOf (makeC n) i = endOf n ((rows n).getD i Row.none).key := by
  obtain ⟨v, h1, ⟨h2, h3⟩, h4, _⟩ := (make_t h).tail_at (a := (i : Int)) (by omega) (by rw [make_head]; omega)
  have hv : v < n.N.toNat := h1
  rw [first_at n (by omega)] at h2 h3
  rw [h4]
  have e1 : (rows n).getD i Row.none = (rowsOf n (v + 1)).getD i Row.none := getD_pre (rowsOf_pre n (show v + 1 ≤ n.N.toNat by omega)) _ (by omega)
  rw [e1]
  have hlen : i < (rowsOf n (v + 1)).length := by omega
  have hm : (rowsOf n (v + 1)).getD i Row.none ∈ rowsAt n v n.arcs.length := by
    rw [rowsOf_next] at hlen ⊢
    simp only [List.getD]
    rw [List.getElem?_append_right (by omega)]
    rw [List.length_append] at hlen
    have : i - (rowsOf n v).length < (rowsAt n v n.arcs.length).length := by omega
    rw [List.getElem?_eq_getElem this]
    exact List.getElem_mem _
  exact (end_rowsAt hm).symm
theorem make_g {n : Net} (h : Small n) : CsrG (makeC n) where
  toCsrT := make_t h
  rne := fun a ha => by
    rw [make_head] at ha
    obtain ⟨j, h1, h2, h3, h4, h5⟩ := rev_spec h.toNetOK ha
    rw [h3]; omega
  rrv := fun a ha => by
    rw [make_head] at ha
    obtain ⟨j, h1, h2, h3, h4, h5⟩ := rev_spec h.toNetOK ha
    obtain ⟨j', k1, k2, k3, k4, k5⟩ := rev_spec h.toNetOK h1
    rw [h3, Int.toNat_natCast, k3]
    have : j' = a := key_inj k1 ha (by unfold Row.key; rw [k4, k5, h4, h5]; simp)
    rw [this]
  rbk := fun a ha => by
    rw [make_head] at ha
    obtain ⟨j, h1, h2, h3, h4, h5⟩ := rev_spec h.toNetOK ha
    rw [h3, Int.toNat_natCast]
    show ((rows n).map Row.back).getD j false = !(((rows n).map Row.back).getD a false)
    rw [getD_back, getD_back, h5]
  rtl := fun a ha => by
    rw [make_head] at ha
    obtain ⟨j, h1, h2, h3, h4, h5⟩ := rev_spec h.toNetOK ha
    rw [tail_end h ha, h3, Int.toNat_natCast]
    show _ = ((rows n).map Row.hd).getD j 0
    rw [getD_hd]
    obtain ⟨k, hk, hne, hc⟩ := row_cases h.toNetOK ha
    obtain ⟨k', hk', hne', hc'⟩ := row_cases h.toNetOK h1
    rcases hc with e | e <;> rcases hc' with e' | e' <;> rw [e, e'] at h4 h5 <;> dsimp only at h4 h5
    · cases h5
    · have : k' = k := by omega
      subst this; rw [e, e']; simp [endOf, Row.key]
    · have : k' = k := by omega
      subst this; rw [e, e']; simp [endOf, Row.key]
    · cases h5
/-! ### The first state -/
def sumN (F : Nat → Int) : Nat → Int
  | 0 => 0
  | k + 1 => sumN F k + F k
theorem sumN_add (F G : Nat → Int) : ∀ k, sumN (fun i => F i + G i) k = sumN F k + sumN G k
  | 0 => rfl
  | k + 1 => by simp only [sumN, sumN_add F G k]; omega
theorem sumN_zero {F : Nat → Int} : ∀ {k : Nat}, (∀ i, i < k → F i = 0) → sumN F k = 0
  | 0, _ => rfl
  | k + 1, h => by simp only [sumN]; rw [sumN_zero (fun i hi => h i (by omega)), h k (by omega)]; rfl
theorem sumN_congr {F G : Nat → Int} : ∀ {k : Nat}, (∀ i, i < k → F i = G i) → sumN F k = sumN G k
  | 0, _ => rfl
  | k + 1, h => by simp only [sumN]; rw [sumN_congr (fun i hi => h i (by omega)), h k (by omega)]
theorem sumN_one {F : Nat → Int} {j : Nat} : ∀ {k : Nat}, j < k → (∀ i, i < k → i ≠ j → F i = 0) → sumN F k = F j
  | k + 1, hj, h => by
    simp only [sumN]
    rcases Nat.eq_or_lt_of_le (Nat.le_of_lt_succ hj) with e | hlt
    · subst e; rw [sumN_zero (fun i hi => h i (by omega) (by omega))]; omega
    · rw [sumN_one hlt (fun i hi hne => h i (by omega) hne), h k (by omega) (by omega)]; omega
def sumL (g : Row → Int) (l : List Row) : Int := (l.map g).sum
theorem sumL_app (g : Row → Int) (l m : List Row) : sumL g (l ++ m) = sumL g l + sumL g m := by simp [sumL]
/-- What an arc brings a vertex, by its residual arcs. -/
def gX (n : Net) (f : List Int) (v : Int) (r : Row) : Int := if r.back = true then (if endOf n r.key = v then f.getD r.arc.toNat 0 else 0) - (if r.hd = v then f.getD r.arc.toNat 0 else 0) else 0
theorem exK_sumL {n : Net} (h : Small n) (f : List Int) (v : Int) : ∀ k, k ≤ (rows n).length → exK (makeC n) (resOf (makeC n) f (makeC n).Head.length) k v = sumL (gX n f v) ((rows n).take k)
  | 0, _ => rfl
  | k + 1, hk => by
    simp only [exK]
    rw [exK_sumL h f v k (by omega), take_snoc Row.none (show k < (rows n).length by omega), sumL_app, tail_end h (by omega)]
    congr 1
    show (if ((rows n).map Row.back).getD k false = true then _ else _) = (List.map (gX n f v) [(rows n).getD k Row.none]).sum
    have e2 : (makeC n).Head.getD k 0 = ((rows n).getD k Row.none).hd := getD_hd _ _
    have e3 : (makeC n).Arc.getD k 0 = ((rows n).getD k Row.none).arc := getD_arc _ _
    have e4 : (makeC n).Back.getD k false = ((rows n).getD k Row.none).back := getD_back _ _
    rw [getD_back, e2]
    simp only [List.map_cons, List.map_nil, List.sum_cons, List.sum_nil, Int.add_zero, gX]
    cases hb : ((rows n).getD k Row.none).back with
    | false => rfl
    | true =>
      have e1 : (resOf (makeC n) f (makeC n).Head.length).getD k 0 = f.getD ((rows n).getD k Row.none).arc.toNat 0 := by
        have hlt : k < (makeC n).Head.length := by rw [make_head]; omega
        have : (resOf (makeC n) f (makeC n).Head.length).getD k 0 = resAt (makeC n) f k := by
          simp [resOf, List.getD, hlt]
        rw [this]
        unfold resAt flowAt
        rw [e4, hb, if_pos rfl, e3]
      rw [e1]
theorem rowsOf_sum (n : Net) (g : Row → Int) : ∀ v, sumL g (rowsOf n v) = sumN (fun u => sumL g (rowsAt n (u : Int) n.arcs.length)) v
  | 0 => rfl
  | v + 1 => by rw [rowsOf_next, sumL_app, rowsOf_sum n g v]; rfl
/-- What the first arcs bring a vertex. -/
def arcX (n : Net) (f : List Int) (v : Int) : Nat → Int
  | 0 => 0
  | k + 1 => arcX n f v k + (if (n.arcs.getD k Arc.none).frm = (n.arcs.getD k Arc.none).to then 0 else (if (n.arcs.getD k Arc.none).to = v then f.getD k 0 else 0) - (if (n.arcs.getD k Arc.none).frm = v then f.getD k 0 else 0))
theorem row_sum (n : Net) (f : List Int) (v u : Int) (k : Nat) : sumL (gX n f v) (rowOf u (n.arcs.getD k Arc.none) k) = if (n.arcs.getD k Arc.none).frm = (n.arcs.getD k Arc.none).to then 0 else if (n.arcs.getD k Arc.none).to = u then (if (n.arcs.getD k Arc.none).to = v then f.getD k 0 else 0) - (if (n.arcs.getD k Arc.none).frm = v then f.getD k 0 else 0) else 0 := by
  unfold rowOf
  by_cases h1 : (n.arcs.getD k Arc.none).frm = (n.arcs.getD k Arc.none).to
  · rw [if_pos h1, if_pos h1]; rfl
  · rw [if_neg h1, if_neg h1]
    by_cases h2 : (n.arcs.getD k Arc.none).frm = u
    · rw [if_pos h2]
      by_cases h3 : (n.arcs.getD k Arc.none).to = u
      · exact (h1 (by omega)).elim
      · rw [if_neg h3, if_neg h3]; simp [sumL, gX]
    · rw [if_neg h2]
      by_cases h3 : (n.arcs.getD k Arc.none).to = u
      · rw [if_pos h3, if_pos h3]; simp [sumL, gX, endOf, Row.key]
      · rw [if_neg h3, if_neg h3]; rfl
theorem all_sum {n : Net} (h : NetOK n) (f : List Int) (v : Int) : ∀ m, m ≤ n.arcs.length → sumN (fun u => sumL (gX n f v) (rowsAt n (u : Int) m)) n.N.toNat = arcX n f v m
  | 0, _ => sumN_zero (fun i _ => rfl)
  | m + 1, hm => by
    have h1 := all_sum h f v m (by omega)
    have h2 : sumN (fun u => sumL (gX n f v) (rowsAt n (u : Int) (m + 1))) n.N.toNat = sumN (fun u => sumL (gX n f v) (rowsAt n (u : Int) m) + sumL (gX n f v) (rowOf (u : Int) (n.arcs.getD m Arc.none) m)) n.N.toNat :=
      sumN_congr (fun i _ => by rw [rowsAt_next, sumL_app])
    rw [h2, sumN_add, h1]
    simp only [arcX]
    congr 1
    have ha := h.arc (show m < n.arcs.length by omega)
    by_cases hc : (n.arcs.getD m Arc.none).frm = (n.arcs.getD m Arc.none).to
    · rw [if_pos hc]
      exact sumN_zero (fun i _ => by rw [row_sum, if_pos hc])
    · rw [if_neg hc]
      rw [sumN_one (j := (n.arcs.getD m Arc.none).to.toNat) (by omega) (fun i hi hne => by rw [row_sum, if_neg hc, if_neg (by omega)])]
      rw [row_sum, if_neg hc, if_pos (by omega)]
theorem ex_arcs {n : Net} (h : Small n) (f : List Int) (v : Int) : exOf (makeC n) (resOf (makeC n) f (makeC n).Head.length) v = arcX n f v n.arcs.length := by
  unfold exOf
  rw [show (makeC n).Head.length = (rows n).length from make_head n, ← make_head n, exK_sumL h f v _ (by rw [make_head]; exact Nat.le_refl _), make_head, List.take_length]
  show sumL _ (rowsOf n n.N.toNat) = _
  rw [rowsOf_sum, all_sum h.toNetOK f v _ (Nat.le_refl _)]
end Go.Proofs

set_option linter.unusedVariables false
namespace Go.Proofs
open Go Go.Sx Go.RowKit
open Classical in
/-- Nets that are made of any are small. -/
theorem some_small (n : Net) {va ar : Int} (hva : 2 ≤ va ∧ va ≤ 64) (har : 0 ≤ ar ∧ ar ≤ 64) (hp : va.toNat * (2 * ar.toNat) ≤ 2048) (hn : In64 n.N ∧ In64 n.S ∧ In64 n.T) (hin : ∀ a ∈ n.arcs, In64 a.frm ∧ In64 a.to ∧ In64 a.cap) : Small (someNet n va ar) := by
  have hN : 2 ≤ someN n va ∧ someN n va ≤ va := by
    unfold someN
    have h0 := among_lo n.N (va - 1)
    have h1 := among_hi n.N (n := va - 1) (by omega)
    omega
  have hlen : (someNet n va ar).arcs.length ≤ ar.toNat := by simp only [someNet, List.length_map, List.length_take]; omega
  have hS : 0 ≤ someS n va ∧ someS n va < someN n va := ⟨among_lo _ _, among_hi _ (by omega)⟩
  have hA : ∀ a ∈ (someNet n va ar).arcs, 0 ≤ a.frm ∧ a.frm < someN n va ∧ 0 ≤ a.to ∧ a.to < someN n va ∧ 0 ≤ a.cap ∧ a.cap ≤ 1125899906842624 := by
    intro a ha
    simp only [someNet, List.mem_map] at ha
    obtain ⟨b, hb, rfl⟩ := ha
    have hb' := hin b (List.mem_of_mem_take hb)
    refine ⟨among_lo _ _, among_hi _ (by omega), among_lo _ _, among_hi _ (by omega), ?_⟩
    show 0 ≤ capOf b.cap ∧ capOf b.cap ≤ _
    unfold capOf
    have h0 : 0 ≤ (if b.cap < 0 then -(b.cap + 1) else b.cap) := by split <;> omega
    rw [Int.tmod_eq_emod_of_nonneg h0]
    omega
  have hT : 0 ≤ someT n va ∧ someT n va < someN n va ∧ someS n va ≠ someT n va := by
    have h1 := among_lo n.T (someN n va)
    have h2 := among_hi n.T (n := someN n va) (by omega)
    unfold someT
    split
    · rename_i he
      have h3 : (someS n va + 1).tmod (someN n va) = (someS n va + 1) % (someN n va) := Int.tmod_eq_emod_of_nonneg (by omega)
      rw [h3]
      rcases Int.lt_or_le (someS n va + 1) (someN n va) with h4 | h4
      · rw [Int.emod_eq_of_lt (by omega) h4]; omega
      · have h5 : someS n va + 1 = someN n va := by omega
        rw [h5, Int.emod_self]; omega
    · rename_i he
      exact ⟨h1, h2, he⟩
  have hcs : ∀ l : List Arc, (∀ a ∈ l, 0 ≤ a.cap ∧ a.cap ≤ 1125899906842624) → capSum l ≤ l.length * 1125899906842624 := by
    intro l
    induction l with
    | nil => intro _; simp [capSum]
    | cons a l ih =>
      intro hl
      have h1 := ih (fun b hb => hl b (by simp [hb]))
      have h2 := hl a (by simp)
      have h3 : capSum (a :: l) = a.cap + capSum l := by simp [capSum]
      rw [h3]
      have h4 : ((a :: l).length : Int) = (l.length : Int) + 1 := by simp
      rw [h4, Int.add_mul]
      omega
  refine ⟨⟨hN.1, by show someN n va ≤ 4096; omega, by omega, hS, ⟨hT.1, hT.2.1⟩, hT.2.2, fun a ha => ?_, ?_⟩, ⟨by show someN n va ≤ 64; omega, by omega⟩, ?_, fun a ha => (hA a ha).2.2.2.2.2⟩
  · have := hA a ha
    show 0 ≤ a.frm ∧ a.frm < someN n va ∧ 0 ≤ a.to ∧ a.to < someN n va ∧ 0 ≤ a.cap
    omega
  · have h1 := hcs _ (fun a ha => (hA a ha).2.2.2.2)
    have h2 : ((someNet n va ar).arcs.length : Int) * 1125899906842624 ≤ 64 * 1125899906842624 := Int.mul_le_mul_of_nonneg_right (by omega) (by omega)
    omega
  · have : (someNet n va ar).N.toNat ≤ va.toNat := by show (someN n va).toNat ≤ _; omega
    exact Nat.le_trans (Nat.mul_le_mul this (by omega)) hp
end Go.Proofs

set_option linter.unusedVariables false
namespace Go.Proofs
open Go Go.Sx Go.RowKit
set_option maxHeartbeats 8000000 in
set_option synthInstance.maxHeartbeats 400000 in
set_option synthInstance.maxSize 2000 in
theorem t_Len (c : Csr) : Tri Try.prog 61 [.agg [.val (.int .i64 c.N), .val (.int .i64 c.S), .val (.int .i64 c.T), .slc 0 0 c.First.length none, .slc 1 0 c.Head.length none, .slc 2 0 c.Rev.length none, .slc 3 0 c.Cap.length none, .slc 4 0 c.Arc.length none, .slc 5 0 c.Back.length none]] [SO.ints false .i64 c.First, SO.ints false .i64 c.Head, SO.ints false .i64 c.Rev, SO.ints false .i64 c.Cap, SO.ints false .i64 c.Arc, SO.bools false c.Back] (fun s H => s = .val (.int .i64 ((c.Head.length : Nat) : Int)) ∧ H = [SO.ints false .i64 c.First, SO.ints false .i64 c.Head, SO.ints false .i64 c.Rev, SO.ints false .i64 c.Cap, SO.ints false .i64 c.Arc, SO.bools false c.Back]) := by
  refine tri_of_w (fn := Try.f61) Try.func61 rfl (by simp [Try.f61]) ?_
  intro ρ w hρ
  refine w_seq ?_
  refine w_region ?_
  refine rw_t 1 rfl rfl rfl (n_box_agg (n := 6) rfl rfl ?_)
  refine rw_t 2 rfl rfl rfl (do_assign rfl ?_)
  refine rw_nil ?_
  refine w_seq ?_
  refine w_region ?_
  refine rw_t 3 rfl rfl rfl (do_fieldaddr rfl ?_)
  refine rw_t 4 rfl rfl rfl (do_load_box rfl rfl rfl ?_)
  refine rw_t 5 rfl rfl rfl (do_len rfl ?_)
  refine rw_t 2 rfl rfl rfl (do_assign rfl ?_)
  refine rw_nil ?_
  refine w_ret ?_
  exact ret_eq (.inl rfl) (.cons (res_tmp rfl) .nil) [0, 1, 2, 3, 4, 5] (rfl) ⟨shR rfl, shR rfl, shR rfl, shR rfl, shR rfl, shR rfl, trivial⟩ rfl (pre_ok rfl)
set_option maxHeartbeats 8000000 in
set_option synthInstance.maxHeartbeats 400000 in
set_option synthInstance.maxSize 2000 in
theorem t_Tail (c : Csr) (a : Int) (h : CsrT c) (ha : 0 ≤ a ∧ a < c.Head.length) : Tri Try.prog 31 [.agg [.val (.int .i64 c.N), .val (.int .i64 c.S), .val (.int .i64 c.T), .slc 0 0 c.First.length none, .slc 1 0 c.Head.length none, .slc 2 0 c.Rev.length none, .slc 3 0 c.Cap.length none, .slc 4 0 c.Arc.length none, .slc 5 0 c.Back.length none], .val (.int .i64 a)] [SO.ints false .i64 c.First, SO.ints false .i64 c.Head, SO.ints false .i64 c.Rev, SO.ints false .i64 c.Cap, SO.ints false .i64 c.Arc, SO.bools false c.Back] (fun s H => s = .tup [.val (.int .i64 (tailOf c a)), .val (.bool true)] ∧ H = [SO.ints false .i64 c.First, SO.ints false .i64 c.Head, SO.ints false .i64 c.Rev, SO.ints false .i64 c.Cap, SO.ints false .i64 c.Arc, SO.bools false c.Back]) := by
  refine tri_of_w (fn := Try.f31) Try.func31 rfl (by simp [Try.f31]) ?_
  intro ρ w hρ
  refine w_seq ?_
  refine w_region ?_
  refine rw_t 2 rfl rfl rfl (n_box_agg (n := 6) rfl rfl ?_)
  refine rw_t 4 rfl rfl rfl (do_assign rfl ?_)
  refine rw_t 5 rfl rfl rfl (do_assign rfl ?_)
  refine rw_nil ?_
  refine w_seq ?_
  have hn := h.n
  have hf := h.first
  have hhd := h.head
  have hrl := h.rev
  have hcl := h.cap
  have hal := h.arc
  have hbl := h.back
  refine w_seqB 13 ((a < 0 ∨ a ≥ ((c.Head.length : Nat) : Int))) ?_ ?_
  · -- region 1
    refine w_region ?_
    refine rw_t 6 rfl rfl rfl (do_move rfl ?_)
    refine rw_t 7 rfl rfl rfl (do_bin rfl rfl rfl ?_)
    refine rw_t 8 rfl rfl rfl (do_move rfl ?_)
    refine rw_case 8 rfl (fun g1 => ?_) (fun g1 => ?_)
    · have kg1 := g1
      try simp only [bs] at kg1
      refine rw_gf 9 2 8 false rfl rfl rfl rfl rfl rfl (by rw [g1]; decide) ?_
      refine rw_gf 10 2 8 false rfl rfl rfl rfl rfl rfl (by rw [g1]; decide) ?_
      refine rw_gf 11 2 8 false rfl rfl rfl rfl rfl rfl (by rw [g1]; decide) ?_
      refine rw_gf 12 2 8 false rfl rfl rfl rfl rfl rfl (by rw [g1]; decide) ?_
      refine rw_t 13 rfl rfl rfl (do_pick_t rfl g1 rfl ?_)
      refine rw_nil ?_
      refine ⟨rfl, ⟨_, rfl, by first | (simp; done) | (simp only [bs]; omega) | (simp [*]; done) | (simp; omega) | (constructor <;> intro h <;> simp_all <;> omega)⟩, ?_⟩
      repeat (refine ⟨⟨_, rfl, rfl⟩, ?_⟩)
      exact trivial
    · have kg1 := g1
      try simp only [bs] at kg1
      refine rw_gt 9 2 8 false rfl rfl rfl rfl rfl rfl g1 (do_move rfl ?_)
      refine rw_gt 10 2 8 false rfl rfl rfl rfl rfl rfl g1 (n_load_boxagg [_, _, _, _, _, _, _, _, _] rfl rfl (Nat.le_of_ble_eq_true rfl) rfl ?_)
      refine rw_gt 11 2 8 false rfl rfl rfl rfl rfl rfl g1 (do_callR (X' := .val (.int .i64 ((c.Head.length : Nat) : Int))) rfl rfl (t_Len (c := c)) [0, 1, 2, 3, 4, 5] ⟨.inr ⟨_, rfl, srv⟩, .inr ⟨_, rfl, srv⟩, .inr ⟨_, rfl, srv⟩, .inr ⟨_, rfl, srv⟩, .inr ⟨_, rfl, srv⟩, .inr ⟨_, rfl, srv⟩, trivial⟩ rfl rfl rfl ?_)
      refine rw_gt 12 2 8 false rfl rfl rfl rfl rfl rfl g1 (do_bin rfl rfl rfl ?_)
      refine rw_t 13 rfl rfl rfl (do_pick_f rfl g1 rfl ?_)
      refine rw_nil ?_
      refine ⟨rfl, ⟨_, rfl, by first | (simp; done) | (simp only [bs]; omega) | (simp [*]; done) | (simp; omega) | (constructor <;> intro h <;> simp_all <;> omega)⟩, ?_⟩
      repeat (refine ⟨⟨_, rfl, rfl⟩, ?_⟩)
      exact trivial
  intro b1 hb1
  refine w_condP hb1 rfl (fun hc1 => ?_) (fun hc1 => ?_)
  · exfalso; omega
  refine w_skip ?_
  refine w_seq ?_
  obtain ⟨v, q1, q2, q3, q4⟩ := h.tail_at ha.1 ha.2
  refine w_region ?_
  refine rw_t 14 rfl rfl rfl (do_fieldaddr rfl ?_)
  refine rw_t 15 rfl rfl rfl (do_load_box rfl rfl rfl ?_)
  refine rw_t 16 rfl rfl rfl (do_move rfl ?_)
  refine rw_t 17 rfl rfl rfl (do_add rfl rfl (by omega) ?_)
  refine rw_t 18 rfl rfl rfl (do_callR (X' := .val (.int .i64 (((searchI c.First (a + 1)) : Nat) : Int))) rfl rfl (t_SearchInts (xs := c.First) (x := (a + 1)) (by omega) (fun i j hij hj => h.up hij (by omega))) [0] ⟨.inr ⟨_, rfl, srv⟩, trivial⟩ rfl rfl rfl ?_)
  refine rw_t 19 rfl rfl rfl (do_sub rfl rfl (by omega) ?_)
  refine rw_as (.val (.int .i64 (tailOf c a))) (val_congr (by rw [q3]; exact q4)) ?_
  refine rw_t 4 rfl rfl rfl (do_assign rfl ?_)
  refine rw_t 5 rfl rfl rfl (do_assign rfl ?_)
  refine rw_nil ?_
  refine w_ret ?_
  exact ret_eq (.inl rfl) (.cons (res_tmp rfl) (.cons (res_tmp rfl) .nil)) [0, 1, 2, 3, 4, 5] (rfl) ⟨shR rfl, shR rfl, shR rfl, shR rfl, shR rfl, shR rfl, trivial⟩ rfl (pre_ok rfl)
set_option maxHeartbeats 8000000 in
set_option synthInstance.maxHeartbeats 400000 in
set_option synthInstance.maxSize 2000 in
theorem t_CloneLongs (xs : List Int) (hl : xs.length ≤ 17592186044416) : Tri Try.prog 43 [.slc 0 0 xs.length none] [SO.ints false .i64 xs] (fun s H => s = .slc 1 0 xs.length none ∧ H = [SO.ints false .i64 xs, SO.ints true .i64 xs]) := by
  refine tri_of_w (fn := Try.f43) Try.func43 rfl (by simp [Try.f43]) ?_
  intro ρ w hρ
  refine w_seq ?_
  refine w_region ?_
  refine rw_t 2 rfl rfl rfl (do_assign rfl ?_)
  refine rw_nil ?_
  refine w_seq ?_
  refine w_seq ?_
  refine w_region ?_
  refine rw_t 3 rfl rfl rfl (do_move rfl ?_)
  refine rw_t 4 rfl rfl rfl (do_slnil (rt := 0) rfl (fun nb1 hnb1 => ?_))
  refine rw_nil ?_
  refine w_cond rfl (fun hc1 => ?_) (fun hc1 => ?_)
  all_goals try simp only [bs] at hc1
  · refine w_seq ?_
    refine w_region ?_
    refine rw_t 2 rfl rfl rfl (do_assign rfl ?_)
    refine rw_nil ?_
    have hz := hnb1 hc1
    refine n_ghost Int 1 (encI .i64) 0 (fun _ => rfl) (fun _ _ h => by simp [encI] at h; subst h; rfl) ?_
    refine w_nilE 2 1 0 rfl ?_
    refine w_ret ?_
    exact ret_eq (.inl rfl) (.cons (res_tmp rfl) .nil) [0, 1] (congrArg (fun n => SV.slc 1 0 n none) hz.symm) ⟨shR rfl, .inr ⟨_, rfl, .inl (congrArg (SO.ints true .i64) (List.eq_nil_of_length_eq_zero hz))⟩, trivial⟩ rfl (pre_ok rfl)
  refine w_skip ?_
  refine w_seq ?_
  refine w_region ?_
  refine rw_t 5 rfl rfl rfl (n_bs (nm := 1) Int (encI .i64) 0 [] rfl rfl rfl rfl rfl (fun _ => rfl) (fun _ _ h => by simp [encI] at h; subst h; rfl) rfl ?_)
  refine rw_t 6 rfl rfl rfl (do_move rfl ?_)
  refine rw_t 7 rfl rfl rfl (n_app_e (nm := 2) rfl rfl rfl rfl rfl (by first | omega | (simp only [ls] <;> omega)) (by omega) (by omega) rfl ?_)
  refine rw_t 2 rfl rfl rfl (do_assign rfl ?_)
  refine rw_nil ?_
  refine w_ret ?_
  exact ret_eq (.inl rfl) (.cons (res_tmp rfl) .nil) [0, 2] (rfl) ⟨shR rfl, shR rfl, trivial⟩ rfl (pre_ok rfl)
set_option maxHeartbeats 8000000 in
set_option synthInstance.maxHeartbeats 400000 in
set_option synthInstance.maxSize 2000 in
theorem t_CloneInts (xs : List Int) (hl : xs.length ≤ 17592186044416) : Tri Try.prog 50 [.slc 0 0 xs.length none] [SO.ints false .i64 xs] (fun s H => s = .slc 1 0 xs.length none ∧ H = [SO.ints false .i64 xs, SO.ints true .i64 xs]) := by
  refine tri_of_w (fn := Try.f50) Try.func50 rfl (by simp [Try.f50]) ?_
  intro ρ w hρ
  refine w_seq ?_
  refine w_region ?_
  refine rw_t 2 rfl rfl rfl (do_assign rfl ?_)
  refine rw_nil ?_
  refine w_seq ?_
  refine w_seq ?_
  refine w_region ?_
  refine rw_t 3 rfl rfl rfl (do_move rfl ?_)
  refine rw_t 4 rfl rfl rfl (do_slnil (rt := 0) rfl (fun nb1 hnb1 => ?_))
  refine rw_nil ?_
  refine w_cond rfl (fun hc1 => ?_) (fun hc1 => ?_)
  all_goals try simp only [bs] at hc1
  · refine w_seq ?_
    refine w_region ?_
    refine rw_t 2 rfl rfl rfl (do_assign rfl ?_)
    refine rw_nil ?_
    have hz := hnb1 hc1
    refine n_ghost Int 1 (encI .i64) 0 (fun _ => rfl) (fun _ _ h => by simp [encI] at h; subst h; rfl) ?_
    refine w_nilE 2 1 0 rfl ?_
    refine w_ret ?_
    exact ret_eq (.inl rfl) (.cons (res_tmp rfl) .nil) [0, 1] (congrArg (fun n => SV.slc 1 0 n none) hz.symm) ⟨shR rfl, .inr ⟨_, rfl, .inl (congrArg (SO.ints true .i64) (List.eq_nil_of_length_eq_zero hz))⟩, trivial⟩ rfl (pre_ok rfl)
  refine w_skip ?_
  refine w_seq ?_
  refine w_region ?_
  refine rw_t 5 rfl rfl rfl (n_bs (nm := 1) Int (encI .i64) 0 [] rfl rfl rfl rfl rfl (fun _ => rfl) (fun _ _ h => by simp [encI] at h; subst h; rfl) rfl ?_)
  refine rw_t 6 rfl rfl rfl (do_move rfl ?_)
  refine rw_t 7 rfl rfl rfl (n_app_e (nm := 2) rfl rfl rfl rfl rfl (by first | omega | (simp only [ls] <;> omega)) (by omega) (by omega) rfl ?_)
  refine rw_t 2 rfl rfl rfl (do_assign rfl ?_)
  refine rw_nil ?_
  refine w_ret ?_
  exact ret_eq (.inl rfl) (.cons (res_tmp rfl) .nil) [0, 2] (rfl) ⟨shR rfl, shR rfl, trivial⟩ rfl (pre_ok rfl)
set_option maxHeartbeats 8000000 in
set_option synthInstance.maxHeartbeats 400000 in
set_option synthInstance.maxSize 2000 in
theorem t_Copy (p : Pre) (hl : p.Res.length ≤ 17592186044416 ∧ p.Ex.length ≤ 17592186044416 ∧ p.H.length ≤ 17592186044416) : Tri Try.prog 16 [.agg [.slc 0 0 p.Res.length none, .slc 1 0 p.Ex.length none, .slc 2 0 p.H.length none]] [SO.ints false .i64 p.Res, SO.ints false .i64 p.Ex, SO.ints false .i64 p.H] (fun s H => s = .agg [.slc 3 0 p.Res.length none, .slc 4 0 p.Ex.length none, .slc 5 0 p.H.length none] ∧ H = [SO.ints false .i64 p.Res, SO.ints false .i64 p.Ex, SO.ints false .i64 p.H, SO.ints true .i64 p.Res, SO.ints true .i64 p.Ex, SO.ints true .i64 p.H]) := by
  refine tri_of_w (fn := Try.f16) Try.func16 rfl (by simp [Try.f16]) ?_
  intro ρ w hρ
  refine w_seq ?_
  refine w_region ?_
  refine rw_t 1 rfl rfl rfl (n_box_agg (n := 3) rfl rfl ?_)
  refine rw_t 2 rfl rfl rfl (n_alloc (n := 4) rfl ?_)
  refine rw_nil ?_
  refine w_seq ?_
  refine w_draw mixed [0, 1, 3, 0, 8, 31, 0, 64] [255, 511, 1023] (by kernel_rfl) (by kernel_rfl) rfl rfl rfl (hle hρ rfl) ?_
  refine ra_q (j := 0) rfl rfl rfl rfl (do_fieldaddr rfl ⟨rfl, rfl⟩) (by rfl) ?_
  refine ra_q (j := 1) rfl rfl rfl rfl (do_load_box rfl rfl rfl ⟨rfl, rfl⟩) (by rfl) ?_
  refine ra_n (j := 2) rfl rfl rfl rfl (g_callN (X' := .slc 5 0 p.Res.length none) (N' := [SO.ints true .i64 p.Res]) rfl rfl (t_CloneLongs (xs := p.Res) (by omega)) [0] ⟨.inr ⟨_, rfl, srv⟩, trivial⟩ rfl rfl rfl rfl rfl ⟨rfl, rfl⟩) (by rfl) (by rfl) (by rfl) ?_
  refine ra_q (j := 3) rfl rfl rfl rfl (do_fieldaddr rfl ⟨rfl, rfl⟩) (by rfl) ?_
  refine ra_q (j := 4) rfl rfl rfl rfl (do_load_box rfl rfl rfl ⟨rfl, rfl⟩) (by rfl) ?_
  refine ra_n (j := 5) rfl rfl rfl rfl (g_callN (X' := .slc 6 0 p.Ex.length none) (N' := [SO.ints true .i64 p.Ex]) rfl rfl (t_CloneLongs (xs := p.Ex) (by omega)) [1] ⟨.inr ⟨_, rfl, srv⟩, trivial⟩ rfl rfl rfl rfl rfl ⟨rfl, rfl⟩) (by rfl) (by rfl) (by rfl) ?_
  refine ra_q (j := 6) rfl rfl rfl rfl (do_fieldaddr rfl ⟨rfl, rfl⟩) (by rfl) ?_
  refine ra_q (j := 7) rfl rfl rfl rfl (do_load_box rfl rfl rfl ⟨rfl, rfl⟩) (by rfl) ?_
  refine n_done ?_
  refine rw_t 11 rfl rfl rfl (n_callN (X' := .slc 7 0 p.H.length none) (N' := [SO.ints true .i64 p.H]) rfl rfl (t_CloneInts (xs := p.H) (by omega)) [2] ⟨.inr ⟨_, rfl, srv⟩, trivial⟩ rfl rfl rfl rfl rfl ?_)
  refine rw_t 12 rfl rfl rfl (do_build (out := [_, _, _]) rfl rfl ?_)
  refine rw_u rfl rfl (n_store_whole rfl rfl rfl rfl rfl rfl ?_)
  refine rw_nil ?_
  refine w_ret ?_
  exact ret_eq (.inl rfl) (.cons (res_agg rfl rfl (Nat.le_of_ble_eq_true rfl)) .nil) [0, 1, 2, 5, 6, 7] (rfl) ⟨shR rfl, shR rfl, shR rfl, shR rfl, shR rfl, shR rfl, trivial⟩ rfl (pre_ok rfl)
end Go.Proofs

set_option linter.unusedVariables false
namespace Go.Proofs
open Go Go.Sx Go.RowKit
/-- So much from an arc to its reverse. -/
def moveP (c : Csr) (p : Pre) (a : Int) (d : Int) : Pre :=
  ⟨addAt (subAt p.Res a d) (c.Rev.getD a.toNat 0) d, addAt (subAt p.Ex (c.Head.getD (c.Rev.getD a.toNat 0).toNat 0) d) (c.Head.getD a.toNat 0) d, p.H⟩
def In1 (x : Int) : Prop := -9223372036854775808 ≤ x ∧ x < 9223372036854775808
structure MoveIn (c : Csr) (p : Pre) (a d : Int) : Prop where
  r1 : In1 (p.Res.getD a.toNat 0 - d)
  r2 : In1 ((subAt p.Res a d).getD (c.Rev.getD a.toNat 0).toNat 0 + d)
  x1 : In1 (p.Ex.getD (c.Head.getD (c.Rev.getD a.toNat 0).toNat 0).toNat 0 - d)
  x2 : In1 ((subAt p.Ex (c.Head.getD (c.Rev.getD a.toNat 0).toNat 0) d).getD (c.Head.getD a.toNat 0).toNat 0 + d)
set_option maxHeartbeats 8000000 in
set_option synthInstance.maxHeartbeats 400000 in
set_option synthInstance.maxSize 2000 in
theorem t_move (c : Csr) (p : Pre) (h : CsrOK c) (hp : PreLen c p) (a d : Int) (ha : 0 ≤ a ∧ a < c.Head.length) (hm : MoveIn c p a d) : Tri Try.prog 45 [.agg [.val (.int .i64 c.N), .val (.int .i64 c.S), .val (.int .i64 c.T), .slc 0 0 c.First.length none, .slc 1 0 c.Head.length none, .slc 2 0 c.Rev.length none, .slc 3 0 c.Cap.length none, .slc 4 0 c.Arc.length none, .slc 5 0 c.Back.length none], .ptr 9 0 0, .val (.int .i64 a), .val (.int .i64 d)] [SO.ints false .i64 c.First, SO.ints false .i64 c.Head, SO.ints false .i64 c.Rev, SO.ints false .i64 c.Cap, SO.ints false .i64 c.Arc, SO.bools false c.Back, SO.ints true .i64 p.Res, SO.ints true .i64 p.Ex, SO.ints true .i64 p.H, .box [.slc 6 0 p.Res.length none, .slc 7 0 p.Ex.length none, .slc 8 0 p.H.length none]] (fun s H => s = .tup [] ∧ H = [SO.ints false .i64 c.First, SO.ints false .i64 c.Head, SO.ints false .i64 c.Rev, SO.ints false .i64 c.Cap, SO.ints false .i64 c.Arc, SO.bools false c.Back, SO.ints true .i64 ((moveP c p a d).Res), SO.ints true .i64 ((moveP c p a d).Ex), SO.ints true .i64 p.H, .box [.slc 6 0 p.Res.length none, .slc 7 0 p.Ex.length none, .slc 8 0 p.H.length none]]) := by
  refine tri_of_w (fn := Try.f45) Try.func45 rfl (by simp [Try.f45]) ?_
  intro ρ w hρ
  refine w_seq ?_
  have hn := h.n
  have hf := h.first
  have hhd := h.head
  have hrl := h.rev
  have hcl := h.cap
  have hal := h.arc
  have hbl := h.back
  have hr := hp.res
  have hx := hp.ex
  have hh := hp.h
  have hv := h.rv a.toNat (by omega)
  have hd1 := h.hd a.toNat (by omega)
  have hd2 := h.hd (c.Rev.getD a.toNat 0).toNat (by omega)
  obtain ⟨m1, m2⟩ := hm.r1
  obtain ⟨m3, m4⟩ := hm.r2
  obtain ⟨m5, m6⟩ := hm.x1
  obtain ⟨m7, m8⟩ := hm.x2
  simp only [subAt] at m3 m4 m7 m8
  refine w_region ?_
  refine rw_t 4 rfl rfl rfl (n_box_agg (n := 10) rfl rfl ?_)
  refine rw_nil ?_
  refine w_seq ?_
  refine w_draw mixed [0, 1, 0, 4, 0, 28, 60] [127, 255, 511] (by kernel_rfl) (by kernel_rfl) rfl rfl rfl (hle hρ rfl) ?_
  refine ra_q (j := 0) rfl rfl rfl rfl (do_fieldaddr rfl ⟨rfl, rfl⟩) (by rfl) ?_
  refine ra_q (j := 1) rfl rfl rfl rfl (do_load_box rfl rfl rfl ⟨rfl, rfl⟩) (by rfl) ?_
  refine ra_q (j := 2) rfl rfl rfl rfl (do_fieldaddr rfl ⟨rfl, rfl⟩) (by rfl) ?_
  refine ra_q (j := 3) rfl rfl rfl rfl (do_load_box rfl rfl rfl ⟨rfl, rfl⟩) (by rfl) ?_
  refine ra_q (j := 4) rfl rfl rfl rfl (do_move rfl ⟨rfl, rfl⟩) (by rfl) ?_
  refine ra_q (j := 5) rfl rfl rfl rfl (do_ix0 rfl rfl rfl (by first | omega | (simp only [ls] <;> omega)) ⟨rfl, rfl⟩) (by rfl) ?_
  refine ra_q (j := 6) rfl rfl rfl rfl (do_load_arr rfl rfl (by first | omega | (simp only [ls] <;> omega)) rfl ⟨rfl, rfl⟩) (by rfl) ?_
  refine n_done ?_
  refine rw_t 16 rfl rfl rfl (do_ix0 rfl rfl rfl (by first | omega | (simp only [ls] <;> omega)) ?_)
  refine rw_t 17 rfl rfl rfl (do_load_arr rfl rfl (by first | omega | (simp only [ls] <;> omega)) rfl ?_)
  refine rw_t 8 rfl rfl rfl (do_assign rfl ?_)
  refine rw_nil ?_
  refine w_seq ?_
  refine w_region ?_
  refine rw_t 18 rfl rfl rfl (do_move rfl ?_)
  refine rw_t 19 rfl rfl rfl (do_nilcheck rfl ?_)
  refine rw_t 20 rfl rfl rfl (do_fieldaddr rfl ?_)
  refine rw_t 21 rfl rfl rfl (do_load_box rfl rfl rfl ?_)
  refine rw_t 22 rfl rfl rfl (do_move rfl ?_)
  refine rw_t 23 rfl rfl rfl (do_ix0 rfl rfl rfl (by first | omega | (simp only [ls] <;> omega)) ?_)
  refine rw_t 24 rfl rfl rfl (do_load_arr rfl rfl (by first | omega | (simp only [ls] <;> omega)) rfl ?_)
  refine rw_t 25 rfl rfl rfl (do_move rfl ?_)
  refine rw_t 26 rfl rfl rfl (do_sub rfl rfl (by omega) ?_)
  refine rw_t 27 rfl rfl rfl (do_ix0 rfl rfl rfl (by first | omega | (simp only [ls] <;> omega)) ?_)
  refine rw_u rfl rfl (n_store_arr (z := ((p.Res.getD a.toNat 0) - d)) rfl rfl rfl (by first | omega | (simp only [ls] <;> omega)) rfl (by decide) rfl ?_)
  refine rw_nil ?_
  refine w_seq ?_
  refine w_draw mixed [0, 1, 3, 7, 0, 16, 0, 112, 240, 511, 1023, 0] [4095, 8191, 16383] (by kernel_rfl) (by kernel_rfl) rfl rfl rfl (hle hρ rfl) ?_
  refine ra_q (j := 0) rfl rfl rfl rfl (do_move rfl ⟨rfl, rfl⟩) (by rfl) ?_
  refine ra_q (j := 1) rfl rfl rfl rfl (do_nilcheck rfl ⟨rfl, rfl⟩) (by rfl) ?_
  refine ra_q (j := 2) rfl rfl rfl rfl (do_fieldaddr rfl ⟨rfl, rfl⟩) (by rfl) ?_
  refine ra_q (j := 3) rfl rfl rfl rfl (do_load_box rfl rfl rfl ⟨rfl, rfl⟩) (by rfl) ?_
  refine ra_q (j := 4) rfl rfl rfl rfl (do_fieldaddr rfl ⟨rfl, rfl⟩) (by rfl) ?_
  refine ra_q (j := 5) rfl rfl rfl rfl (do_load_box rfl rfl rfl ⟨rfl, rfl⟩) (by rfl) ?_
  refine ra_q (j := 6) rfl rfl rfl rfl (do_move rfl ⟨rfl, rfl⟩) (by rfl) ?_
  refine ra_q (j := 7) rfl rfl rfl rfl (do_ix0 rfl rfl rfl (by first | omega | (simp only [ls] <;> omega)) ⟨rfl, rfl⟩) (by rfl) ?_
  refine ra_q (j := 8) rfl rfl rfl rfl (do_load_arr rfl rfl (by first | omega | (simp only [ls] <;> omega)) rfl ⟨rfl, rfl⟩) (by rfl) ?_
  refine ra_q (j := 9) rfl rfl rfl rfl (do_ix0 rfl rfl rfl (by first | omega | (simp only [ls] <;> omega)) ⟨rfl, rfl⟩) (by rfl) ?_
  refine ra_q (j := 10) rfl rfl rfl rfl (do_load_arr rfl rfl (by first | omega | (simp only [ls] <;> omega)) rfl ⟨rfl, rfl⟩) (by rfl) ?_
  refine ra_q (j := 11) rfl rfl rfl rfl (do_move rfl ⟨rfl, rfl⟩) (by rfl) ?_
  refine n_done ?_
  refine rw_t 40 rfl rfl rfl (do_add rfl rfl (by omega) ?_)
  refine rw_t 41 rfl rfl rfl (do_ix0 rfl rfl rfl (by first | omega | (simp only [ls] <;> omega)) ?_)
  refine rw_u rfl rfl (n_store_arr (z := (((p.Res.set a.toNat ((p.Res.getD a.toNat 0) - d)).getD ((c.Rev.getD a.toNat 0).toNat) 0) + d)) rfl rfl rfl (by first | omega | (simp only [ls] <;> omega)) rfl (by decide) rfl ?_)
  refine rw_nil ?_
  refine w_seq ?_
  refine w_region ?_
  refine rw_t 42 rfl rfl rfl (do_move rfl ?_)
  refine rw_t 43 rfl rfl rfl (do_nilcheck rfl ?_)
  refine rw_t 44 rfl rfl rfl (do_fieldaddr rfl ?_)
  refine rw_t 45 rfl rfl rfl (do_load_box rfl rfl rfl ?_)
  refine rw_t 46 rfl rfl rfl (do_move rfl ?_)
  refine rw_t 47 rfl rfl rfl (do_ix0 rfl rfl rfl (by first | omega | (simp only [ls] <;> omega)) ?_)
  refine rw_t 48 rfl rfl rfl (do_load_arr rfl rfl (by first | omega | (simp only [ls] <;> omega)) rfl ?_)
  refine rw_t 49 rfl rfl rfl (do_move rfl ?_)
  refine rw_t 50 rfl rfl rfl (do_sub rfl rfl (by omega) ?_)
  refine rw_t 51 rfl rfl rfl (do_ix0 rfl rfl rfl (by first | omega | (simp only [ls] <;> omega)) ?_)
  refine rw_u rfl rfl (n_store_arr (z := ((p.Ex.getD ((c.Head.getD ((c.Rev.getD a.toNat 0).toNat) 0).toNat) 0) - d)) rfl rfl rfl (by first | omega | (simp only [ls] <;> omega)) rfl (by decide) rfl ?_)
  refine rw_nil ?_
  refine w_draw mixed [0, 1, 3, 7, 0, 16, 0, 112, 240, 511, 1023, 0] [4095, 8191, 16383] (by kernel_rfl) (by kernel_rfl) rfl rfl rfl (hle hρ rfl) ?_
  refine ra_q (j := 0) rfl rfl rfl rfl (do_move rfl ⟨rfl, rfl⟩) (by rfl) ?_
  refine ra_q (j := 1) rfl rfl rfl rfl (do_nilcheck rfl ⟨rfl, rfl⟩) (by rfl) ?_
  refine ra_q (j := 2) rfl rfl rfl rfl (do_fieldaddr rfl ⟨rfl, rfl⟩) (by rfl) ?_
  refine ra_q (j := 3) rfl rfl rfl rfl (do_load_box rfl rfl rfl ⟨rfl, rfl⟩) (by rfl) ?_
  refine ra_q (j := 4) rfl rfl rfl rfl (do_fieldaddr rfl ⟨rfl, rfl⟩) (by rfl) ?_
  refine ra_q (j := 5) rfl rfl rfl rfl (do_load_box rfl rfl rfl ⟨rfl, rfl⟩) (by rfl) ?_
  refine ra_q (j := 6) rfl rfl rfl rfl (do_move rfl ⟨rfl, rfl⟩) (by rfl) ?_
  refine ra_q (j := 7) rfl rfl rfl rfl (do_ix0 rfl rfl rfl (by first | omega | (simp only [ls] <;> omega)) ⟨rfl, rfl⟩) (by rfl) ?_
  refine ra_q (j := 8) rfl rfl rfl rfl (do_load_arr rfl rfl (by first | omega | (simp only [ls] <;> omega)) rfl ⟨rfl, rfl⟩) (by rfl) ?_
  refine ra_q (j := 9) rfl rfl rfl rfl (do_ix0 rfl rfl rfl (by first | omega | (simp only [ls] <;> omega)) ⟨rfl, rfl⟩) (by rfl) ?_
  refine ra_q (j := 10) rfl rfl rfl rfl (do_load_arr rfl rfl (by first | omega | (simp only [ls] <;> omega)) rfl ⟨rfl, rfl⟩) (by rfl) ?_
  refine ra_q (j := 11) rfl rfl rfl rfl (do_move rfl ⟨rfl, rfl⟩) (by rfl) ?_
  refine n_done ?_
  refine rw_t 64 rfl rfl rfl (do_add rfl rfl (by omega) ?_)
  refine rw_t 65 rfl rfl rfl (do_ix0 rfl rfl rfl (by first | omega | (simp only [ls] <;> omega)) ?_)
  refine rw_u rfl rfl (n_store_arr (z := (((p.Ex.set ((c.Head.getD ((c.Rev.getD a.toNat 0).toNat) 0).toNat) ((p.Ex.getD ((c.Head.getD ((c.Rev.getD a.toNat 0).toNat) 0).toNat) 0) - d)).getD ((c.Head.getD a.toNat 0).toNat) 0) + d)) rfl rfl rfl (by first | omega | (simp only [ls] <;> omega)) rfl (by decide) rfl ?_)
  refine rw_nil ?_
  exact ret_eq (.inr rfl) (.nil) [0, 1, 2, 3, 4, 5, 6, 7, 8, 9] (rfl) ⟨shR rfl, shR rfl, shR rfl, shR rfl, shR rfl, shR rfl, shR rfl, shR rfl, shR rfl, shR rfl, trivial⟩ rfl (pre_ok rfl)
end Go.Proofs

set_option linter.unusedVariables false
namespace Go.Proofs
open Go Go.Sx Go.RowKit
/-- P7.1: the first state, with k of S's arcs full on. -/
def begK (c : Csr) : Nat → Pre
  | 0 => ⟨c.Cap, List.replicate c.N.toNat 0, (List.replicate c.N.toNat 0).set c.S.toNat c.N⟩
  | k + 1 => moveP c (begK c k) (c.First.getD c.S.toNat 0 + k) ((begK c k).Res.getD (c.First.getD c.S.toNat 0 + k).toNat 0)
def begC (c : Csr) : Pre := begK c (c.First.getD (c.S + 1).toNat 0 - c.First.getD c.S.toNat 0).toNat
theorem moveP_len (c : Csr) (p : Pre) (a d : Int) : (moveP c p a d).Res.length = p.Res.length ∧ (moveP c p a d).Ex.length = p.Ex.length ∧ (moveP c p a d).H.length = p.H.length := by
  simp [moveP, addAt, subAt]
theorem begK_len {c : Csr} (h : CsrLen c) : ∀ k, PreLen c (begK c k)
  | 0 => ⟨h.cap, by simp [begK], by simp [begK]⟩
  | k + 1 => by
    have := begK_len h k
    obtain ⟨l1, l2, l3⟩ := moveP_len c (begK c k) (c.First.getD c.S.toNat 0 + k) ((begK c k).Res.getD (c.First.getD c.S.toNat 0 + k).toNat 0)
    exact ⟨l1.trans this.res, l2.trans this.ex, l3.trans this.h⟩
/-- The moves that the first state is made of stay within. -/
def BegIn (c : Csr) : Prop := ∀ k : Nat, k < (c.First.getD (c.S + 1).toNat 0 - c.First.getD c.S.toNat 0).toNat → MoveIn c (begK c k) (c.First.getD c.S.toNat 0 + k) ((begK c k).Res.getD (c.First.getD c.S.toNat 0 + k).toNat 0)
set_option maxHeartbeats 8000000 in
set_option synthInstance.maxHeartbeats 400000 in
set_option synthInstance.maxSize 2000 in
theorem t_arcs (c : Csr) (u : Int) : Tri Try.prog 44 [.agg [.val (.int .i64 c.N), .val (.int .i64 c.S), .val (.int .i64 c.T), .slc 0 0 c.First.length none, .slc 1 0 c.Head.length none, .slc 2 0 c.Rev.length none, .slc 3 0 c.Cap.length none, .slc 4 0 c.Arc.length none, .slc 5 0 c.Back.length none], .val (.int .i64 u)] [SO.ints false .i64 c.First, SO.ints false .i64 c.Head, SO.ints false .i64 c.Rev, SO.ints false .i64 c.Cap, SO.ints false .i64 c.Arc, SO.bools false c.Back] (fun s H => s = .func 75 [] [.ptr 6 0 0, .ptr 7 0 0] ∧ H = [SO.ints false .i64 c.First, SO.ints false .i64 c.Head, SO.ints false .i64 c.Rev, SO.ints false .i64 c.Cap, SO.ints false .i64 c.Arc, SO.bools false c.Back, .box [.val (.int .i64 c.N), .val (.int .i64 c.S), .val (.int .i64 c.T), .slc 0 0 c.First.length none, .slc 1 0 c.Head.length none, .slc 2 0 c.Rev.length none, .slc 3 0 c.Cap.length none, .slc 4 0 c.Arc.length none, .slc 5 0 c.Back.length none], .box [.val (.int .i64 u)]]) := by
  refine tri_of_w (fn := Try.f44) Try.func44 rfl (by simp [Try.f44]) ?_
  intro ρ w hρ
  refine w_seq ?_
  refine w_region ?_
  refine rw_t 2 rfl rfl rfl (n_box_agg (n := 6) rfl rfl ?_)
  refine rw_t 3 rfl rfl rfl (n_box (n := 7) rfl rfl rfl ?_)
  refine rw_t 4 rfl rfl rfl (do_assign rfl ?_)
  refine rw_nil ?_
  refine w_seq ?_
  refine w_region ?_
  refine rw_t 5 rfl rfl rfl (do_makefunc rfl rfl ?_)
  refine rw_t 4 rfl rfl rfl (do_assign rfl ?_)
  refine rw_nil ?_
  refine w_ret ?_
  exact ret_eq (.inl rfl) (.cons (res_tmp rfl) .nil) [0, 1, 2, 3, 4, 5, 6, 7] (rfl) ⟨shR rfl, shR rfl, shR rfl, shR rfl, shR rfl, shR rfl, shR rfl, shR rfl, trivial⟩ rfl (pre_ok rfl)
set_option maxHeartbeats 8000000 in
set_option synthInstance.maxHeartbeats 400000 in
set_option synthInstance.maxSize 2000 in
theorem t_Begin (c : Csr) (h : CsrT c) (hb : BegIn c) : Tri Try.prog 11 [.agg [.val (.int .i64 c.N), .val (.int .i64 c.S), .val (.int .i64 c.T), .slc 0 0 c.First.length none, .slc 1 0 c.Head.length none, .slc 2 0 c.Rev.length none, .slc 3 0 c.Cap.length none, .slc 4 0 c.Arc.length none, .slc 5 0 c.Back.length none]] [SO.ints false .i64 c.First, SO.ints false .i64 c.Head, SO.ints false .i64 c.Rev, SO.ints false .i64 c.Cap, SO.ints false .i64 c.Arc, SO.bools false c.Back] (fun s H => s = .agg [.slc 6 0 ((begC c).Res.length) none, .slc 7 0 ((begC c).Ex.length) none, .slc 8 0 ((begC c).H.length) none] ∧ H = [SO.ints false .i64 c.First, SO.ints false .i64 c.Head, SO.ints false .i64 c.Rev, SO.ints false .i64 c.Cap, SO.ints false .i64 c.Arc, SO.bools false c.Back, SO.ints true .i64 ((begC c).Res), SO.ints true .i64 ((begC c).Ex), SO.ints true .i64 ((begC c).H)]) := by
  refine tri_of_w (fn := Try.f11) Try.func11 rfl (by simp [Try.f11]) ?_
  intro ρ w hρ
  refine w_seq ?_
  have hn := h.n
  have hf := h.first
  have hhd := h.head
  have hrl := h.rev
  have hcl := h.cap
  have hal := h.arc
  have hbl := h.back
  have hS := h.s
  have hsm := h.small
  have hm := h.mono c.S.toNat (by omega)
  have hmt : (c.S + 1).toNat = c.S.toNat + 1 := by omega
  rw [← hmt] at hm
  refine w_region ?_
  refine rw_t 1 rfl rfl rfl (n_box_agg (n := 6) rfl rfl ?_)
  refine rw_t 2 rfl rfl rfl (n_alloc (n := 7) rfl ?_)
  refine rw_nil ?_
  refine w_seq ?_
  refine w_draw mixed [0, 1, 3, 0, 8, 24, 0, 64, 192, 511, 0] [2047] (by kernel_rfl) (by kernel_rfl) rfl rfl rfl (hle hρ rfl) ?_
  refine ra_q (j := 0) rfl rfl rfl rfl (do_fieldaddr rfl ⟨rfl, rfl⟩) (by rfl) ?_
  refine ra_q (j := 1) rfl rfl rfl rfl (do_load_box rfl rfl rfl ⟨rfl, rfl⟩) (by rfl) ?_
  refine ra_n (j := 2) rfl rfl rfl rfl (g_callN (X' := .slc 8 0 c.Cap.length none) (N' := [SO.ints true .i64 c.Cap]) rfl rfl (t_CloneLongs (xs := c.Cap) (by omega)) [3] ⟨.inr ⟨_, rfl, srv⟩, trivial⟩ rfl rfl rfl rfl rfl ⟨rfl, rfl⟩) (by rfl) (by rfl) (by rfl) ?_
  refine ra_q (j := 3) rfl rfl rfl rfl (do_fieldaddr rfl ⟨rfl, rfl⟩) (by rfl) ?_
  refine ra_q (j := 4) rfl rfl rfl rfl (do_load_box rfl rfl rfl ⟨rfl, rfl⟩) (by rfl) ?_
  refine ra_n (j := 5) rfl rfl rfl rfl (g_make (nm := 9) Int (encI .i64) 0 rfl rfl rfl (fun _ => rfl) (fun _ _ h => by simp [encI] at h; subst h; rfl) (by omega) (by omega) (by omega) rfl ⟨rfl, rfl⟩) (by rfl) (by rfl) (by rfl) ?_
  refine ra_q (j := 6) rfl rfl rfl rfl (do_fieldaddr rfl ⟨rfl, rfl⟩) (by rfl) ?_
  refine ra_q (j := 7) rfl rfl rfl rfl (do_load_box rfl rfl rfl ⟨rfl, rfl⟩) (by rfl) ?_
  refine ra_n (j := 8) rfl rfl rfl rfl (g_make (nm := 10) Int (encI .i64) 0 rfl rfl rfl (fun _ => rfl) (fun _ _ h => by simp [encI] at h; subst h; rfl) (by omega) (by omega) (by omega) rfl ⟨rfl, rfl⟩) (by rfl) (by rfl) (by rfl) ?_
  refine ra_q (j := 9) rfl rfl rfl rfl (do_build (out := [_, _, _]) rfl rfl ⟨rfl, rfl⟩) (by rfl) ?_
  refine ra_n (j := 10) rfl rfl rfl rfl (g_alloc (n := 11) rfl ⟨rfl, rfl⟩) (by rfl) (by rfl) (by rfl) ?_
  refine n_done ?_
  refine rw_u rfl rfl (n_store_whole rfl rfl rfl rfl rfl rfl ?_)
  refine rw_nil ?_
  refine w_seq ?_
  refine w_region ?_
  refine rw_t 15 rfl rfl rfl (do_fieldaddr rfl ?_)
  refine rw_t 16 rfl rfl rfl (do_load_box rfl rfl rfl ?_)
  refine rw_t 17 rfl rfl rfl (do_fieldaddr rfl ?_)
  refine rw_t 18 rfl rfl rfl (do_load_box rfl rfl rfl ?_)
  refine rw_t 19 rfl rfl rfl (do_fieldaddr rfl ?_)
  refine rw_t 20 rfl rfl rfl (do_load_box rfl rfl rfl ?_)
  refine rw_t 21 rfl rfl rfl (do_ix0 rfl rfl rfl (by first | omega | (simp only [ls] <;> omega)) ?_)
  refine rw_u rfl rfl (n_store_arr (z := c.N) rfl rfl rfl (by first | omega | (simp only [ls] <;> omega)) rfl (by decide) rfl ?_)
  refine rw_nil ?_
  refine w_seq ?_
  refine w_seq ?_
  refine w_region ?_
  refine rw_t 22 rfl rfl rfl (n_load_boxagg [_, _, _, _, _, _, _, _, _] rfl rfl (Nat.le_of_ble_eq_true rfl) rfl ?_)
  refine rw_t 23 rfl rfl rfl (do_fieldaddr rfl ?_)
  refine rw_t 24 rfl rfl rfl (do_load_box rfl rfl rfl ?_)
  refine rw_t 25 rfl rfl rfl (n_callN (X' := .func 75 [] [.ptr 12 0 0, .ptr 13 0 0]) (N' := [.box [.val (.int .i64 c.N), .val (.int .i64 c.S), .val (.int .i64 c.T), .slc 0 0 c.First.length none, .slc 1 0 c.Head.length none, .slc 2 0 c.Rev.length none, .slc 3 0 c.Cap.length none, .slc 4 0 c.Arc.length none, .slc 5 0 c.Back.length none], .box [.val (.int .i64 c.S)]]) rfl rfl (t_arcs (c := c) (u := c.S)) [0, 1, 2, 3, 4, 5] ⟨.inr ⟨_, rfl, srv⟩, .inr ⟨_, rfl, srv⟩, .inr ⟨_, rfl, srv⟩, .inr ⟨_, rfl, srv⟩, .inr ⟨_, rfl, srv⟩, .inr ⟨_, rfl, srv⟩, trivial⟩ rfl rfl rfl rfl rfl ?_)
  refine rw_nil ?_
  refine w_block ?_
  refine n_capB 11 1 rfl rfl ?_
  refine n_capB 11 2 rfl rfl ?_
  refine w_rf [(1, .ptr 6 0 0), (2, .ptr 7 0 0), (3, .ptr 11 0 0)] 14 [.yield 14, .ptr 12 0 0, .ptr 13 0 0] (fun q1 => [SO.ints false .i64 c.First, SO.ints false .i64 c.Head, SO.ints false .i64 c.Rev, SO.ints false .i64 c.Cap, SO.ints false .i64 c.Arc, SO.bools false c.Back, .box [.val (.int .i64 c.N), .val (.int .i64 c.S), .val (.int .i64 c.T), .slc 0 0 c.First.length none, .slc 1 0 c.Head.length none, .slc 2 0 c.Rev.length none, .slc 3 0 c.Cap.length none, .slc 4 0 c.Arc.length none, .slc 5 0 c.Back.length none], .box [.val (.slice none 0 0), .val (.slice none 0 0), .val (.slice none 0 0)], SO.ints true .i64 c.Cap, SO.ints true .i64 (List.replicate c.N.toNat 0), SO.ints true .i64 ((List.replicate c.N.toNat 0).set c.S.toNat c.N), .box [.slc 8 0 c.Cap.length none, .slc 9 0 c.N.toNat none, .slc 10 0 c.N.toNat none], .box [.val (.int .i64 c.N), .val (.int .i64 c.S), .val (.int .i64 c.T), .slc 0 0 c.First.length none, .slc 1 0 c.Head.length none, .slc 2 0 c.Rev.length none, .slc 3 0 c.Cap.length none, .slc 4 0 c.Arc.length none, .slc 5 0 c.Back.length none], .box [.val (.int .i64 c.S)], .gen [.ptr 6 0 0, .ptr 7 0 0, .ptr 11 0 0] (q1 .ready none)]) rfl rfl rfl rfl (fun _ => rfl) ⟨⟨_, rfl, rfl⟩, ⟨_, rfl, rfl⟩, ⟨_, rfl, rfl⟩, trivial⟩ (fun q1 hq1 => ?_)
  refine tri_of_w (fn := Try.f75) Try.func75 rfl (by simp [Try.f75]) ?_
  intro ρr1 wr1 hρ1
  refine w_seq ?_
  refine w_region ?_
  refine rw_t 5 rfl rfl rfl (do_fieldaddr rfl ?_)
  refine rw_t 6 rfl rfl rfl (do_load_box rfl rfl rfl ?_)
  refine rw_t 7 rfl rfl rfl (do_load_box rfl rfl rfl ?_)
  refine rw_t 8 rfl rfl rfl (do_ix0 rfl rfl rfl (by first | omega | (simp only [ls] <;> omega)) ?_)
  refine rw_t 9 rfl rfl rfl (do_load_arr rfl rfl (by first | omega | (simp only [ls] <;> omega)) rfl ?_)
  refine rw_t 4 rfl rfl rfl (do_assign rfl ?_)
  refine rw_nil ?_
  refine w_block ?_
  refine w_loopS (ι := Nat) (fun i => [(0, .yield 14), (1, .ptr 12 0 0), (2, .ptr 13 0 0), (4, .val (.int .i64 (c.First.getD c.S.toNat 0 + (i : Int))))]) (fun i => [SO.ints false .i64 c.First, SO.ints false .i64 c.Head, SO.ints false .i64 c.Rev, SO.ints false .i64 c.Cap, SO.ints false .i64 c.Arc, SO.bools false c.Back, .box [.val (.int .i64 c.N), .val (.int .i64 c.S), .val (.int .i64 c.T), .slc 0 0 c.First.length none, .slc 1 0 c.Head.length none, .slc 2 0 c.Rev.length none, .slc 3 0 c.Cap.length none, .slc 4 0 c.Arc.length none, .slc 5 0 c.Back.length none], .box [.val (.slice none 0 0), .val (.slice none 0 0), .val (.slice none 0 0)], SO.ints true .i64 ((begK c i).Res), SO.ints true .i64 ((begK c i).Ex), SO.ints true .i64 ((begK c i).H), .box [.slc 8 0 ((begK c i).Res.length) none, .slc 9 0 ((begK c i).Ex.length) none, .slc 10 0 ((begK c i).H.length) none], .box [.val (.int .i64 c.N), .val (.int .i64 c.S), .val (.int .i64 c.T), .slc 0 0 c.First.length none, .slc 1 0 c.Head.length none, .slc 2 0 c.Rev.length none, .slc 3 0 c.Cap.length none, .slc 4 0 c.Arc.length none, .slc 5 0 c.Back.length none], .box [.val (.int .i64 c.S)], .gen [.ptr 6 0 0, .ptr 7 0 0, .ptr 11 0 0] (q1 .ready none)]) (fun i => (c.First.getD (c.S + 1).toNat 0 - c.First.getD c.S.toNat 0).toNat - i) (fun i => i ≤ (c.First.getD (c.S + 1).toNat 0 - c.First.getD c.S.toNat 0).toNat) (0) [0, 1, 2, 3, 4, 5, 6, 7, 8, 9, 10, 11, 12, 13, 14] (by simp) ⟨shR rfl, shR rfl, shR rfl, shR rfl, shR rfl, shR rfl, shR rfl, shR rfl, shR rfl, shR rfl, shR rfl, .inr ⟨_, rfl, .inl (box_congr (cons_congr (rfl) (cons_congr ((congrArg (fun n => SV.slc 9 0 n none) (begK_len h.toCsrLen 0).ex).trans rfl) (cons_congr ((congrArg (fun n => SV.slc 10 0 n none) (begK_len h.toCsrLen 0).h).trans rfl) ((rfl : ([] : List SV) = []))))))⟩, shR rfl, shR rfl, shR rfl, trivial⟩ rfl (pre_ok rfl) hρ1 ⟨⟨_, rfl, rfl⟩, ⟨_, rfl, rfl⟩, ⟨_, rfl, rfl⟩, ⟨_, rfl, Eq.symm (val_congr (by simp))⟩, trivial⟩ ?_
  intro i hi
  refine w_seq ?_
  refine w_seq ?_
  refine w_region ?_
  refine rw_t 10 rfl rfl rfl (do_move rfl ?_)
  refine rw_t 11 rfl rfl rfl (do_fieldaddr rfl ?_)
  refine rw_t 12 rfl rfl rfl (do_load_box rfl rfl rfl ?_)
  refine rw_t 13 rfl rfl rfl (do_load_box rfl rfl rfl ?_)
  refine rw_t 14 rfl rfl rfl (do_add rfl rfl (by omega) ?_)
  refine rw_t 15 rfl rfl rfl (do_ix0 rfl rfl rfl (by first | omega | (simp only [ls] <;> omega)) ?_)
  refine rw_t 16 rfl rfl rfl (do_load_arr rfl rfl (by first | omega | (simp only [ls] <;> omega)) rfl ?_)
  refine rw_t 17 rfl rfl rfl (do_bin rfl rfl rfl ?_)
  refine rw_nil ?_
  refine w_cond rfl (fun hc1 => ?_) (fun hc1 => ?_)
  all_goals try simp only [bs] at hc1
  rotate_left
  · refine w_exit ?_
    refine ret_iter (.inr rfl) rfl (Y := [SO.ints false .i64 c.First, SO.ints false .i64 c.Head, SO.ints false .i64 c.Rev, SO.ints false .i64 c.Cap, SO.ints false .i64 c.Arc, SO.bools false c.Back, .box [.val (.int .i64 c.N), .val (.int .i64 c.S), .val (.int .i64 c.T), .slc 0 0 c.First.length none, .slc 1 0 c.Head.length none, .slc 2 0 c.Rev.length none, .slc 3 0 c.Cap.length none, .slc 4 0 c.Arc.length none, .slc 5 0 c.Back.length none], .box [.val (.slice none 0 0), .val (.slice none 0 0), .val (.slice none 0 0)], SO.ints true .i64 ((begK c i).Res), SO.ints true .i64 ((begK c i).Ex), SO.ints true .i64 ((begK c i).H), .box [.slc 8 0 ((begK c i).Res.length) none, .slc 9 0 ((begK c i).Ex.length) none, .slc 10 0 ((begK c i).H.length) none], .box [.val (.int .i64 c.N), .val (.int .i64 c.S), .val (.int .i64 c.T), .slc 0 0 c.First.length none, .slc 1 0 c.Head.length none, .slc 2 0 c.Rev.length none, .slc 3 0 c.Cap.length none, .slc 4 0 c.Arc.length none, .slc 5 0 c.Back.length none], .box [.val (.int .i64 c.S)], .gen [.ptr 6 0 0, .ptr 7 0 0, .ptr 11 0 0] (q1 .ready none)]) [0, 1, 2, 3, 4, 5, 6, 7, 8, 9, 10, 11, 12, 13, 14] ⟨shR rfl, shR rfl, shR rfl, shR rfl, shR rfl, shR rfl, shR rfl, shR rfl, shR rfl, shR rfl, shR rfl, shR rfl, shR rfl, shR rfl, shR rfl, trivial⟩ rfl (pre_ok rfl) ?_
    refine iter_none rfl ?_
    refine w_seq ?_
    refine w_region ?_
    refine rw_t 35 rfl rfl rfl (n_load_boxagg [_, _, _] rfl rfl (Nat.le_of_ble_eq_true rfl) rfl ?_)
    refine rw_u rfl rfl (n_store_whole rfl rfl rfl rfl rfl rfl ?_)
    refine rw_nil ?_
    have hi' : i = (c.First.getD (c.S + 1).toNat 0 - c.First.getD c.S.toNat 0).toNat := by omega
    subst hi'
    refine w_ret ?_
    exact ret_eq (.inl rfl) (.cons (res_agg rfl rfl (Nat.le_of_ble_eq_true rfl)) .nil) [0, 1, 2, 3, 4, 5, 8, 9, 10] (rfl) ⟨shR rfl, shR rfl, shR rfl, shR rfl, shR rfl, shR rfl, shR rfl, shR rfl, shR rfl, trivial⟩ rfl (pre_ok rfl)
  refine w_skip ?_
  refine w_seq ?_
  refine w_block ?_
  refine w_seq ?_
  refine w_region ?_
  refine rw_t 20 rfl rfl rfl (do_move rfl ?_)
  refine rw_t 21 rfl rfl rfl (do_move rfl ?_)
  refine rw_t 22 rfl rfl rfl (do_yieldQ [(26, .val (.int .i64 (c.First.getD c.S.toNat 0 + (i : Int)))), (1, .ptr 6 0 0), (2, .ptr 7 0 0), (3, .ptr 11 0 0)] hq1 rfl rfl rfl rfl rfl rfl (fun ρr2 wr2 lr2 hρ2 => ?_))
  refine w_region ?_
  refine rw_t 4 rfl rfl rfl (do_assign rfl ?_)
  refine rw_nil ?_
  refine asg_done rfl ?_
  refine w_block ?_
  have hl5 := begK_len h.toCsrLen i
  have hl6 := hl5.res
  refine w_draw mixed [0, 0, 0, 4, 0, 28, 60] [127] (by kernel_rfl) (by kernel_rfl) rfl rfl rfl (hle hρ2 rfl) ?_
  refine ra_q (j := 0) rfl rfl rfl rfl (n_load_boxagg [_, _, _, _, _, _, _, _, _] rfl rfl (Nat.le_of_ble_eq_true rfl) rfl ⟨rfl, rfl⟩) (by rfl) ?_
  refine ra_q (j := 1) rfl rfl rfl rfl (do_move rfl ⟨rfl, rfl⟩) (by rfl) ?_
  refine ra_q (j := 2) rfl rfl rfl rfl (do_fieldaddr rfl ⟨rfl, rfl⟩) (by rfl) ?_
  refine ra_q (j := 3) rfl rfl rfl rfl (do_load_box rfl rfl rfl ⟨rfl, rfl⟩) (by rfl) ?_
  refine ra_q (j := 4) rfl rfl rfl rfl (do_move rfl ⟨rfl, rfl⟩) (by rfl) ?_
  refine ra_q (j := 5) rfl rfl rfl rfl (do_ix0 rfl rfl rfl (by first | omega | (simp only [ls] <;> omega)) ⟨rfl, rfl⟩) (by rfl) ?_
  refine ra_q (j := 6) rfl rfl rfl rfl (do_load_arr rfl rfl (by first | omega | (simp only [ls] <;> omega)) rfl ⟨rfl, rfl⟩) (by rfl) ?_
  refine n_done ?_
  refine rw_t 34 rfl rfl rfl (n_callW (X' := .tup []) (H' := [SO.ints false .i64 c.First, SO.ints false .i64 c.Head, SO.ints false .i64 c.Rev, SO.ints false .i64 c.Cap, SO.ints false .i64 c.Arc, SO.bools false c.Back, .box [.val (.int .i64 c.N), .val (.int .i64 c.S), .val (.int .i64 c.T), .slc 0 0 c.First.length none, .slc 1 0 c.Head.length none, .slc 2 0 c.Rev.length none, .slc 3 0 c.Cap.length none, .slc 4 0 c.Arc.length none, .slc 5 0 c.Back.length none], .box [.val (.slice none 0 0), .val (.slice none 0 0), .val (.slice none 0 0)], SO.ints true .i64 ((moveP c (begK c i) (c.First.getD c.S.toNat 0 + (i : Int)) (((begK c i).Res).getD ((c.First.getD c.S.toNat 0 + (i : Int)).toNat) 0)).Res), SO.ints true .i64 ((moveP c (begK c i) (c.First.getD c.S.toNat 0 + (i : Int)) (((begK c i).Res).getD ((c.First.getD c.S.toNat 0 + (i : Int)).toNat) 0)).Ex), SO.ints true .i64 ((begK c i).H), .box [.slc 8 0 ((begK c i).Res.length) none, .slc 9 0 ((begK c i).Ex.length) none, .slc 10 0 ((begK c i).H.length) none], .box [.val (.int .i64 c.N), .val (.int .i64 c.S), .val (.int .i64 c.T), .slc 0 0 c.First.length none, .slc 1 0 c.Head.length none, .slc 2 0 c.Rev.length none, .slc 3 0 c.Cap.length none, .slc 4 0 c.Arc.length none, .slc 5 0 c.Back.length none], .box [.val (.int .i64 c.S)], .gen [.ptr 6 0 0, .ptr 7 0 0, .ptr 11 0 0] (q1 .busy none)]) rfl rfl (t_move (c := c) (p := (begK c i)) (a := (c.First.getD c.S.toNat 0 + (i : Int))) (d := (((begK c i).Res).getD ((c.First.getD c.S.toNat 0 + (i : Int)).toNat) 0)) (h.toCsrOK) (begK_len h.toCsrLen i) (by omega) (hb i (by omega))) [0, 1, 2, 3, 4, 5, 8, 9, 10, 11] ⟨.inr ⟨_, rfl, srv⟩, .inr ⟨_, rfl, srv⟩, .inr ⟨_, rfl, srv⟩, .inr ⟨_, rfl, srv⟩, .inr ⟨_, rfl, srv⟩, .inr ⟨_, rfl, srv⟩, shR rfl, shR rfl, shR rfl, shR rfl, trivial⟩ rfl rfl ⟨fun h => (by cases h), ⟨fun h => (by cases h), ⟨fun h => (by cases h), ⟨fun h => (by cases h), ⟨fun h => (by cases h), ⟨fun h => (by cases h), ⟨fun h => .inl rfl, ⟨fun h => .inl rfl, ⟨fun h => .inl rfl, ⟨fun h => .inl rfl, (fun y hy => by simp at hy)⟩⟩⟩⟩⟩⟩⟩⟩⟩⟩ rfl rfl ?_)
  refine rw_nil ?_
  repeat (with_reducible first | refine bl_n ?_ | refine bl_r ?_ | refine nx_r ?_ | refine nx_e ?_ | refine bl_e rfl ?_)
  refine round_normal rfl ?_
  refine rw_t 23 rfl rfl rfl (do_not rfl ?_)
  refine rw_nil ?_
  refine w_cond rfl (fun hc2 => ?_) (fun hc2 => ?_)
  · exfalso; first | (cases hc2; done) | exact (hc2 trivial) | (try simp only [bs] at hc2; first | omega | (simp_all; done) | (simp_all; omega))
  refine w_skip ?_
  refine w_region ?_
  refine rw_t 18 rfl rfl rfl (do_move rfl ?_)
  refine rw_t 19 rfl rfl rfl (do_add rfl rfl (by omega) ?_)
  refine rw_t 4 rfl rfl rfl (do_assign rfl ?_)
  refine rw_nil ?_
  refine ⟨i + 1, [0, 1, 2, 3, 4, 5, 6, 7, 8, 9, 10, 11, 12, 13, 14], by dsimp only; omega, by omega, ⟨shR rfl, shR rfl, shR rfl, shR rfl, shR rfl, shR rfl, shR rfl, shR rfl, shR rfl, shR rfl, shR rfl, .inr ⟨_, rfl, .inl (box_congr (cons_congr (congrArg (fun n => SV.slc 8 0 n none) (moveP_len c (begK c i) _ _).1) (cons_congr (congrArg (fun n => SV.slc 9 0 n none) (moveP_len c (begK c i) _ _).2.1) (cons_congr (congrArg (fun n => SV.slc 10 0 n none) (moveP_len c (begK c i) _ _).2.2) ((rfl : ([] : List SV) = []))))))⟩, shR rfl, shR rfl, shR rfl, trivial⟩, rfl, pre_ok rfl, ⟨⟨_, rfl, rfl⟩, ⟨_, rfl, rfl⟩, ⟨_, rfl, rfl⟩, ⟨_, rfl, Eq.symm (val_congr (by omega))⟩, trivial⟩⟩
end Go.Proofs

set_option linter.unusedVariables false
set_option linter.unusedSimpArgs false
namespace Go.Proofs
open Go Go.Sx Go.RowKit
def manyOf (c : Csr) (u : Int) : Nat := (c.First.getD (u + 1).toNat 0 - c.First.getD u.toNat 0).toNat
/-- P7.1: who is active. -/
def activeP (c : Csr) (p : Pre) (u : Int) : Prop := (u ≠ c.S ∧ u ≠ c.T) ∧ p.Ex.getD u.toNat 0 > 0
instance (c : Csr) (p : Pre) (u : Int) : Decidable (activeP c p u) := by unfold activeP; infer_instance
def admP (c : Csr) (p : Pre) (u a : Int) : Prop := p.Res.getD a.toNat 0 > 0 ∧ p.H.getD u.toNat 0 = p.H.getD (c.Head.getD a.toNat 0).toNat 0 + 1
instance (c : Csr) (p : Pre) (u a : Int) : Decidable (admP c p u a) := by unfold admP; infer_instance
def stuckP (c : Csr) (p : Pre) (u : Int) : Prop := (∀ j : Nat, j < manyOf c u → ¬ admP c p u (c.First.getD u.toNat 0 + j)) ∧ activeP c p u
instance (c : Csr) (p : Pre) (u : Int) : Decidable (stuckP c p u) := by unfold stuckP; infer_instance
structure PreIn (c : Csr) (p : Pre) : Prop extends PreLen c p where
  hi : ∀ v, 0 ≤ p.H.getD v 0 ∧ p.H.getD v 0 ≤ 8192
set_option maxHeartbeats 8000000 in
set_option synthInstance.maxHeartbeats 400000 in
set_option synthInstance.maxSize 2000 in
theorem t_active (c : Csr) (p : Pre) (h : CsrT c) (hp : PreIn c p) (u : Int) (hu : 0 ≤ u ∧ u < c.N) : Tri Try.prog 51 [.agg [.val (.int .i64 c.N), .val (.int .i64 c.S), .val (.int .i64 c.T), .slc 0 0 c.First.length none, .slc 1 0 c.Head.length none, .slc 2 0 c.Rev.length none, .slc 3 0 c.Cap.length none, .slc 4 0 c.Arc.length none, .slc 5 0 c.Back.length none], .agg [.slc 6 0 p.Res.length none, .slc 7 0 p.Ex.length none, .slc 8 0 p.H.length none], .val (.int .i64 u)] [SO.ints false .i64 c.First, SO.ints false .i64 c.Head, SO.ints false .i64 c.Rev, SO.ints false .i64 c.Cap, SO.ints false .i64 c.Arc, SO.bools false c.Back, SO.ints false .i64 p.Res, SO.ints false .i64 p.Ex, SO.ints false .i64 p.H] (fun s H => s = .val (.bool (decide (activeP c p u))) ∧ H = [SO.ints false .i64 c.First, SO.ints false .i64 c.Head, SO.ints false .i64 c.Rev, SO.ints false .i64 c.Cap, SO.ints false .i64 c.Arc, SO.bools false c.Back, SO.ints false .i64 p.Res, SO.ints false .i64 p.Ex, SO.ints false .i64 p.H]) := by
  refine tri_of_w (fn := Try.f51) Try.func51 rfl (by simp [Try.f51]) ?_
  intro ρ w hρ
  refine w_seq ?_
  have hn := h.n
  have hf := h.first
  have hhd := h.head
  have hrl := h.rev
  have hcl := h.cap
  have hal := h.arc
  have hbl := h.back
  have hr := hp.res
  have hx := hp.ex
  have hh := hp.h
  refine w_region ?_
  refine rw_t 3 rfl rfl rfl (n_box_agg (n := 9) rfl rfl ?_)
  refine rw_t 4 rfl rfl rfl (n_box_agg (n := 10) rfl rfl ?_)
  refine rw_t 6 rfl rfl rfl (do_assign rfl ?_)
  refine rw_nil ?_
  refine w_env [(2, .val (.int .i64 u)), (3, .ptr 9 0 0), (4, .ptr 10 0 0)] ⟨⟨_, rfl, rfl⟩, ⟨_, rfl, rfl⟩, ⟨_, rfl, rfl⟩, trivial⟩ ?_
  refine w_seqB 6 (((u ≠ c.S ∧ u ≠ c.T) ∧ (p.Ex.getD u.toNat 0) > 0)) ?_ ?_
  · -- region 1
    refine w_region ?_
    refine rw_t 7 rfl rfl rfl (do_move rfl ?_)
    refine rw_t 8 rfl rfl rfl (do_fieldaddr rfl ?_)
    refine rw_t 9 rfl rfl rfl (do_load_box rfl rfl rfl ?_)
    refine rw_t 10 rfl rfl rfl (do_bin rfl rfl rfl ?_)
    refine rw_t 11 rfl rfl rfl (do_move rfl ?_)
    refine rw_case 11 rfl (fun g1 => ?_) (fun g1 => ?_)
    · have kg1 := g1
      try simp only [bs] at kg1
      refine rw_gt 12 4 11 true rfl rfl rfl rfl rfl rfl g1 (do_move rfl ?_)
      refine rw_gt 13 4 11 true rfl rfl rfl rfl rfl rfl g1 (do_fieldaddr rfl ?_)
      refine rw_gt 14 4 11 true rfl rfl rfl rfl rfl rfl g1 (do_load_box rfl rfl rfl ?_)
      refine rw_gt 15 4 11 true rfl rfl rfl rfl rfl rfl g1 (do_bin rfl rfl rfl ?_)
      refine rw_t 16 rfl rfl rfl (do_pick_t rfl g1 rfl ?_)
      refine rw_t 17 rfl rfl rfl (do_move rfl ?_)
      refine rw_case 17 rfl (fun g2 => ?_) (fun g2 => ?_)
      · have kg2 := g2
        try simp only [bs] at kg2
        refine rw_gt 18 10 17 true rfl rfl rfl rfl rfl rfl g2 (do_fieldaddr rfl ?_)
        refine rw_gt 19 10 17 true rfl rfl rfl rfl rfl rfl g2 (do_load_box rfl rfl rfl ?_)
        refine rw_gt 20 10 17 true rfl rfl rfl rfl rfl rfl g2 (do_move rfl ?_)
        refine rw_gt 21 10 17 true rfl rfl rfl rfl rfl rfl g2 (do_ix0 rfl rfl rfl (by first | omega | (simp only [ls] <;> omega)) ?_)
        refine rw_gt 22 10 17 true rfl rfl rfl rfl rfl rfl g2 (do_load_arr rfl rfl (by first | omega | (simp only [ls] <;> omega)) rfl ?_)
        refine rw_gt 23 10 17 true rfl rfl rfl rfl rfl rfl g2 (do_bin rfl rfl rfl ?_)
        refine rw_t 24 rfl rfl rfl (do_pick_t rfl g2 rfl ?_)
        refine rw_t 6 rfl rfl rfl (do_assign rfl ?_)
        refine rw_nil ?_
        refine ⟨rfl, ⟨_, rfl, by first | (simp; done) | (simp only [bs]; omega) | (simp [*]; done) | (simp; omega) | (constructor <;> intro h <;> simp_all <;> omega)⟩, ?_⟩
        repeat (refine ⟨⟨_, rfl, rfl⟩, ?_⟩)
        exact trivial
      · have kg2 := g2
        try simp only [bs] at kg2
        refine rw_gf 18 10 17 true rfl rfl rfl rfl rfl rfl (by rw [g2]; decide) ?_
        refine rw_gf 19 10 17 true rfl rfl rfl rfl rfl rfl (by rw [g2]; decide) ?_
        refine rw_gf 20 10 17 true rfl rfl rfl rfl rfl rfl (by rw [g2]; decide) ?_
        refine rw_gf 21 10 17 true rfl rfl rfl rfl rfl rfl (by rw [g2]; decide) ?_
        refine rw_gf 22 10 17 true rfl rfl rfl rfl rfl rfl (by rw [g2]; decide) ?_
        refine rw_gf 23 10 17 true rfl rfl rfl rfl rfl rfl (by rw [g2]; decide) ?_
        refine rw_t 24 rfl rfl rfl (do_pick_f rfl g2 rfl ?_)
        refine rw_t 6 rfl rfl rfl (do_assign rfl ?_)
        refine rw_nil ?_
        refine ⟨rfl, ⟨_, rfl, by first | (simp; done) | (simp only [bs]; omega) | (simp [*]; done) | (simp; omega) | (constructor <;> intro h <;> simp_all <;> omega)⟩, ?_⟩
        repeat (refine ⟨⟨_, rfl, rfl⟩, ?_⟩)
        exact trivial
    · have kg1 := g1
      try simp only [bs] at kg1
      refine rw_gf 12 4 11 true rfl rfl rfl rfl rfl rfl (by rw [g1]; decide) ?_
      refine rw_gf 13 4 11 true rfl rfl rfl rfl rfl rfl (by rw [g1]; decide) ?_
      refine rw_gf 14 4 11 true rfl rfl rfl rfl rfl rfl (by rw [g1]; decide) ?_
      refine rw_gf 15 4 11 true rfl rfl rfl rfl rfl rfl (by rw [g1]; decide) ?_
      refine rw_t 16 rfl rfl rfl (do_pick_f rfl g1 rfl ?_)
      refine rw_t 17 rfl rfl rfl (do_move rfl ?_)
      refine rw_gf 18 10 17 true rfl rfl rfl rfl rfl rfl (by decide) ?_
      refine rw_gf 19 10 17 true rfl rfl rfl rfl rfl rfl (by decide) ?_
      refine rw_gf 20 10 17 true rfl rfl rfl rfl rfl rfl (by decide) ?_
      refine rw_gf 21 10 17 true rfl rfl rfl rfl rfl rfl (by decide) ?_
      refine rw_gf 22 10 17 true rfl rfl rfl rfl rfl rfl (by decide) ?_
      refine rw_gf 23 10 17 true rfl rfl rfl rfl rfl rfl (by decide) ?_
      refine rw_t 24 rfl rfl rfl (do_pick_f rfl rfl rfl ?_)
      refine rw_t 6 rfl rfl rfl (do_assign rfl ?_)
      refine rw_nil ?_
      refine ⟨rfl, ⟨_, rfl, by first | (simp; done) | (simp only [bs]; omega) | (simp [*]; done) | (simp; omega) | (constructor <;> intro h <;> simp_all <;> omega)⟩, ?_⟩
      repeat (refine ⟨⟨_, rfl, rfl⟩, ?_⟩)
      exact trivial
  intro b1 hb1
  refine w_ret ?_
  exact ret_eq (.inl rfl) (.cons (res_tmp rfl) .nil) [0, 1, 2, 3, 4, 5, 6, 7, 8] (Eq.symm (bool_congr (dec_of hb1 Iff.rfl))) ⟨shR rfl, shR rfl, shR rfl, shR rfl, shR rfl, shR rfl, shR rfl, shR rfl, shR rfl, trivial⟩ rfl (pre_ok rfl)
set_option maxHeartbeats 8000000 in
set_option synthInstance.maxHeartbeats 400000 in
set_option synthInstance.maxSize 2000 in
theorem t_adm (c : Csr) (p : Pre) (h : CsrT c) (hp : PreIn c p) (u : Int) (hu : 0 ≤ u ∧ u < c.N) (a : Int) (ha : 0 ≤ a ∧ a < c.Head.length) : Tri Try.prog 52 [.agg [.val (.int .i64 c.N), .val (.int .i64 c.S), .val (.int .i64 c.T), .slc 0 0 c.First.length none, .slc 1 0 c.Head.length none, .slc 2 0 c.Rev.length none, .slc 3 0 c.Cap.length none, .slc 4 0 c.Arc.length none, .slc 5 0 c.Back.length none], .agg [.slc 6 0 p.Res.length none, .slc 7 0 p.Ex.length none, .slc 8 0 p.H.length none], .val (.int .i64 u), .val (.int .i64 a)] [SO.ints false .i64 c.First, SO.ints false .i64 c.Head, SO.ints false .i64 c.Rev, SO.ints false .i64 c.Cap, SO.ints false .i64 c.Arc, SO.bools false c.Back, SO.ints false .i64 p.Res, SO.ints false .i64 p.Ex, SO.ints false .i64 p.H] (fun s H => s = .val (.bool (decide (admP c p u a))) ∧ H = [SO.ints false .i64 c.First, SO.ints false .i64 c.Head, SO.ints false .i64 c.Rev, SO.ints false .i64 c.Cap, SO.ints false .i64 c.Arc, SO.bools false c.Back, SO.ints false .i64 p.Res, SO.ints false .i64 p.Ex, SO.ints false .i64 p.H]) := by
  refine tri_of_w (fn := Try.f52) Try.func52 rfl (by simp [Try.f52]) ?_
  intro ρ w hρ
  refine w_seq ?_
  have hn := h.n
  have hf := h.first
  have hhd := h.head
  have hrl := h.rev
  have hcl := h.cap
  have hal := h.arc
  have hbl := h.back
  have hr := hp.res
  have hx := hp.ex
  have hh := hp.h
  have hd1 := h.hd a.toNat (by omega)
  have hy1 := hp.hi (c.Head.getD a.toNat 0).toNat
  refine w_region ?_
  refine rw_t 4 rfl rfl rfl (n_box_agg (n := 9) rfl rfl ?_)
  refine rw_t 5 rfl rfl rfl (n_box_agg (n := 10) rfl rfl ?_)
  refine rw_t 8 rfl rfl rfl (do_assign rfl ?_)
  refine rw_nil ?_
  refine w_env [(2, .val (.int .i64 u)), (3, .val (.int .i64 a)), (4, .ptr 9 0 0), (5, .ptr 10 0 0)] ⟨⟨_, rfl, rfl⟩, ⟨_, rfl, rfl⟩, ⟨_, rfl, rfl⟩, ⟨_, rfl, rfl⟩, trivial⟩ ?_
  refine w_seqB 8 (((p.Res.getD a.toNat 0) > 0 ∧ (p.H.getD u.toNat 0) = ((p.H.getD ((c.Head.getD a.toNat 0).toNat) 0) + 1))) ?_ ?_
  · -- region 1
    refine w_draw mixed [0, 1, 0, 7, 15, 31, 63, 127, 255, 127, 1023, 2047, 127, 4223, 127, 16511, 127, 114815, 245887, 520319, 1044607, 2093183] [4194303, 8388607, 16777215] (by kernel_rfl) (by kernel_rfl) rfl rfl rfl (hle hρ rfl) ?_
    refine ra_q (j := 0) rfl rfl rfl rfl (do_fieldaddr rfl ⟨rfl, rfl⟩) (by rfl) ?_
    refine ra_q (j := 1) rfl rfl rfl rfl (do_load_box rfl rfl rfl ⟨rfl, rfl⟩) (by rfl) ?_
    refine ra_q (j := 2) rfl rfl rfl rfl (do_move rfl ⟨rfl, rfl⟩) (by rfl) ?_
    refine ra_q (j := 3) rfl rfl rfl rfl (do_ix0 rfl rfl rfl (by first | omega | (simp only [ls] <;> omega)) ⟨rfl, rfl⟩) (by rfl) ?_
    refine ra_q (j := 4) rfl rfl rfl rfl (do_load_arr rfl rfl (by first | omega | (simp only [ls] <;> omega)) rfl ⟨rfl, rfl⟩) (by rfl) ?_
    refine ra_q (j := 5) rfl rfl rfl rfl (do_bin rfl rfl rfl ⟨rfl, rfl⟩) (by rfl) ?_
    refine ra_q (j := 6) rfl rfl rfl rfl (do_move rfl ⟨rfl, rfl⟩) (by rfl) ?_
    refine ra_case 15 rfl (fun g1 => ?_) (fun g1 => ?_)
    · have kg1 := g1
      try simp only [bs] at kg1
      refine ra_gt (j := 7) rfl rfl rfl rfl g1 rfl rfl rfl (do_fieldaddr rfl ⟨rfl, rfl⟩) (by rfl) ?_
      refine ra_gt (j := 8) rfl rfl rfl rfl g1 rfl rfl rfl (do_load_box rfl rfl rfl ⟨rfl, rfl⟩) (by rfl) ?_
      refine ra_gt (j := 9) rfl rfl rfl rfl g1 rfl rfl rfl (do_move rfl ⟨rfl, rfl⟩) (by rfl) ?_
      refine ra_gt (j := 10) rfl rfl rfl rfl g1 rfl rfl rfl (do_ix0 rfl rfl rfl (by first | omega | (simp only [ls] <;> omega)) ⟨rfl, rfl⟩) (by rfl) ?_
      refine ra_gt (j := 11) rfl rfl rfl rfl g1 rfl rfl rfl (do_load_arr rfl rfl (by first | omega | (simp only [ls] <;> omega)) rfl ⟨rfl, rfl⟩) (by rfl) ?_
      refine ra_gt (j := 12) rfl rfl rfl rfl g1 rfl rfl rfl (do_fieldaddr rfl ⟨rfl, rfl⟩) (by rfl) ?_
      refine ra_gt (j := 13) rfl rfl rfl rfl g1 rfl rfl rfl (do_load_box rfl rfl rfl ⟨rfl, rfl⟩) (by rfl) ?_
      refine ra_gt (j := 14) rfl rfl rfl rfl g1 rfl rfl rfl (do_fieldaddr rfl ⟨rfl, rfl⟩) (by rfl) ?_
      refine ra_gt (j := 15) rfl rfl rfl rfl g1 rfl rfl rfl (do_load_box rfl rfl rfl ⟨rfl, rfl⟩) (by rfl) ?_
      refine ra_gt (j := 16) rfl rfl rfl rfl g1 rfl rfl rfl (do_move rfl ⟨rfl, rfl⟩) (by rfl) ?_
      refine ra_gt (j := 17) rfl rfl rfl rfl g1 rfl rfl rfl (do_ix0 rfl rfl rfl (by first | omega | (simp only [ls] <;> omega)) ⟨rfl, rfl⟩) (by rfl) ?_
      refine ra_gt (j := 18) rfl rfl rfl rfl g1 rfl rfl rfl (do_load_arr rfl rfl (by first | omega | (simp only [ls] <;> omega)) rfl ⟨rfl, rfl⟩) (by rfl) ?_
      refine ra_gt (j := 19) rfl rfl rfl rfl g1 rfl rfl rfl (do_ix0 rfl rfl rfl (by first | omega | (simp only [ls] <;> omega)) ⟨rfl, rfl⟩) (by rfl) ?_
      refine ra_gt (j := 20) rfl rfl rfl rfl g1 rfl rfl rfl (do_load_arr rfl rfl (by first | omega | (simp only [ls] <;> omega)) rfl ⟨rfl, rfl⟩) (by rfl) ?_
      refine ra_gt (j := 21) rfl rfl rfl rfl g1 rfl rfl rfl (do_add rfl rfl (by omega) ⟨rfl, rfl⟩) (by rfl) ?_
      refine n_done ?_
      refine rw_gt 31 6 15 true rfl rfl rfl rfl rfl rfl g1 (do_bin rfl rfl rfl ?_)
      refine rw_t 32 rfl rfl rfl (do_pick_t rfl g1 rfl ?_)
      refine rw_t 8 rfl rfl rfl (do_assign rfl ?_)
      refine rw_nil ?_
      refine ⟨rfl, ⟨_, rfl, by first | (simp; done) | (simp only [bs]; omega) | (simp [*]; done) | (simp; omega) | (constructor <;> intro h <;> simp_all <;> omega)⟩, ?_⟩
      repeat (refine ⟨⟨_, rfl, rfl⟩, ?_⟩)
      exact trivial
    · have kg1 := g1
      try simp only [bs] at kg1
      refine ra_gf (j := 7) rfl rfl rfl rfl (by rw [g1]; decide) rfl rfl rfl ?_
      refine ra_gf (j := 8) rfl rfl rfl rfl (by rw [g1]; decide) rfl rfl rfl ?_
      refine ra_gf (j := 9) rfl rfl rfl rfl (by rw [g1]; decide) rfl rfl rfl ?_
      refine ra_gf (j := 10) rfl rfl rfl rfl (by rw [g1]; decide) rfl rfl rfl ?_
      refine ra_gf (j := 11) rfl rfl rfl rfl (by rw [g1]; decide) rfl rfl rfl ?_
      refine ra_gf (j := 12) rfl rfl rfl rfl (by rw [g1]; decide) rfl rfl rfl ?_
      refine ra_gf (j := 13) rfl rfl rfl rfl (by rw [g1]; decide) rfl rfl rfl ?_
      refine ra_gf (j := 14) rfl rfl rfl rfl (by rw [g1]; decide) rfl rfl rfl ?_
      refine ra_gf (j := 15) rfl rfl rfl rfl (by rw [g1]; decide) rfl rfl rfl ?_
      refine ra_gf (j := 16) rfl rfl rfl rfl (by rw [g1]; decide) rfl rfl rfl ?_
      refine ra_gf (j := 17) rfl rfl rfl rfl (by rw [g1]; decide) rfl rfl rfl ?_
      refine ra_gf (j := 18) rfl rfl rfl rfl (by rw [g1]; decide) rfl rfl rfl ?_
      refine ra_gf (j := 19) rfl rfl rfl rfl (by rw [g1]; decide) rfl rfl rfl ?_
      refine ra_gf (j := 20) rfl rfl rfl rfl (by rw [g1]; decide) rfl rfl rfl ?_
      refine ra_gf (j := 21) rfl rfl rfl rfl (by rw [g1]; decide) rfl rfl rfl ?_
      refine n_done ?_
      refine rw_gf 31 6 15 true rfl rfl rfl rfl rfl rfl (by rw [g1]; decide) ?_
      refine rw_t 32 rfl rfl rfl (do_pick_f rfl g1 rfl ?_)
      refine rw_t 8 rfl rfl rfl (do_assign rfl ?_)
      refine rw_nil ?_
      refine ⟨rfl, ⟨_, rfl, by first | (simp; done) | (simp only [bs]; omega) | (simp [*]; done) | (simp; omega) | (constructor <;> intro h <;> simp_all <;> omega)⟩, ?_⟩
      repeat (refine ⟨⟨_, rfl, rfl⟩, ?_⟩)
      exact trivial
  intro b1 hb1
  refine w_ret ?_
  exact ret_eq (.inl rfl) (.cons (res_tmp rfl) .nil) [0, 1, 2, 3, 4, 5, 6, 7, 8] (Eq.symm (bool_congr (dec_of hb1 Iff.rfl))) ⟨shR rfl, shR rfl, shR rfl, shR rfl, shR rfl, shR rfl, shR rfl, shR rfl, shR rfl, trivial⟩ rfl (pre_ok rfl)
set_option maxHeartbeats 8000000 in
set_option synthInstance.maxHeartbeats 400000 in
set_option synthInstance.maxSize 2000 in
theorem t_stuck (c : Csr) (p : Pre) (h : CsrT c) (hp : PreIn c p) (u : Int) (hu : 0 ≤ u ∧ u < c.N) : Tri Try.prog 55 [.agg [.val (.int .i64 c.N), .val (.int .i64 c.S), .val (.int .i64 c.T), .slc 0 0 c.First.length none, .slc 1 0 c.Head.length none, .slc 2 0 c.Rev.length none, .slc 3 0 c.Cap.length none, .slc 4 0 c.Arc.length none, .slc 5 0 c.Back.length none], .agg [.slc 6 0 p.Res.length none, .slc 7 0 p.Ex.length none, .slc 8 0 p.H.length none], .val (.int .i64 u)] [SO.ints false .i64 c.First, SO.ints false .i64 c.Head, SO.ints false .i64 c.Rev, SO.ints false .i64 c.Cap, SO.ints false .i64 c.Arc, SO.bools false c.Back, SO.ints false .i64 p.Res, SO.ints false .i64 p.Ex, SO.ints false .i64 p.H] (fun s H => s = .val (.bool (decide (stuckP c p u))) ∧ H = [SO.ints false .i64 c.First, SO.ints false .i64 c.Head, SO.ints false .i64 c.Rev, SO.ints false .i64 c.Cap, SO.ints false .i64 c.Arc, SO.bools false c.Back, SO.ints false .i64 p.Res, SO.ints false .i64 p.Ex, SO.ints false .i64 p.H]) := by
  refine tri_of_w (fn := Try.f55) Try.func55 rfl (by simp [Try.f55]) ?_
  intro ρ w hρ
  refine w_seq ?_
  have hn := h.n
  have hf := h.first
  have hhd := h.head
  have hrl := h.rev
  have hcl := h.cap
  have hal := h.arc
  have hbl := h.back
  have hr := hp.res
  have hx := hp.ex
  have hh := hp.h
  have hm := h.mono u.toNat (by omega)
  have hmt : (u + 1).toNat = u.toNat + 1 := by omega
  rw [← hmt] at hm
  have hmo : manyOf c u = (c.First.getD (u + 1).toNat 0 - c.First.getD u.toNat 0).toNat := rfl
  have hsm := h.small
  refine w_region ?_
  refine rw_t 3 rfl rfl rfl (n_box_agg (n := 9) rfl rfl ?_)
  refine rw_t 4 rfl rfl rfl (n_box_agg (n := 10) rfl rfl ?_)
  refine rw_t 5 rfl rfl rfl (n_box (n := 11) rfl rfl rfl ?_)
  refine rw_t 6 rfl rfl rfl (n_alloc (n := 12) rfl ?_)
  refine rw_nil ?_
  refine w_seq ?_
  refine w_seq ?_
  refine w_region ?_
  refine rw_t 8 rfl rfl rfl (n_load_boxagg [_, _, _, _, _, _, _, _, _] rfl rfl (Nat.le_of_ble_eq_true rfl) rfl ?_)
  refine rw_t 9 rfl rfl rfl (do_load_box rfl rfl rfl ?_)
  refine rw_t 10 rfl rfl rfl (n_callN (X' := .func 75 [] [.ptr 13 0 0, .ptr 14 0 0]) (N' := [.box [.val (.int .i64 c.N), .val (.int .i64 c.S), .val (.int .i64 c.T), .slc 0 0 c.First.length none, .slc 1 0 c.Head.length none, .slc 2 0 c.Rev.length none, .slc 3 0 c.Cap.length none, .slc 4 0 c.Arc.length none, .slc 5 0 c.Back.length none], .box [.val (.int .i64 u)]]) rfl rfl (t_arcs (c := c) (u := u)) [0, 1, 2, 3, 4, 5] ⟨.inr ⟨_, rfl, srv⟩, .inr ⟨_, rfl, srv⟩, .inr ⟨_, rfl, srv⟩, .inr ⟨_, rfl, srv⟩, .inr ⟨_, rfl, srv⟩, .inr ⟨_, rfl, srv⟩, trivial⟩ rfl rfl rfl rfl rfl ?_)
  refine rw_nil ?_
  refine w_block ?_
  refine w_rf [(3, .ptr 9 0 0), (4, .ptr 10 0 0), (5, .ptr 11 0 0), (6, .ptr 12 0 0)] 15 [.yield 15, .ptr 13 0 0, .ptr 14 0 0] (fun q1 => [SO.ints false .i64 c.First, SO.ints false .i64 c.Head, SO.ints false .i64 c.Rev, SO.ints false .i64 c.Cap, SO.ints false .i64 c.Arc, SO.bools false c.Back, SO.ints false .i64 p.Res, SO.ints false .i64 p.Ex, SO.ints false .i64 p.H, .box [.val (.int .i64 c.N), .val (.int .i64 c.S), .val (.int .i64 c.T), .slc 0 0 c.First.length none, .slc 1 0 c.Head.length none, .slc 2 0 c.Rev.length none, .slc 3 0 c.Cap.length none, .slc 4 0 c.Arc.length none, .slc 5 0 c.Back.length none], .box [.slc 6 0 p.Res.length none, .slc 7 0 p.Ex.length none, .slc 8 0 p.H.length none], .box [.val (.int .i64 u)], .box [.val (.bool false)], .box [.val (.int .i64 c.N), .val (.int .i64 c.S), .val (.int .i64 c.T), .slc 0 0 c.First.length none, .slc 1 0 c.Head.length none, .slc 2 0 c.Rev.length none, .slc 3 0 c.Cap.length none, .slc 4 0 c.Arc.length none, .slc 5 0 c.Back.length none], .box [.val (.int .i64 u)], .gen [.ptr 9 0 0, .ptr 10 0 0, .ptr 11 0 0, .ptr 12 0 0] (q1 .ready none)]) rfl rfl rfl rfl (fun _ => rfl) ⟨⟨_, rfl, rfl⟩, ⟨_, rfl, rfl⟩, ⟨_, rfl, rfl⟩, ⟨_, rfl, rfl⟩, trivial⟩ (fun q1 hq1 => ?_)
  refine tri_of_w (fn := Try.f75) Try.func75 rfl (by simp [Try.f75]) ?_
  intro ρr1 wr1 hρ1
  refine w_seq ?_
  refine w_region ?_
  refine rw_t 5 rfl rfl rfl (do_fieldaddr rfl ?_)
  refine rw_t 6 rfl rfl rfl (do_load_box rfl rfl rfl ?_)
  refine rw_t 7 rfl rfl rfl (do_load_box rfl rfl rfl ?_)
  refine rw_t 8 rfl rfl rfl (do_ix0 rfl rfl rfl (by first | omega | (simp only [ls] <;> omega)) ?_)
  refine rw_t 9 rfl rfl rfl (do_load_arr rfl rfl (by first | omega | (simp only [ls] <;> omega)) rfl ?_)
  refine rw_t 4 rfl rfl rfl (do_assign rfl ?_)
  refine rw_nil ?_
  refine w_block ?_
  refine w_loopS (ι := Nat) (fun i => [(0, .yield 15), (1, .ptr 13 0 0), (2, .ptr 14 0 0), (4, .val (.int .i64 (c.First.getD u.toNat 0 + (i : Int))))]) (fun i => [SO.ints false .i64 c.First, SO.ints false .i64 c.Head, SO.ints false .i64 c.Rev, SO.ints false .i64 c.Cap, SO.ints false .i64 c.Arc, SO.bools false c.Back, SO.ints false .i64 p.Res, SO.ints false .i64 p.Ex, SO.ints false .i64 p.H, .box [.val (.int .i64 c.N), .val (.int .i64 c.S), .val (.int .i64 c.T), .slc 0 0 c.First.length none, .slc 1 0 c.Head.length none, .slc 2 0 c.Rev.length none, .slc 3 0 c.Cap.length none, .slc 4 0 c.Arc.length none, .slc 5 0 c.Back.length none], .box [.slc 6 0 p.Res.length none, .slc 7 0 p.Ex.length none, .slc 8 0 p.H.length none], .box [.val (.int .i64 u)], .box [.val (.bool false)], .box [.val (.int .i64 c.N), .val (.int .i64 c.S), .val (.int .i64 c.T), .slc 0 0 c.First.length none, .slc 1 0 c.Head.length none, .slc 2 0 c.Rev.length none, .slc 3 0 c.Cap.length none, .slc 4 0 c.Arc.length none, .slc 5 0 c.Back.length none], .box [.val (.int .i64 u)], .gen [.ptr 9 0 0, .ptr 10 0 0, .ptr 11 0 0, .ptr 12 0 0] (q1 .ready none)]) (fun i => manyOf c u - i) (fun i => i ≤ manyOf c u ∧ ∀ j : Nat, j < i → ¬ admP c p u (c.First.getD u.toNat 0 + j)) (0) [0, 1, 2, 3, 4, 5, 6, 7, 8, 9, 10, 11, 12, 13, 14, 15] (⟨by simp, fun j hj => by omega⟩) ⟨shR rfl, shR rfl, shR rfl, shR rfl, shR rfl, shR rfl, shR rfl, shR rfl, shR rfl, shR rfl, shR rfl, shR rfl, shR rfl, shR rfl, shR rfl, shR rfl, trivial⟩ rfl (pre_ok rfl) hρ1 ⟨⟨_, rfl, rfl⟩, ⟨_, rfl, rfl⟩, ⟨_, rfl, rfl⟩, ⟨_, rfl, Eq.symm (val_congr (by simp))⟩, trivial⟩ ?_
  rintro i ⟨g1, g2⟩
  refine w_seq ?_
  refine w_seq ?_
  refine w_region ?_
  refine rw_t 10 rfl rfl rfl (do_move rfl ?_)
  refine rw_t 11 rfl rfl rfl (do_fieldaddr rfl ?_)
  refine rw_t 12 rfl rfl rfl (do_load_box rfl rfl rfl ?_)
  refine rw_t 13 rfl rfl rfl (do_load_box rfl rfl rfl ?_)
  refine rw_t 14 rfl rfl rfl (do_add rfl rfl (by omega) ?_)
  refine rw_t 15 rfl rfl rfl (do_ix0 rfl rfl rfl (by first | omega | (simp only [ls] <;> omega)) ?_)
  refine rw_t 16 rfl rfl rfl (do_load_arr rfl rfl (by first | omega | (simp only [ls] <;> omega)) rfl ?_)
  refine rw_t 17 rfl rfl rfl (do_bin rfl rfl rfl ?_)
  refine rw_nil ?_
  refine w_cond rfl (fun hc1 => ?_) (fun hc1 => ?_)
  all_goals try simp only [bs] at hc1
  rotate_left
  · refine w_exit ?_
    refine ret_iter (.inr rfl) rfl (Y := [SO.ints false .i64 c.First, SO.ints false .i64 c.Head, SO.ints false .i64 c.Rev, SO.ints false .i64 c.Cap, SO.ints false .i64 c.Arc, SO.bools false c.Back, SO.ints false .i64 p.Res, SO.ints false .i64 p.Ex, SO.ints false .i64 p.H, .box [.val (.int .i64 c.N), .val (.int .i64 c.S), .val (.int .i64 c.T), .slc 0 0 c.First.length none, .slc 1 0 c.Head.length none, .slc 2 0 c.Rev.length none, .slc 3 0 c.Cap.length none, .slc 4 0 c.Arc.length none, .slc 5 0 c.Back.length none], .box [.slc 6 0 p.Res.length none, .slc 7 0 p.Ex.length none, .slc 8 0 p.H.length none], .box [.val (.int .i64 u)], .box [.val (.bool false)], .box [.val (.int .i64 c.N), .val (.int .i64 c.S), .val (.int .i64 c.T), .slc 0 0 c.First.length none, .slc 1 0 c.Head.length none, .slc 2 0 c.Rev.length none, .slc 3 0 c.Cap.length none, .slc 4 0 c.Arc.length none, .slc 5 0 c.Back.length none], .box [.val (.int .i64 u)], .gen [.ptr 9 0 0, .ptr 10 0 0, .ptr 11 0 0, .ptr 12 0 0] (q1 .ready none)]) [0, 1, 2, 3, 4, 5, 6, 7, 8, 9, 10, 11, 12, 13, 14, 15] ⟨shR rfl, shR rfl, shR rfl, shR rfl, shR rfl, shR rfl, shR rfl, shR rfl, shR rfl, shR rfl, shR rfl, shR rfl, shR rfl, shR rfl, shR rfl, shR rfl, trivial⟩ rfl (pre_ok rfl) ?_
    refine iter_none rfl ?_
    refine w_seq ?_
    refine w_region ?_
    refine rw_t 17 rfl rfl rfl (n_load_boxagg [_, _, _, _, _, _, _, _, _] rfl rfl (Nat.le_of_ble_eq_true rfl) rfl ?_)
    refine rw_t 18 rfl rfl rfl (n_load_boxagg [_, _, _] rfl rfl (Nat.le_of_ble_eq_true rfl) rfl ?_)
    refine rw_t 19 rfl rfl rfl (do_load_box rfl rfl rfl ?_)
    refine rw_t 20 rfl rfl rfl (do_callR (X' := .val (.bool (decide (activeP c p u)))) rfl rfl (t_active (c := c) (p := p) (u := u) (h) (hp) (hu)) [0, 1, 2, 3, 4, 5, 6, 7, 8] ⟨.inr ⟨_, rfl, srv⟩, .inr ⟨_, rfl, srv⟩, .inr ⟨_, rfl, srv⟩, .inr ⟨_, rfl, srv⟩, .inr ⟨_, rfl, srv⟩, .inr ⟨_, rfl, srv⟩, .inr ⟨_, rfl, srv⟩, .inr ⟨_, rfl, srv⟩, .inr ⟨_, rfl, srv⟩, trivial⟩ rfl rfl rfl ?_)
    refine rw_u rfl rfl (n_store_box (f := 0) rfl rfl rfl (Nat.le_of_ble_eq_true rfl) rfl ?_)
    refine rw_nil ?_
    refine w_ret ?_
    exact ret_eq (.inl rfl) (.cons (res_one rfl rfl rfl) .nil) [0, 1, 2, 3, 4, 5, 6, 7, 8] (Eq.symm (bool_congr (decide_eq_decide.2 ⟨fun q => q.2, fun q => ⟨fun j hj => g2 j (by omega), q⟩⟩))) ⟨shR rfl, shR rfl, shR rfl, shR rfl, shR rfl, shR rfl, shR rfl, shR rfl, shR rfl, trivial⟩ rfl (pre_ok rfl)
  refine w_skip ?_
  refine w_seq ?_
  refine w_block ?_
  refine w_seq ?_
  refine w_region ?_
  refine rw_t 20 rfl rfl rfl (do_move rfl ?_)
  refine rw_t 21 rfl rfl rfl (do_move rfl ?_)
  refine rw_t 22 rfl rfl rfl (do_yieldQ [(11, .val (.int .i64 (c.First.getD u.toNat 0 + (i : Int)))), (3, .ptr 9 0 0), (4, .ptr 10 0 0), (5, .ptr 11 0 0), (6, .ptr 12 0 0)] hq1 rfl rfl rfl rfl rfl rfl (fun ρr2 wr2 lr2 hρ2 => ?_))
  refine w_region ?_
  refine rw_t 7 rfl rfl rfl (do_assign rfl ?_)
  refine rw_nil ?_
  refine asg_done rfl ?_
  refine w_block ?_
  refine w_seq ?_
  refine w_region ?_
  refine rw_t 12 rfl rfl rfl (n_load_boxagg [_, _, _, _, _, _, _, _, _] rfl rfl (Nat.le_of_ble_eq_true rfl) rfl ?_)
  refine rw_t 13 rfl rfl rfl (n_load_boxagg [_, _, _] rfl rfl (Nat.le_of_ble_eq_true rfl) rfl ?_)
  refine rw_t 14 rfl rfl rfl (do_load_box rfl rfl rfl ?_)
  refine rw_t 15 rfl rfl rfl (do_move rfl ?_)
  refine rw_t 16 rfl rfl rfl (do_callR (X' := .val (.bool (decide (admP c p u (c.First.getD u.toNat 0 + (i : Int)))))) rfl rfl (t_adm (c := c) (p := p) (u := u) (a := (c.First.getD u.toNat 0 + (i : Int))) (h) (hp) (hu) (by omega)) [0, 1, 2, 3, 4, 5, 6, 7, 8] ⟨.inr ⟨_, rfl, srv⟩, .inr ⟨_, rfl, srv⟩, .inr ⟨_, rfl, srv⟩, .inr ⟨_, rfl, srv⟩, .inr ⟨_, rfl, srv⟩, .inr ⟨_, rfl, srv⟩, .inr ⟨_, rfl, srv⟩, .inr ⟨_, rfl, srv⟩, .inr ⟨_, rfl, srv⟩, trivial⟩ rfl rfl rfl ?_)
  refine rw_nil ?_
  refine w_cond rfl (fun hc2 => ?_) (fun hc2 => ?_)
  all_goals try simp only [bs] at hc2
  · refine w_seq ?_
    refine w_region ?_
    refine rw_u rfl rfl (n_store_box (f := 0) rfl rfl rfl (Nat.le_of_ble_eq_true rfl) rfl ?_)
    refine rw_nil ?_
    refine w_ret ?_
    repeat (with_reducible first | refine bl_n ?_ | refine bl_r ?_ | refine nx_r ?_ | refine nx_e ?_ | refine bl_e rfl ?_)
    refine round_ret rfl ?_
    refine rw_t 23 rfl rfl rfl (do_not rfl ?_)
    refine rw_nil ?_
    refine w_cond rfl (fun hc3 => ?_) (fun hc3 => ?_)
    rotate_left
    · exfalso; first | (cases hc3; done) | exact (hc3 trivial) | (try simp only [bs] at hc3; first | omega | (simp_all; done) | (simp_all; omega))
    refine w_ret ?_
    refine ret_iter (.inl rfl) rfl (Y := [SO.ints false .i64 c.First, SO.ints false .i64 c.Head, SO.ints false .i64 c.Rev, SO.ints false .i64 c.Cap, SO.ints false .i64 c.Arc, SO.bools false c.Back, SO.ints false .i64 p.Res, SO.ints false .i64 p.Ex, SO.ints false .i64 p.H, .box [.val (.int .i64 c.N), .val (.int .i64 c.S), .val (.int .i64 c.T), .slc 0 0 c.First.length none, .slc 1 0 c.Head.length none, .slc 2 0 c.Rev.length none, .slc 3 0 c.Cap.length none, .slc 4 0 c.Arc.length none, .slc 5 0 c.Back.length none], .box [.slc 6 0 p.Res.length none, .slc 7 0 p.Ex.length none, .slc 8 0 p.H.length none], .box [.val (.int .i64 u)], .box [.val (.bool false)], .box [.val (.int .i64 c.N), .val (.int .i64 c.S), .val (.int .i64 c.T), .slc 0 0 c.First.length none, .slc 1 0 c.Head.length none, .slc 2 0 c.Rev.length none, .slc 3 0 c.Cap.length none, .slc 4 0 c.Arc.length none, .slc 5 0 c.Back.length none], .box [.val (.int .i64 u)], .gen [.ptr 9 0 0, .ptr 10 0 0, .ptr 11 0 0, .ptr 12 0 0] (q1 .done (some .ret))]) [0, 1, 2, 3, 4, 5, 6, 7, 8, 9, 10, 11, 12, 13, 14, 15] ⟨shR rfl, shR rfl, shR rfl, shR rfl, shR rfl, shR rfl, shR rfl, shR rfl, shR rfl, shR rfl, shR rfl, shR rfl, shR rfl, shR rfl, shR rfl, shR rfl, trivial⟩ rfl (pre_ok rfl) ?_
    refine iter_ret rfl ?_
    exact ret_eq (.inl rfl) (.cons (res_one rfl rfl rfl) .nil) [0, 1, 2, 3, 4, 5, 6, 7, 8] (Eq.symm (bool_congr (decide_eq_false (fun q => q.1 i (by omega) hc2)))) ⟨shR rfl, shR rfl, shR rfl, shR rfl, shR rfl, shR rfl, shR rfl, shR rfl, shR rfl, trivial⟩ rfl (pre_ok rfl)
  refine w_skip ?_
  repeat (with_reducible first | refine bl_n ?_ | refine bl_r ?_ | refine nx_r ?_ | refine nx_e ?_ | refine bl_e rfl ?_)
  refine round_normal rfl ?_
  refine rw_t 23 rfl rfl rfl (do_not rfl ?_)
  refine rw_nil ?_
  refine w_cond rfl (fun hc4 => ?_) (fun hc4 => ?_)
  · exfalso; first | (cases hc4; done) | exact (hc4 trivial) | (try simp only [bs] at hc4; first | omega | (simp_all; done) | (simp_all; omega))
  refine w_skip ?_
  refine w_region ?_
  refine rw_t 18 rfl rfl rfl (do_move rfl ?_)
  refine rw_t 19 rfl rfl rfl (do_add rfl rfl (by omega) ?_)
  refine rw_t 4 rfl rfl rfl (do_assign rfl ?_)
  refine rw_nil ?_
  refine ⟨i + 1, [0, 1, 2, 3, 4, 5, 6, 7, 8, 9, 10, 11, 12, 13, 14, 15], by dsimp only; omega, ⟨by omega, fun j hj => by rcases Nat.lt_or_ge j i with q | q; exact g2 j q; have : j = i := (by omega); subst this; exact hc2⟩, ⟨shR rfl, shR rfl, shR rfl, shR rfl, shR rfl, shR rfl, shR rfl, shR rfl, shR rfl, shR rfl, shR rfl, shR rfl, shR rfl, shR rfl, shR rfl, shR rfl, trivial⟩, rfl, pre_ok rfl, ⟨⟨_, rfl, rfl⟩, ⟨_, rfl, rfl⟩, ⟨_, rfl, rfl⟩, ⟨_, rfl, Eq.symm (val_congr (by omega))⟩, trivial⟩⟩
end Go.Proofs

set_option linter.unusedVariables false
set_option linter.unusedSimpArgs false
namespace Go.Proofs
open Go Go.Sx Go.RowKit
def Pre.none : Pre := ⟨[], [], []⟩
def pushD (c : Csr) (p : Pre) (a : Int) : Int := if p.Res.getD a.toNat 0 < p.Ex.getD (tailOf c a).toNat 0 then p.Res.getD a.toNat 0 else p.Ex.getD (tailOf c a).toNat 0
def pushesP (c : Csr) (p : Pre) (a : Int) : Prop := activeP c p (tailOf c a) ∧ admP c p (tailOf c a) a
instance (c : Csr) (p : Pre) (a : Int) : Decidable (pushesP c p a) := by unfold pushesP; infer_instance
/-- P7.2. -/
def pushR (c : Csr) (p : Pre) (a : Int) : Pre × Int × Int :=
  if 0 ≤ a ∧ a < c.Head.length then (if pushesP c p a then (moveP c p a (pushD c p a), pushD c p a, 0) else (Pre.none, 0, 30)) else (Pre.none, 0, 2)
/-- What is moved stays within. -/
def PushIn (c : Csr) (p : Pre) : Prop := ∀ a : Int, 0 ≤ a ∧ a < c.Head.length → pushesP c p a → MoveIn c p a (pushD c p a)
def selK (q : Int → Bool) : Nat → List Int
  | 0 => []
  | k + 1 => if q k = true then selK q k ++ [(k : Int)] else selK q k
theorem selK_len (q : Int → Bool) : ∀ k, (selK q k).length ≤ k
  | 0 => by simp [selK]
  | k + 1 => by
    have := selK_len q k
    unfold selK
    split
    · simp only [List.length_append, List.length_singleton]; omega
    · omega
set_option maxHeartbeats 8000000 in
set_option synthInstance.maxHeartbeats 400000 in
set_option synthInstance.maxSize 2000 in
theorem t_TailN (c : Csr) (a : Int) (h : CsrT c) (ha : ¬ (0 ≤ a ∧ a < c.Head.length)) : Tri Try.prog 31 [.agg [.val (.int .i64 c.N), .val (.int .i64 c.S), .val (.int .i64 c.T), .slc 0 0 c.First.length none, .slc 1 0 c.Head.length none, .slc 2 0 c.Rev.length none, .slc 3 0 c.Cap.length none, .slc 4 0 c.Arc.length none, .slc 5 0 c.Back.length none], .val (.int .i64 a)] [SO.ints false .i64 c.First, SO.ints false .i64 c.Head, SO.ints false .i64 c.Rev, SO.ints false .i64 c.Cap, SO.ints false .i64 c.Arc, SO.bools false c.Back] (fun s H => s = .tup [.val (.int .i64 0), .val (.bool false)] ∧ H = [SO.ints false .i64 c.First, SO.ints false .i64 c.Head, SO.ints false .i64 c.Rev, SO.ints false .i64 c.Cap, SO.ints false .i64 c.Arc, SO.bools false c.Back]) := by
  refine tri_of_w (fn := Try.f31) Try.func31 rfl (by simp [Try.f31]) ?_
  intro ρ w hρ
  refine w_seq ?_
  refine w_region ?_
  refine rw_t 2 rfl rfl rfl (n_box_agg (n := 6) rfl rfl ?_)
  refine rw_t 4 rfl rfl rfl (do_assign rfl ?_)
  refine rw_t 5 rfl rfl rfl (do_assign rfl ?_)
  refine rw_nil ?_
  refine w_seq ?_
  have hn := h.n
  have hf := h.first
  have hhd := h.head
  have hrl := h.rev
  have hcl := h.cap
  have hal := h.arc
  have hbl := h.back
  refine w_seqB 13 ((a < 0 ∨ a ≥ ((c.Head.length : Nat) : Int))) ?_ ?_
  · -- region 1
    refine w_region ?_
    refine rw_t 6 rfl rfl rfl (do_move rfl ?_)
    refine rw_t 7 rfl rfl rfl (do_bin rfl rfl rfl ?_)
    refine rw_t 8 rfl rfl rfl (do_move rfl ?_)
    refine rw_case 8 rfl (fun g1 => ?_) (fun g1 => ?_)
    · have kg1 := g1
      try simp only [bs] at kg1
      refine rw_gf 9 2 8 false rfl rfl rfl rfl rfl rfl (by rw [g1]; decide) ?_
      refine rw_gf 10 2 8 false rfl rfl rfl rfl rfl rfl (by rw [g1]; decide) ?_
      refine rw_gf 11 2 8 false rfl rfl rfl rfl rfl rfl (by rw [g1]; decide) ?_
      refine rw_gf 12 2 8 false rfl rfl rfl rfl rfl rfl (by rw [g1]; decide) ?_
      refine rw_t 13 rfl rfl rfl (do_pick_t rfl g1 rfl ?_)
      refine rw_nil ?_
      refine ⟨rfl, ⟨_, rfl, by first | (simp; done) | (simp only [bs]; omega) | (simp [*]; done) | (simp; omega) | (constructor <;> intro h <;> simp_all <;> omega)⟩, ?_⟩
      repeat (refine ⟨⟨_, rfl, rfl⟩, ?_⟩)
      exact trivial
    · have kg1 := g1
      try simp only [bs] at kg1
      refine rw_gt 9 2 8 false rfl rfl rfl rfl rfl rfl g1 (do_move rfl ?_)
      refine rw_gt 10 2 8 false rfl rfl rfl rfl rfl rfl g1 (n_load_boxagg [_, _, _, _, _, _, _, _, _] rfl rfl (Nat.le_of_ble_eq_true rfl) rfl ?_)
      refine rw_gt 11 2 8 false rfl rfl rfl rfl rfl rfl g1 (do_callR (X' := .val (.int .i64 ((c.Head.length : Nat) : Int))) rfl rfl (t_Len (c := c)) [0, 1, 2, 3, 4, 5] ⟨.inr ⟨_, rfl, srv⟩, .inr ⟨_, rfl, srv⟩, .inr ⟨_, rfl, srv⟩, .inr ⟨_, rfl, srv⟩, .inr ⟨_, rfl, srv⟩, .inr ⟨_, rfl, srv⟩, trivial⟩ rfl rfl rfl ?_)
      refine rw_gt 12 2 8 false rfl rfl rfl rfl rfl rfl g1 (do_bin rfl rfl rfl ?_)
      refine rw_t 13 rfl rfl rfl (do_pick_f rfl g1 rfl ?_)
      refine rw_nil ?_
      refine ⟨rfl, ⟨_, rfl, by first | (simp; done) | (simp only [bs]; omega) | (simp [*]; done) | (simp; omega) | (constructor <;> intro h <;> simp_all <;> omega)⟩, ?_⟩
      repeat (refine ⟨⟨_, rfl, rfl⟩, ?_⟩)
      exact trivial
  intro b1 hb1
  refine w_condP hb1 rfl (fun hc1 => ?_) (fun hc1 => ?_)
  rotate_left
  · exfalso; omega
  refine w_seq ?_
  refine w_region ?_
  refine rw_t 4 rfl rfl rfl (do_assign rfl ?_)
  refine rw_t 5 rfl rfl rfl (do_assign rfl ?_)
  refine rw_nil ?_
  refine w_ret ?_
  exact ret_eq (.inl rfl) (.cons (res_tmp rfl) (.cons (res_tmp rfl) .nil)) [0, 1, 2, 3, 4, 5] (rfl) ⟨shR rfl, shR rfl, shR rfl, shR rfl, shR rfl, shR rfl, trivial⟩ rfl (pre_ok rfl)
set_option maxHeartbeats 8000000 in
set_option synthInstance.maxHeartbeats 400000 in
set_option synthInstance.maxSize 2000 in
theorem t_Push (c : Csr) (p : Pre) (h : CsrT c) (hp : PreIn c p) (hm : PushIn c p) (a : Int) : Tri Try.prog 22 [.agg [.val (.int .i64 c.N), .val (.int .i64 c.S), .val (.int .i64 c.T), .slc 0 0 c.First.length none, .slc 1 0 c.Head.length none, .slc 2 0 c.Rev.length none, .slc 3 0 c.Cap.length none, .slc 4 0 c.Arc.length none, .slc 5 0 c.Back.length none], .agg [.slc 6 0 p.Res.length none, .slc 7 0 p.Ex.length none, .slc 8 0 p.H.length none], .val (.int .i64 a)] [SO.ints false .i64 c.First, SO.ints false .i64 c.Head, SO.ints false .i64 c.Rev, SO.ints false .i64 c.Cap, SO.ints false .i64 c.Arc, SO.bools false c.Back, SO.ints false .i64 p.Res, SO.ints false .i64 p.Ex, SO.ints false .i64 p.H] (fun s H => s = .tup [.agg [.slc 9 0 ((pushR c p a).1.Res.length) none, .slc 10 0 ((pushR c p a).1.Ex.length) none, .slc 11 0 ((pushR c p a).1.H.length) none], .val (.int .i64 ((pushR c p a).2.1)), .val (.int .i64 ((pushR c p a).2.2))] ∧ H = [SO.ints false .i64 c.First, SO.ints false .i64 c.Head, SO.ints false .i64 c.Rev, SO.ints false .i64 c.Cap, SO.ints false .i64 c.Arc, SO.bools false c.Back, SO.ints false .i64 p.Res, SO.ints false .i64 p.Ex, SO.ints false .i64 p.H, SO.ints true .i64 ((pushR c p a).1.Res), SO.ints true .i64 ((pushR c p a).1.Ex), SO.ints true .i64 ((pushR c p a).1.H)]) := by
  refine tri_of_w (fn := Try.f22) Try.func22 rfl (by simp [Try.f22]) ?_
  intro ρ w hρ
  refine w_seq ?_
  have hn := h.n
  have hf := h.first
  have hhd := h.head
  have hrl := h.rev
  have hcl := h.cap
  have hal := h.arc
  have hbl := h.back
  have hr := hp.res
  have hx := hp.ex
  have hh := hp.h
  have hsm := h.small
  refine w_region ?_
  refine rw_t 3 rfl rfl rfl (n_box_agg (n := 9) rfl rfl ?_)
  refine rw_t 4 rfl rfl rfl (n_box_agg (n := 10) rfl rfl ?_)
  refine rw_t 6 rfl rfl rfl (n_alloc (n := 11) rfl ?_)
  refine rw_t 7 rfl rfl rfl (do_assign rfl ?_)
  refine rw_t 8 rfl rfl rfl (do_assign rfl ?_)
  refine rw_nil ?_
  refine w_seq ?_
  by_cases ha : 0 ≤ a ∧ a < c.Head.length
  · obtain ⟨tv, ht1, ht2, ht3, ht4⟩ := h.tail_at ha.1 ha.2
    have hu : 0 ≤ tailOf c a ∧ tailOf c a < c.N := by omega
    refine w_region ?_
    refine rw_t 14 rfl rfl rfl (n_load_boxagg [_, _, _, _, _, _, _, _, _] rfl rfl (Nat.le_of_ble_eq_true rfl) rfl ?_)
    refine rw_t 15 rfl rfl rfl (do_move rfl ?_)
    refine rw_t 16 rfl rfl rfl (do_callR (X' := .tup [.val (.int .i64 (tailOf c a)), .val (.bool true)]) rfl rfl (t_Tail (c := c) (a := a) (h) (ha)) [0, 1, 2, 3, 4, 5] ⟨.inr ⟨_, rfl, srv⟩, .inr ⟨_, rfl, srv⟩, .inr ⟨_, rfl, srv⟩, .inr ⟨_, rfl, srv⟩, .inr ⟨_, rfl, srv⟩, .inr ⟨_, rfl, srv⟩, trivial⟩ rfl rfl rfl ?_)
    refine rw_t 13 rfl rfl rfl (do_move rfl ?_)
    refine rw_t 17 rfl rfl rfl (do_extract rfl rfl ?_)
    refine rw_t 18 rfl rfl rfl (do_extract rfl rfl ?_)
    refine rw_t 9 rfl rfl rfl (do_assign rfl ?_)
    refine rw_t 10 rfl rfl rfl (do_assign rfl ?_)
    refine rw_nil ?_
    refine w_seq ?_
    refine w_block ?_
    refine w_seq ?_
    refine w_region ?_
    refine rw_t 20 rfl rfl rfl (do_move rfl ?_)
    refine rw_t 21 rfl rfl rfl (do_not rfl ?_)
    refine rw_t 19 rfl rfl rfl (do_assign rfl ?_)
    refine rw_nil ?_
    refine w_cond rfl (fun hc1 => ?_) (fun hc1 => ?_)
    · exfalso; first | (cases hc1; done) | exact (hc1 trivial) | (try simp only [bs] at hc1; first | omega | (simp_all; done) | (simp_all; omega))
    refine w_seqB 23 ((¬ (activeP c p (tailOf c a)) ∨ ¬ (admP c p (tailOf c a) a))) ?_ ?_
    · -- region 4
      refine w_region ?_
      refine rw_t 24 rfl rfl rfl (n_load_boxagg [_, _, _, _, _, _, _, _, _] rfl rfl (Nat.le_of_ble_eq_true rfl) rfl ?_)
      refine rw_t 25 rfl rfl rfl (n_load_boxagg [_, _, _] rfl rfl (Nat.le_of_ble_eq_true rfl) rfl ?_)
      refine rw_t 26 rfl rfl rfl (do_move rfl ?_)
      refine rw_t 27 rfl rfl rfl (do_callR (X' := .val (.bool (decide (activeP c p (tailOf c a))))) rfl rfl (t_active (c := c) (p := p) (u := tailOf c a) (h) (hp) (hu)) [0, 1, 2, 3, 4, 5, 6, 7, 8] ⟨.inr ⟨_, rfl, srv⟩, .inr ⟨_, rfl, srv⟩, .inr ⟨_, rfl, srv⟩, .inr ⟨_, rfl, srv⟩, .inr ⟨_, rfl, srv⟩, .inr ⟨_, rfl, srv⟩, .inr ⟨_, rfl, srv⟩, .inr ⟨_, rfl, srv⟩, .inr ⟨_, rfl, srv⟩, trivial⟩ rfl rfl rfl ?_)
      refine rw_t 28 rfl rfl rfl (do_not rfl ?_)
      refine rw_t 29 rfl rfl rfl (do_move rfl ?_)
      refine rw_case 29 rfl (fun g1 => ?_) (fun g1 => ?_)
      · have kg1 := g1
        try simp only [bs] at kg1
        refine rw_gf 30 5 29 false rfl rfl rfl rfl rfl rfl (by rw [g1]; decide) ?_
        refine rw_gf 31 5 29 false rfl rfl rfl rfl rfl rfl (by rw [g1]; decide) ?_
        refine rw_gf 32 5 29 false rfl rfl rfl rfl rfl rfl (by rw [g1]; decide) ?_
        refine rw_gf 33 5 29 false rfl rfl rfl rfl rfl rfl (by rw [g1]; decide) ?_
        refine rw_gf 34 5 29 false rfl rfl rfl rfl rfl rfl (by rw [g1]; decide) ?_
        refine rw_gf 35 5 29 false rfl rfl rfl rfl rfl rfl (by rw [g1]; decide) ?_
        refine rw_t 36 rfl rfl rfl (do_pick_t rfl g1 rfl ?_)
        refine rw_t 23 rfl rfl rfl (do_assign rfl ?_)
        refine rw_nil ?_
        refine ⟨rfl, ⟨_, rfl, by first | (simp; done) | (simp only [bs]; omega) | (simp [*]; done) | (simp; omega) | (constructor <;> intro h <;> simp_all <;> omega)⟩, ?_⟩
        repeat (refine ⟨⟨_, rfl, rfl⟩, ?_⟩)
        exact trivial
      · have kg1 := g1
        try simp only [bs] at kg1
        refine rw_gt 30 5 29 false rfl rfl rfl rfl rfl rfl g1 (n_load_boxagg [_, _, _, _, _, _, _, _, _] rfl rfl (Nat.le_of_ble_eq_true rfl) rfl ?_)
        refine rw_gt 31 5 29 false rfl rfl rfl rfl rfl rfl g1 (n_load_boxagg [_, _, _] rfl rfl (Nat.le_of_ble_eq_true rfl) rfl ?_)
        refine rw_gt 32 5 29 false rfl rfl rfl rfl rfl rfl g1 (do_move rfl ?_)
        refine rw_gt 33 5 29 false rfl rfl rfl rfl rfl rfl g1 (do_move rfl ?_)
        refine rw_gt 34 5 29 false rfl rfl rfl rfl rfl rfl g1 (do_callR (X' := .val (.bool (decide (admP c p (tailOf c a) a)))) rfl rfl (t_adm (c := c) (p := p) (u := tailOf c a) (a := a) (h) (hp) (hu) (ha)) [0, 1, 2, 3, 4, 5, 6, 7, 8] ⟨.inr ⟨_, rfl, srv⟩, .inr ⟨_, rfl, srv⟩, .inr ⟨_, rfl, srv⟩, .inr ⟨_, rfl, srv⟩, .inr ⟨_, rfl, srv⟩, .inr ⟨_, rfl, srv⟩, .inr ⟨_, rfl, srv⟩, .inr ⟨_, rfl, srv⟩, .inr ⟨_, rfl, srv⟩, trivial⟩ rfl rfl rfl ?_)
        refine rw_gt 35 5 29 false rfl rfl rfl rfl rfl rfl g1 (do_not rfl ?_)
        refine rw_t 36 rfl rfl rfl (do_pick_f rfl g1 rfl ?_)
        refine rw_t 23 rfl rfl rfl (do_assign rfl ?_)
        refine rw_nil ?_
        refine ⟨rfl, ⟨_, rfl, by first | (simp; done) | (simp only [bs]; omega) | (simp [*]; done) | (simp; omega) | (constructor <;> intro h <;> simp_all <;> omega)⟩, ?_⟩
        repeat (refine ⟨⟨_, rfl, rfl⟩, ?_⟩)
        exact trivial
    intro b1 hb1
    refine w_condP hb1 rfl (fun hc2 => ?_) (fun hc2 => ?_)
    · refine w_seq ?_
      refine w_region ?_
      refine rw_t 37 rfl rfl rfl (do_build (out := [_, _, _]) rfl rfl ?_)
      refine rw_u rfl rfl (n_store_whole rfl rfl rfl rfl rfl rfl ?_)
      refine rw_t 7 rfl rfl rfl (do_assign rfl ?_)
      refine rw_t 8 rfl rfl rfl (do_assign rfl ?_)
      refine rw_nil ?_
      have hno : ¬ pushesP c p a := fun q => by rcases hc2 with w | w; exact w q.1; exact w q.2
      have e1 : pushR c p a = (Pre.none, 0, 30) := by unfold pushR; rw [if_pos ha, if_neg hno]
      refine n_ghost Int 1 (encI .i64) 0 (fun _ => rfl) (fun _ _ h => by simp [encI] at h; subst h; rfl) ?_
      refine n_nilB 11 0 12 0 rfl rfl ?_
      refine n_ghost Int 1 (encI .i64) 0 (fun _ => rfl) (fun _ _ h => by simp [encI] at h; subst h; rfl) ?_
      refine n_nilB 11 1 13 0 rfl rfl ?_
      refine n_ghost Int 1 (encI .i64) 0 (fun _ => rfl) (fun _ _ h => by simp [encI] at h; subst h; rfl) ?_
      refine n_nilB 11 2 14 0 rfl rfl ?_
      refine w_ret ?_
      exact ret_eq (.inl rfl) (.cons (res_agg rfl rfl (Nat.le_of_ble_eq_true rfl)) (.cons (res_tmp rfl) (.cons (res_tmp rfl) .nil))) [0, 1, 2, 3, 4, 5, 6, 7, 8, 12, 13, 14] (by rw [e1]; rfl) ⟨shR rfl, shR rfl, shR rfl, shR rfl, shR rfl, shR rfl, shR rfl, shR rfl, shR rfl, .inr ⟨_, rfl, .inl (congrArg (SO.ints true .i64) (by rw [e1]; try rfl))⟩, .inr ⟨_, rfl, .inl (congrArg (SO.ints true .i64) (by rw [e1]; try rfl))⟩, .inr ⟨_, rfl, .inl (congrArg (SO.ints true .i64) (by rw [e1]; try rfl))⟩, trivial⟩ rfl (pre_ok rfl)
    refine w_skip ?_
    refine w_seq ?_
    have hpu : pushesP c p a := by unfold pushesP; simpa using hc2
    refine w_region ?_
    refine rw_t 38 rfl rfl rfl (n_load_boxagg [_, _, _] rfl rfl (Nat.le_of_ble_eq_true rfl) rfl ?_)
    refine rw_t 39 rfl rfl rfl (n_callN (X' := .agg [.slc 12 0 p.Res.length none, .slc 13 0 p.Ex.length none, .slc 14 0 p.H.length none]) (N' := [SO.ints true .i64 p.Res, SO.ints true .i64 p.Ex, SO.ints true .i64 p.H]) rfl rfl (t_Copy (p := p) (by omega)) [6, 7, 8] ⟨.inr ⟨_, rfl, srv⟩, .inr ⟨_, rfl, srv⟩, .inr ⟨_, rfl, srv⟩, trivial⟩ rfl rfl rfl rfl rfl ?_)
    refine rw_t 11 rfl rfl rfl (n_alloc (n := 15) rfl ?_)
    refine rw_u rfl rfl (n_store_whole rfl rfl rfl rfl rfl rfl ?_)
    refine rw_nil ?_
    refine w_seq ?_
    refine w_draw mixed [0, 1, 0, 7, 15, 0, 32, 0, 224, 480] [1023, 2047] (by kernel_rfl) (by kernel_rfl) rfl rfl rfl (hle hρ rfl) ?_
    refine ra_q (j := 0) rfl rfl rfl rfl (do_fieldaddr rfl ⟨rfl, rfl⟩) (by rfl) ?_
    refine ra_q (j := 1) rfl rfl rfl rfl (do_load_box rfl rfl rfl ⟨rfl, rfl⟩) (by rfl) ?_
    refine ra_q (j := 2) rfl rfl rfl rfl (do_move rfl ⟨rfl, rfl⟩) (by rfl) ?_
    refine ra_q (j := 3) rfl rfl rfl rfl (do_ix0 rfl rfl rfl (by first | omega | (simp only [ls] <;> omega)) ⟨rfl, rfl⟩) (by rfl) ?_
    refine ra_q (j := 4) rfl rfl rfl rfl (do_load_arr rfl rfl (by first | omega | (simp only [ls] <;> omega)) rfl ⟨rfl, rfl⟩) (by rfl) ?_
    refine ra_q (j := 5) rfl rfl rfl rfl (do_fieldaddr rfl ⟨rfl, rfl⟩) (by rfl) ?_
    refine ra_q (j := 6) rfl rfl rfl rfl (do_load_box rfl rfl rfl ⟨rfl, rfl⟩) (by rfl) ?_
    refine ra_q (j := 7) rfl rfl rfl rfl (do_move rfl ⟨rfl, rfl⟩) (by rfl) ?_
    refine ra_q (j := 8) rfl rfl rfl rfl (do_ix0 rfl rfl rfl (by first | omega | (simp only [ls] <;> omega)) ⟨rfl, rfl⟩) (by rfl) ?_
    refine ra_q (j := 9) rfl rfl rfl rfl (do_load_arr rfl rfl (by first | omega | (simp only [ls] <;> omega)) rfl ⟨rfl, rfl⟩) (by rfl) ?_
    refine n_done ?_
    refine rw_t 50 rfl rfl rfl (do_min rfl rfl ?_)
    refine rw_t 12 rfl rfl rfl (do_assign rfl ?_)
    refine rw_nil ?_
    refine w_seq ?_
    refine w_region ?_
    refine rw_t 51 rfl rfl rfl (n_load_boxagg [_, _, _, _, _, _, _, _, _] rfl rfl (Nat.le_of_ble_eq_true rfl) rfl ?_)
    refine rw_t 52 rfl rfl rfl (do_move rfl ?_)
    refine rw_t 53 rfl rfl rfl (do_move rfl ?_)
    refine rw_t 54 rfl rfl rfl (n_callW (X' := .tup []) (H' := [SO.ints false .i64 c.First, SO.ints false .i64 c.Head, SO.ints false .i64 c.Rev, SO.ints false .i64 c.Cap, SO.ints false .i64 c.Arc, SO.bools false c.Back, SO.ints false .i64 p.Res, SO.ints false .i64 p.Ex, SO.ints false .i64 p.H, .box [.val (.int .i64 c.N), .val (.int .i64 c.S), .val (.int .i64 c.T), .slc 0 0 c.First.length none, .slc 1 0 c.Head.length none, .slc 2 0 c.Rev.length none, .slc 3 0 c.Cap.length none, .slc 4 0 c.Arc.length none, .slc 5 0 c.Back.length none], .box [.slc 6 0 p.Res.length none, .slc 7 0 p.Ex.length none, .slc 8 0 p.H.length none], .box [.val (.slice none 0 0), .val (.slice none 0 0), .val (.slice none 0 0)], SO.ints true .i64 ((moveP c p a (pushD c p a)).Res), SO.ints true .i64 ((moveP c p a (pushD c p a)).Ex), SO.ints true .i64 p.H, .box [.slc 12 0 p.Res.length none, .slc 13 0 p.Ex.length none, .slc 14 0 p.H.length none]]) rfl rfl (t_move (c := c) (p := p) (a := a) (d := (pushD c p a)) (h.toCsrOK) (hp.toPreLen) (ha) (hm a ha hpu)) [0, 1, 2, 3, 4, 5, 12, 13, 14, 15] ⟨.inr ⟨_, rfl, srv⟩, .inr ⟨_, rfl, srv⟩, .inr ⟨_, rfl, srv⟩, .inr ⟨_, rfl, srv⟩, .inr ⟨_, rfl, srv⟩, .inr ⟨_, rfl, srv⟩, shR rfl, shR rfl, shR rfl, shR rfl, trivial⟩ rfl rfl ⟨fun h => (by cases h), ⟨fun h => (by cases h), ⟨fun h => (by cases h), ⟨fun h => (by cases h), ⟨fun h => (by cases h), ⟨fun h => (by cases h), ⟨fun h => .inl rfl, ⟨fun h => .inl rfl, ⟨fun h => .inl rfl, ⟨fun h => .inl rfl, (fun y hy => by simp at hy)⟩⟩⟩⟩⟩⟩⟩⟩⟩⟩ rfl rfl ?_)
    refine rw_nil ?_
    refine w_seq ?_
    refine w_region ?_
    refine rw_t 55 rfl rfl rfl (n_load_boxagg [_, _, _] rfl rfl (Nat.le_of_ble_eq_true rfl) rfl ?_)
    refine rw_t 56 rfl rfl rfl (do_move rfl ?_)
    refine rw_u rfl rfl (n_store_whole rfl rfl rfl rfl rfl rfl ?_)
    refine rw_t 7 rfl rfl rfl (do_assign rfl ?_)
    refine rw_t 8 rfl rfl rfl (do_assign rfl ?_)
    refine rw_nil ?_
    have e1 : pushR c p a = (moveP c p a (pushD c p a), pushD c p a, 0) := by unfold pushR; rw [if_pos ha, if_pos hpu]
    obtain ⟨l1, l2, l3⟩ := moveP_len c p a (pushD c p a)
    refine w_ret ?_
    exact ret_eq (.inl rfl) (.cons (res_agg rfl rfl (Nat.le_of_ble_eq_true rfl)) (.cons (res_tmp rfl) (.cons (res_tmp rfl) .nil))) [0, 1, 2, 3, 4, 5, 6, 7, 8, 12, 13, 14] (by rw [e1]; first | (simp only [l1, l2, l3]; done) | (simp only [l1, l2, l3]; rfl)) ⟨shR rfl, shR rfl, shR rfl, shR rfl, shR rfl, shR rfl, shR rfl, shR rfl, shR rfl, .inr ⟨_, rfl, .inl (congrArg (SO.ints true .i64) (by rw [e1]; try rfl))⟩, .inr ⟨_, rfl, .inl (congrArg (SO.ints true .i64) (by rw [e1]; try rfl))⟩, .inr ⟨_, rfl, .inl (congrArg (SO.ints true .i64) (by rw [e1]; try rfl))⟩, trivial⟩ rfl (pre_ok rfl)
  · -- region 1
    refine w_region ?_
    refine rw_t 14 rfl rfl rfl (n_load_boxagg [_, _, _, _, _, _, _, _, _] rfl rfl (Nat.le_of_ble_eq_true rfl) rfl ?_)
    refine rw_t 15 rfl rfl rfl (do_move rfl ?_)
    refine rw_t 16 rfl rfl rfl (do_callR (X' := .tup [.val (.int .i64 0), .val (.bool false)]) rfl rfl (t_TailN (c := c) (a := a) (h) (ha)) [0, 1, 2, 3, 4, 5] ⟨.inr ⟨_, rfl, srv⟩, .inr ⟨_, rfl, srv⟩, .inr ⟨_, rfl, srv⟩, .inr ⟨_, rfl, srv⟩, .inr ⟨_, rfl, srv⟩, .inr ⟨_, rfl, srv⟩, trivial⟩ rfl rfl rfl ?_)
    refine rw_t 13 rfl rfl rfl (do_move rfl ?_)
    refine rw_t 17 rfl rfl rfl (do_extract rfl rfl ?_)
    refine rw_t 18 rfl rfl rfl (do_extract rfl rfl ?_)
    refine rw_t 9 rfl rfl rfl (do_assign rfl ?_)
    refine rw_t 10 rfl rfl rfl (do_assign rfl ?_)
    refine rw_nil ?_
    refine w_seq ?_
    refine w_block ?_
    refine w_seq ?_
    refine w_region ?_
    refine rw_t 20 rfl rfl rfl (do_move rfl ?_)
    refine rw_t 21 rfl rfl rfl (do_not rfl ?_)
    refine rw_t 19 rfl rfl rfl (do_assign rfl ?_)
    refine rw_nil ?_
    refine w_cond rfl (fun hc3 => ?_) (fun hc3 => ?_)
    rotate_left
    · exfalso; first | (cases hc3; done) | exact (hc3 trivial) | (try simp only [bs] at hc3; first | omega | (simp_all; done) | (simp_all; omega))
    refine w_seq ?_
    refine w_region ?_
    refine rw_t 22 rfl rfl rfl (do_build (out := [_, _, _]) rfl rfl ?_)
    refine rw_u rfl rfl (n_store_whole rfl rfl rfl rfl rfl rfl ?_)
    refine rw_t 7 rfl rfl rfl (do_assign rfl ?_)
    refine rw_t 8 rfl rfl rfl (do_assign rfl ?_)
    refine rw_nil ?_
    have e1 : pushR c p a = (Pre.none, 0, 2) := by unfold pushR; rw [if_neg ha]
    refine n_ghost Int 1 (encI .i64) 0 (fun _ => rfl) (fun _ _ h => by simp [encI] at h; subst h; rfl) ?_
    refine n_nilB 11 0 12 0 rfl rfl ?_
    refine n_ghost Int 1 (encI .i64) 0 (fun _ => rfl) (fun _ _ h => by simp [encI] at h; subst h; rfl) ?_
    refine n_nilB 11 1 13 0 rfl rfl ?_
    refine n_ghost Int 1 (encI .i64) 0 (fun _ => rfl) (fun _ _ h => by simp [encI] at h; subst h; rfl) ?_
    refine n_nilB 11 2 14 0 rfl rfl ?_
    refine w_ret ?_
    exact ret_eq (.inl rfl) (.cons (res_agg rfl rfl (Nat.le_of_ble_eq_true rfl)) (.cons (res_tmp rfl) (.cons (res_tmp rfl) .nil))) [0, 1, 2, 3, 4, 5, 6, 7, 8, 12, 13, 14] (by rw [e1]; rfl) ⟨shR rfl, shR rfl, shR rfl, shR rfl, shR rfl, shR rfl, shR rfl, shR rfl, shR rfl, .inr ⟨_, rfl, .inl (congrArg (SO.ints true .i64) (by rw [e1]; try rfl))⟩, .inr ⟨_, rfl, .inl (congrArg (SO.ints true .i64) (by rw [e1]; try rfl))⟩, .inr ⟨_, rfl, .inl (congrArg (SO.ints true .i64) (by rw [e1]; try rfl))⟩, trivial⟩ rfl (pre_ok rfl)
end Go.Proofs

set_option linter.unusedVariables false
set_option linter.unusedSimpArgs false
namespace Go.Proofs
open Go Go.Sx Go.RowKit
/-- The lowest end of S residual arcs, from some number down. -/
def lowL (c : Csr) (p : Pre) (a0 : Int) (m : Int) : Nat → Int
  | 0 => m
  | k + 1 => if p.Res.getD (a0 + k).toNat 0 > 0 then (if p.H.getD (c.Head.getD (a0 + k).toNat 0).toNat 0 < lowL c p a0 m k then p.H.getD (c.Head.getD (a0 + k).toNat 0).toNat 0 else lowL c p a0 m k) else lowL c p a0 m k
def leastL (c : Csr) (p : Pre) (u : Int) : Int := lowL c p (c.First.getD u.toNat 0) (2 * c.N) (manyOf c u)
theorem lowL_in {c : Csr} {p : Pre} (hh : ∀ v, 0 ≤ p.H.getD v 0 ∧ p.H.getD v 0 ≤ 8192) (a0 : Int) {m : Int} (hm : 0 ≤ m ∧ m ≤ 8192) : ∀ k, 0 ≤ lowL c p a0 m k ∧ lowL c p a0 m k ≤ 8192
  | 0 => hm
  | k + 1 => by
    have ih := lowL_in (c := c) hh a0 hm k
    have := hh (c.Head.getD (a0 + k).toNat 0).toNat
    unfold lowL
    repeat' split
    all_goals omega
/-- P7.3. -/
def liftR (c : Csr) (p : Pre) (u : Int) : Pre × Int :=
  if 0 ≤ u ∧ u < c.N then (if stuckP c p u then (⟨p.Res, p.Ex, p.H.set u.toNat (leastL c p u + 1)⟩, 0) else (Pre.none, 30)) else (Pre.none, 2)
set_option maxHeartbeats 8000000 in
set_option synthInstance.maxHeartbeats 400000 in
set_option synthInstance.maxSize 2000 in
theorem t_Lift (c : Csr) (p : Pre) (h : CsrT c) (hp : PreIn c p) (u : Int) : Tri Try.prog 24 [.agg [.val (.int .i64 c.N), .val (.int .i64 c.S), .val (.int .i64 c.T), .slc 0 0 c.First.length none, .slc 1 0 c.Head.length none, .slc 2 0 c.Rev.length none, .slc 3 0 c.Cap.length none, .slc 4 0 c.Arc.length none, .slc 5 0 c.Back.length none], .agg [.slc 6 0 p.Res.length none, .slc 7 0 p.Ex.length none, .slc 8 0 p.H.length none], .val (.int .i64 u)] [SO.ints false .i64 c.First, SO.ints false .i64 c.Head, SO.ints false .i64 c.Rev, SO.ints false .i64 c.Cap, SO.ints false .i64 c.Arc, SO.bools false c.Back, SO.ints false .i64 p.Res, SO.ints false .i64 p.Ex, SO.ints false .i64 p.H] (fun s H => s = .tup [.agg [.slc 9 0 ((liftR c p u).1.Res.length) none, .slc 10 0 ((liftR c p u).1.Ex.length) none, .slc 11 0 ((liftR c p u).1.H.length) none], .val (.int .i64 ((liftR c p u).2))] ∧ H = [SO.ints false .i64 c.First, SO.ints false .i64 c.Head, SO.ints false .i64 c.Rev, SO.ints false .i64 c.Cap, SO.ints false .i64 c.Arc, SO.bools false c.Back, SO.ints false .i64 p.Res, SO.ints false .i64 p.Ex, SO.ints false .i64 p.H, SO.ints true .i64 ((liftR c p u).1.Res), SO.ints true .i64 ((liftR c p u).1.Ex), SO.ints true .i64 ((liftR c p u).1.H)]) := by
  refine tri_of_w (fn := Try.f24) Try.func24 rfl (by simp [Try.f24]) ?_
  intro ρ w hρ
  refine w_seq ?_
  have hn := h.n
  have hf := h.first
  have hhd := h.head
  have hrl := h.rev
  have hcl := h.cap
  have hal := h.arc
  have hbl := h.back
  have hr := hp.res
  have hx := hp.ex
  have hh := hp.h
  have hsm := h.small
  refine w_region ?_
  refine rw_t 3 rfl rfl rfl (n_box_agg (n := 9) rfl rfl ?_)
  refine rw_t 4 rfl rfl rfl (n_box_agg (n := 10) rfl rfl ?_)
  refine rw_t 6 rfl rfl rfl (n_alloc (n := 11) rfl ?_)
  refine rw_t 7 rfl rfl rfl (do_assign rfl ?_)
  refine rw_nil ?_
  refine w_seq ?_
  refine w_block ?_
  refine w_seqB 11 ((u < 0 ∨ u ≥ c.N)) ?_ ?_
  · -- region 1
    refine w_region ?_
    refine rw_t 12 rfl rfl rfl (do_move rfl ?_)
    refine rw_t 13 rfl rfl rfl (do_bin rfl rfl rfl ?_)
    refine rw_t 14 rfl rfl rfl (do_move rfl ?_)
    refine rw_case 14 rfl (fun g1 => ?_) (fun g1 => ?_)
    · have kg1 := g1
      try simp only [bs] at kg1
      refine rw_gf 15 2 14 false rfl rfl rfl rfl rfl rfl (by rw [g1]; decide) ?_
      refine rw_gf 16 2 14 false rfl rfl rfl rfl rfl rfl (by rw [g1]; decide) ?_
      refine rw_gf 17 2 14 false rfl rfl rfl rfl rfl rfl (by rw [g1]; decide) ?_
      refine rw_gf 18 2 14 false rfl rfl rfl rfl rfl rfl (by rw [g1]; decide) ?_
      refine rw_t 19 rfl rfl rfl (do_pick_t rfl g1 rfl ?_)
      refine rw_t 11 rfl rfl rfl (do_assign rfl ?_)
      refine rw_nil ?_
      refine ⟨rfl, ⟨_, rfl, by first | (simp; done) | (simp only [bs]; omega) | (simp [*]; done) | (simp; omega) | (constructor <;> intro h <;> simp_all <;> omega)⟩, ?_⟩
      repeat (refine ⟨⟨_, rfl, rfl⟩, ?_⟩)
      exact trivial
    · have kg1 := g1
      try simp only [bs] at kg1
      refine rw_gt 15 2 14 false rfl rfl rfl rfl rfl rfl g1 (do_move rfl ?_)
      refine rw_gt 16 2 14 false rfl rfl rfl rfl rfl rfl g1 (do_fieldaddr rfl ?_)
      refine rw_gt 17 2 14 false rfl rfl rfl rfl rfl rfl g1 (do_load_box rfl rfl rfl ?_)
      refine rw_gt 18 2 14 false rfl rfl rfl rfl rfl rfl g1 (do_bin rfl rfl rfl ?_)
      refine rw_t 19 rfl rfl rfl (do_pick_f rfl g1 rfl ?_)
      refine rw_t 11 rfl rfl rfl (do_assign rfl ?_)
      refine rw_nil ?_
      refine ⟨rfl, ⟨_, rfl, by first | (simp; done) | (simp only [bs]; omega) | (simp [*]; done) | (simp; omega) | (constructor <;> intro h <;> simp_all <;> omega)⟩, ?_⟩
      repeat (refine ⟨⟨_, rfl, rfl⟩, ?_⟩)
      exact trivial
  intro b1 hb1
  refine w_condP hb1 rfl (fun hc1 => ?_) (fun hc1 => ?_)
  · refine w_seq ?_
    refine w_region ?_
    refine rw_t 20 rfl rfl rfl (do_build (out := [_, _, _]) rfl rfl ?_)
    refine rw_u rfl rfl (n_store_whole rfl rfl rfl rfl rfl rfl ?_)
    refine rw_t 7 rfl rfl rfl (do_assign rfl ?_)
    refine rw_nil ?_
    have hno : ¬ (0 ≤ u ∧ u < c.N) := by omega
    have e1 : liftR c p u = (Pre.none, 2) := by unfold liftR; rw [if_neg hno]
    refine n_ghost Int 1 (encI .i64) 0 (fun _ => rfl) (fun _ _ h => by simp [encI] at h; subst h; rfl) ?_
    refine n_nilB 11 0 12 0 rfl rfl ?_
    refine n_ghost Int 1 (encI .i64) 0 (fun _ => rfl) (fun _ _ h => by simp [encI] at h; subst h; rfl) ?_
    refine n_nilB 11 1 13 0 rfl rfl ?_
    refine n_ghost Int 1 (encI .i64) 0 (fun _ => rfl) (fun _ _ h => by simp [encI] at h; subst h; rfl) ?_
    refine n_nilB 11 2 14 0 rfl rfl ?_
    refine w_ret ?_
    exact ret_eq (.inl rfl) (.cons (res_agg rfl rfl (Nat.le_of_ble_eq_true rfl)) (.cons (res_tmp rfl) .nil)) [0, 1, 2, 3, 4, 5, 6, 7, 8, 12, 13, 14] (by rw [e1]; rfl) ⟨shR rfl, shR rfl, shR rfl, shR rfl, shR rfl, shR rfl, shR rfl, shR rfl, shR rfl, .inr ⟨_, rfl, .inl (congrArg (SO.ints true .i64) (by rw [e1]; try rfl))⟩, .inr ⟨_, rfl, .inl (congrArg (SO.ints true .i64) (by rw [e1]; try rfl))⟩, .inr ⟨_, rfl, .inl (congrArg (SO.ints true .i64) (by rw [e1]; try rfl))⟩, trivial⟩ rfl (pre_ok rfl)
  refine w_seq ?_
  have hu : 0 ≤ u ∧ u < c.N := by omega
  have hm := h.mono u.toNat (by omega)
  have hmt : (u + 1).toNat = u.toNat + 1 := by omega
  rw [← hmt] at hm
  have hmo : manyOf c u = (c.First.getD (u + 1).toNat 0 - c.First.getD u.toNat 0).toNat := rfl
  have hsm := h.small
  refine w_region ?_
  refine rw_t 22 rfl rfl rfl (n_load_boxagg [_, _, _, _, _, _, _, _, _] rfl rfl (Nat.le_of_ble_eq_true rfl) rfl ?_)
  refine rw_t 23 rfl rfl rfl (n_load_boxagg [_, _, _] rfl rfl (Nat.le_of_ble_eq_true rfl) rfl ?_)
  refine rw_t 24 rfl rfl rfl (do_move rfl ?_)
  refine rw_t 25 rfl rfl rfl (do_callR (X' := .val (.bool (decide (stuckP c p u)))) rfl rfl (t_stuck (c := c) (p := p) (u := u) (h) (hp) (hu)) [0, 1, 2, 3, 4, 5, 6, 7, 8] ⟨.inr ⟨_, rfl, srv⟩, .inr ⟨_, rfl, srv⟩, .inr ⟨_, rfl, srv⟩, .inr ⟨_, rfl, srv⟩, .inr ⟨_, rfl, srv⟩, .inr ⟨_, rfl, srv⟩, .inr ⟨_, rfl, srv⟩, .inr ⟨_, rfl, srv⟩, .inr ⟨_, rfl, srv⟩, trivial⟩ rfl rfl rfl ?_)
  refine rw_t 26 rfl rfl rfl (do_not rfl ?_)
  refine rw_t 21 rfl rfl rfl (do_assign rfl ?_)
  refine rw_nil ?_
  refine w_cond rfl (fun hc2 => ?_) (fun hc2 => ?_)
  all_goals try simp only [bs] at hc2
  · refine w_seq ?_
    refine w_region ?_
    refine rw_t 27 rfl rfl rfl (do_build (out := [_, _, _]) rfl rfl ?_)
    refine rw_u rfl rfl (n_store_whole rfl rfl rfl rfl rfl rfl ?_)
    refine rw_t 7 rfl rfl rfl (do_assign rfl ?_)
    refine rw_nil ?_
    have hno : ¬ stuckP c p u := by simpa using hc2
    have e1 : liftR c p u = (Pre.none, 30) := by unfold liftR; rw [if_pos hu, if_neg hno]
    refine n_ghost Int 1 (encI .i64) 0 (fun _ => rfl) (fun _ _ h => by simp [encI] at h; subst h; rfl) ?_
    refine n_nilB 11 0 12 0 rfl rfl ?_
    refine n_ghost Int 1 (encI .i64) 0 (fun _ => rfl) (fun _ _ h => by simp [encI] at h; subst h; rfl) ?_
    refine n_nilB 11 1 13 0 rfl rfl ?_
    refine n_ghost Int 1 (encI .i64) 0 (fun _ => rfl) (fun _ _ h => by simp [encI] at h; subst h; rfl) ?_
    refine n_nilB 11 2 14 0 rfl rfl ?_
    refine w_ret ?_
    exact ret_eq (.inl rfl) (.cons (res_agg rfl rfl (Nat.le_of_ble_eq_true rfl)) (.cons (res_tmp rfl) .nil)) [0, 1, 2, 3, 4, 5, 6, 7, 8, 12, 13, 14] (by rw [e1]; rfl) ⟨shR rfl, shR rfl, shR rfl, shR rfl, shR rfl, shR rfl, shR rfl, shR rfl, shR rfl, .inr ⟨_, rfl, .inl (congrArg (SO.ints true .i64) (by rw [e1]; try rfl))⟩, .inr ⟨_, rfl, .inl (congrArg (SO.ints true .i64) (by rw [e1]; try rfl))⟩, .inr ⟨_, rfl, .inl (congrArg (SO.ints true .i64) (by rw [e1]; try rfl))⟩, trivial⟩ rfl (pre_ok rfl)
  refine w_skip ?_
  refine w_seq ?_
  refine w_region ?_
  refine rw_t 28 rfl rfl rfl (do_fieldaddr rfl ?_)
  refine rw_t 29 rfl rfl rfl (do_load_box rfl rfl rfl ?_)
  refine rw_t 30 rfl rfl rfl (do_mul rfl rfl (by omega) ?_)
  refine rw_t 8 rfl rfl rfl (n_alloc (n := 12) rfl ?_)
  refine rw_u rfl rfl (n_store_box (f := 0) rfl rfl rfl (Nat.le_of_ble_eq_true rfl) rfl ?_)
  refine rw_nil ?_
  refine w_seq ?_
  refine w_seq ?_
  refine w_region ?_
  refine rw_t 31 rfl rfl rfl (n_load_boxagg [_, _, _, _, _, _, _, _, _] rfl rfl (Nat.le_of_ble_eq_true rfl) rfl ?_)
  refine rw_t 32 rfl rfl rfl (do_move rfl ?_)
  refine rw_t 33 rfl rfl rfl (n_callN (X' := .func 75 [] [.ptr 13 0 0, .ptr 14 0 0]) (N' := [.box [.val (.int .i64 c.N), .val (.int .i64 c.S), .val (.int .i64 c.T), .slc 0 0 c.First.length none, .slc 1 0 c.Head.length none, .slc 2 0 c.Rev.length none, .slc 3 0 c.Cap.length none, .slc 4 0 c.Arc.length none, .slc 5 0 c.Back.length none], .box [.val (.int .i64 u)]]) rfl rfl (t_arcs (c := c) (u := u)) [0, 1, 2, 3, 4, 5] ⟨.inr ⟨_, rfl, srv⟩, .inr ⟨_, rfl, srv⟩, .inr ⟨_, rfl, srv⟩, .inr ⟨_, rfl, srv⟩, .inr ⟨_, rfl, srv⟩, .inr ⟨_, rfl, srv⟩, trivial⟩ rfl rfl rfl rfl rfl ?_)
  refine rw_nil ?_
  refine w_block ?_
  refine w_rf [(2, .val (.int .i64 u)), (3, .ptr 9 0 0), (4, .ptr 10 0 0), (6, .ptr 11 0 0), (7, .val (.int .i64 0)), (8, .ptr 12 0 0)] 15 [.yield 15, .ptr 13 0 0, .ptr 14 0 0] (fun q1 => [SO.ints false .i64 c.First, SO.ints false .i64 c.Head, SO.ints false .i64 c.Rev, SO.ints false .i64 c.Cap, SO.ints false .i64 c.Arc, SO.bools false c.Back, SO.ints false .i64 p.Res, SO.ints false .i64 p.Ex, SO.ints false .i64 p.H, .box [.val (.int .i64 c.N), .val (.int .i64 c.S), .val (.int .i64 c.T), .slc 0 0 c.First.length none, .slc 1 0 c.Head.length none, .slc 2 0 c.Rev.length none, .slc 3 0 c.Cap.length none, .slc 4 0 c.Arc.length none, .slc 5 0 c.Back.length none], .box [.slc 6 0 p.Res.length none, .slc 7 0 p.Ex.length none, .slc 8 0 p.H.length none], .box [.val (.slice none 0 0), .val (.slice none 0 0), .val (.slice none 0 0)], .box [.val (.int .i64 (2 * c.N))], .box [.val (.int .i64 c.N), .val (.int .i64 c.S), .val (.int .i64 c.T), .slc 0 0 c.First.length none, .slc 1 0 c.Head.length none, .slc 2 0 c.Rev.length none, .slc 3 0 c.Cap.length none, .slc 4 0 c.Arc.length none, .slc 5 0 c.Back.length none], .box [.val (.int .i64 u)], .gen [.val (.int .i64 u), .ptr 9 0 0, .ptr 10 0 0, .ptr 11 0 0, .val (.int .i64 0), .ptr 12 0 0] (q1 .ready none)]) rfl rfl rfl rfl (fun _ => rfl) ⟨⟨_, rfl, rfl⟩, ⟨_, rfl, rfl⟩, ⟨_, rfl, rfl⟩, ⟨_, rfl, rfl⟩, ⟨_, rfl, rfl⟩, ⟨_, rfl, rfl⟩, trivial⟩ (fun q1 hq1 => ?_)
  refine tri_of_w (fn := Try.f75) Try.func75 rfl (by simp [Try.f75]) ?_
  intro ρr1 wr1 hρ1
  refine w_seq ?_
  refine w_region ?_
  refine rw_t 5 rfl rfl rfl (do_fieldaddr rfl ?_)
  refine rw_t 6 rfl rfl rfl (do_load_box rfl rfl rfl ?_)
  refine rw_t 7 rfl rfl rfl (do_load_box rfl rfl rfl ?_)
  refine rw_t 8 rfl rfl rfl (do_ix0 rfl rfl rfl (by first | omega | (simp only [ls] <;> omega)) ?_)
  refine rw_t 9 rfl rfl rfl (do_load_arr rfl rfl (by first | omega | (simp only [ls] <;> omega)) rfl ?_)
  refine rw_t 4 rfl rfl rfl (do_assign rfl ?_)
  refine rw_nil ?_
  refine w_block ?_
  refine w_loopS (ι := Nat) (fun i => [(0, .yield 15), (1, .ptr 13 0 0), (2, .ptr 14 0 0), (4, .val (.int .i64 (c.First.getD u.toNat 0 + (i : Int))))]) (fun i => [SO.ints false .i64 c.First, SO.ints false .i64 c.Head, SO.ints false .i64 c.Rev, SO.ints false .i64 c.Cap, SO.ints false .i64 c.Arc, SO.bools false c.Back, SO.ints false .i64 p.Res, SO.ints false .i64 p.Ex, SO.ints false .i64 p.H, .box [.val (.int .i64 c.N), .val (.int .i64 c.S), .val (.int .i64 c.T), .slc 0 0 c.First.length none, .slc 1 0 c.Head.length none, .slc 2 0 c.Rev.length none, .slc 3 0 c.Cap.length none, .slc 4 0 c.Arc.length none, .slc 5 0 c.Back.length none], .box [.slc 6 0 p.Res.length none, .slc 7 0 p.Ex.length none, .slc 8 0 p.H.length none], .box [.val (.slice none 0 0), .val (.slice none 0 0), .val (.slice none 0 0)], .box [.val (.int .i64 (lowL c p (c.First.getD u.toNat 0) (2 * c.N) i))], .box [.val (.int .i64 c.N), .val (.int .i64 c.S), .val (.int .i64 c.T), .slc 0 0 c.First.length none, .slc 1 0 c.Head.length none, .slc 2 0 c.Rev.length none, .slc 3 0 c.Cap.length none, .slc 4 0 c.Arc.length none, .slc 5 0 c.Back.length none], .box [.val (.int .i64 u)], .gen [.val (.int .i64 u), .ptr 9 0 0, .ptr 10 0 0, .ptr 11 0 0, .val (.int .i64 0), .ptr 12 0 0] (q1 .ready none)]) (fun i => manyOf c u - i) (fun i => i ≤ manyOf c u) (0) [0, 1, 2, 3, 4, 5, 6, 7, 8, 9, 10, 11, 12, 13, 14, 15] (by simp) ⟨shR rfl, shR rfl, shR rfl, shR rfl, shR rfl, shR rfl, shR rfl, shR rfl, shR rfl, shR rfl, shR rfl, shR rfl, shR rfl, shR rfl, shR rfl, shR rfl, trivial⟩ rfl (pre_ok rfl) hρ1 ⟨⟨_, rfl, rfl⟩, ⟨_, rfl, rfl⟩, ⟨_, rfl, rfl⟩, ⟨_, rfl, Eq.symm (val_congr (by simp))⟩, trivial⟩ ?_
  intro i hi
  refine w_seq ?_
  refine w_seq ?_
  refine w_region ?_
  refine rw_t 10 rfl rfl rfl (do_move rfl ?_)
  refine rw_t 11 rfl rfl rfl (do_fieldaddr rfl ?_)
  refine rw_t 12 rfl rfl rfl (do_load_box rfl rfl rfl ?_)
  refine rw_t 13 rfl rfl rfl (do_load_box rfl rfl rfl ?_)
  refine rw_t 14 rfl rfl rfl (do_add rfl rfl (by omega) ?_)
  refine rw_t 15 rfl rfl rfl (do_ix0 rfl rfl rfl (by first | omega | (simp only [ls] <;> omega)) ?_)
  refine rw_t 16 rfl rfl rfl (do_load_arr rfl rfl (by first | omega | (simp only [ls] <;> omega)) rfl ?_)
  refine rw_t 17 rfl rfl rfl (do_bin rfl rfl rfl ?_)
  refine rw_nil ?_
  refine w_cond rfl (fun hc3 => ?_) (fun hc3 => ?_)
  all_goals try simp only [bs] at hc3
  rotate_left
  · refine w_exit ?_
    refine ret_iter (.inr rfl) rfl (Y := [SO.ints false .i64 c.First, SO.ints false .i64 c.Head, SO.ints false .i64 c.Rev, SO.ints false .i64 c.Cap, SO.ints false .i64 c.Arc, SO.bools false c.Back, SO.ints false .i64 p.Res, SO.ints false .i64 p.Ex, SO.ints false .i64 p.H, .box [.val (.int .i64 c.N), .val (.int .i64 c.S), .val (.int .i64 c.T), .slc 0 0 c.First.length none, .slc 1 0 c.Head.length none, .slc 2 0 c.Rev.length none, .slc 3 0 c.Cap.length none, .slc 4 0 c.Arc.length none, .slc 5 0 c.Back.length none], .box [.slc 6 0 p.Res.length none, .slc 7 0 p.Ex.length none, .slc 8 0 p.H.length none], .box [.val (.slice none 0 0), .val (.slice none 0 0), .val (.slice none 0 0)], .box [.val (.int .i64 (lowL c p (c.First.getD u.toNat 0) (2 * c.N) i))], .box [.val (.int .i64 c.N), .val (.int .i64 c.S), .val (.int .i64 c.T), .slc 0 0 c.First.length none, .slc 1 0 c.Head.length none, .slc 2 0 c.Rev.length none, .slc 3 0 c.Cap.length none, .slc 4 0 c.Arc.length none, .slc 5 0 c.Back.length none], .box [.val (.int .i64 u)], .gen [.val (.int .i64 u), .ptr 9 0 0, .ptr 10 0 0, .ptr 11 0 0, .val (.int .i64 0), .ptr 12 0 0] (q1 .ready none)]) [0, 1, 2, 3, 4, 5, 6, 7, 8, 9, 10, 11, 12, 13, 14, 15] ⟨shR rfl, shR rfl, shR rfl, shR rfl, shR rfl, shR rfl, shR rfl, shR rfl, shR rfl, shR rfl, shR rfl, shR rfl, shR rfl, shR rfl, shR rfl, shR rfl, trivial⟩ rfl (pre_ok rfl) ?_
    refine iter_none rfl ?_
    refine w_seq ?_
    have hl10 := lowL_in (c := c) hp.hi (c.First.getD u.toNat 0) (m := 2 * c.N) (by omega) i
    refine w_region ?_
    refine rw_t 52 rfl rfl rfl (n_load_boxagg [_, _, _] rfl rfl (Nat.le_of_ble_eq_true rfl) rfl ?_)
    refine rw_t 53 rfl rfl rfl (n_callN (X' := .agg [.slc 16 0 p.Res.length none, .slc 17 0 p.Ex.length none, .slc 18 0 p.H.length none]) (N' := [SO.ints true .i64 p.Res, SO.ints true .i64 p.Ex, SO.ints true .i64 p.H]) rfl rfl (t_Copy (p := p) (by omega)) [6, 7, 8] ⟨.inr ⟨_, rfl, srv⟩, .inr ⟨_, rfl, srv⟩, .inr ⟨_, rfl, srv⟩, trivial⟩ rfl rfl rfl rfl rfl ?_)
    refine rw_t 10 rfl rfl rfl (n_alloc (n := 19) rfl ?_)
    refine rw_u rfl rfl (n_store_whole rfl rfl rfl rfl rfl rfl ?_)
    refine rw_nil ?_
    refine w_seq ?_
    refine w_region ?_
    refine rw_t 54 rfl rfl rfl (do_fieldaddr rfl ?_)
    refine rw_t 55 rfl rfl rfl (do_load_box rfl rfl rfl ?_)
    refine rw_t 56 rfl rfl rfl (do_move rfl ?_)
    refine rw_t 57 rfl rfl rfl (do_load_box rfl rfl rfl ?_)
    refine rw_t 58 rfl rfl rfl (do_add rfl rfl (by omega) ?_)
    refine rw_t 59 rfl rfl rfl (do_ix0 rfl rfl rfl (by first | omega | (simp only [ls] <;> omega)) ?_)
    refine rw_u rfl rfl (n_store_arr (z := (lowL c p (c.First.getD u.toNat 0) (2 * c.N) i + 1)) rfl rfl rfl (by first | omega | (simp only [ls] <;> omega)) rfl (by decide) rfl ?_)
    refine rw_nil ?_
    refine w_seq ?_
    refine w_region ?_
    refine rw_t 60 rfl rfl rfl (n_load_boxagg [_, _, _] rfl rfl (Nat.le_of_ble_eq_true rfl) rfl ?_)
    refine rw_u rfl rfl (n_store_whole rfl rfl rfl rfl rfl rfl ?_)
    refine rw_t 7 rfl rfl rfl (do_assign rfl ?_)
    refine rw_nil ?_
    have hsk : stuckP c p u := by simpa using hc2
    have hi' : i = manyOf c u := by omega
    subst hi'
    have e1 : liftR c p u = (⟨p.Res, p.Ex, p.H.set u.toNat (leastL c p u + 1)⟩, 0) := by unfold liftR; rw [if_pos hu, if_pos hsk]
    refine w_ret ?_
    exact ret_eq (.inl rfl) (.cons (res_agg rfl rfl (Nat.le_of_ble_eq_true rfl)) (.cons (res_tmp rfl) .nil)) [0, 1, 2, 3, 4, 5, 6, 7, 8, 16, 17, 18] (by rw [e1]; simp only [List.length_set]; try rfl) ⟨shR rfl, shR rfl, shR rfl, shR rfl, shR rfl, shR rfl, shR rfl, shR rfl, shR rfl, .inr ⟨_, rfl, .inl (congrArg (SO.ints true .i64) (by rw [e1]; try rfl))⟩, .inr ⟨_, rfl, .inl (congrArg (SO.ints true .i64) (by rw [e1]; try rfl))⟩, .inr ⟨_, rfl, .inl (congrArg (SO.ints true .i64) (by rw [e1]; try rfl))⟩, trivial⟩ rfl (pre_ok rfl)
  refine w_skip ?_
  refine w_seq ?_
  refine w_block ?_
  refine w_seq ?_
  refine w_region ?_
  refine rw_t 20 rfl rfl rfl (do_move rfl ?_)
  refine rw_t 21 rfl rfl rfl (do_move rfl ?_)
  refine rw_t 22 rfl rfl rfl (do_yieldQ [(34, .val (.int .i64 (c.First.getD u.toNat 0 + (i : Int)))), (2, .val (.int .i64 u)), (3, .ptr 9 0 0), (4, .ptr 10 0 0), (6, .ptr 11 0 0), (7, .val (.int .i64 0)), (8, .ptr 12 0 0)] hq1 rfl rfl rfl rfl rfl rfl (fun ρr2 wr2 lr2 hρ2 => ?_))
  refine w_region ?_
  refine rw_t 9 rfl rfl rfl (do_assign rfl ?_)
  refine rw_nil ?_
  refine asg_done rfl ?_
  refine w_block ?_
  refine w_seq ?_
  have hd8 := h.hd (c.First.getD u.toNat 0 + (i : Int)).toNat (by omega)
  have hl8 := lowL_in (c := c) hp.hi (c.First.getD u.toNat 0) (m := 2 * c.N) (by omega) i
  refine w_region ?_
  refine rw_t 35 rfl rfl rfl (do_fieldaddr rfl ?_)
  refine rw_t 36 rfl rfl rfl (do_load_box rfl rfl rfl ?_)
  refine rw_t 37 rfl rfl rfl (do_move rfl ?_)
  refine rw_t 38 rfl rfl rfl (do_ix0 rfl rfl rfl (by first | omega | (simp only [ls] <;> omega)) ?_)
  refine rw_t 39 rfl rfl rfl (do_load_arr rfl rfl (by first | omega | (simp only [ls] <;> omega)) rfl ?_)
  refine rw_t 40 rfl rfl rfl (do_bin rfl rfl rfl ?_)
  refine rw_nil ?_
  refine w_cond rfl (fun hc4 => ?_) (fun hc4 => ?_)
  all_goals try simp only [bs] at hc4
  · -- region 9
    refine w_draw mixed [0, 0, 2, 0, 8, 0, 56, 120, 254, 510] [1023, 2047] (by kernel_rfl) (by kernel_rfl) rfl rfl rfl (hle hρ2 rfl) ?_
    refine ra_q (j := 0) rfl rfl rfl rfl (do_load_box rfl rfl rfl ⟨rfl, rfl⟩) (by rfl) ?_
    refine ra_q (j := 1) rfl rfl rfl rfl (do_fieldaddr rfl ⟨rfl, rfl⟩) (by rfl) ?_
    refine ra_q (j := 2) rfl rfl rfl rfl (do_load_box rfl rfl rfl ⟨rfl, rfl⟩) (by rfl) ?_
    refine ra_q (j := 3) rfl rfl rfl rfl (do_fieldaddr rfl ⟨rfl, rfl⟩) (by rfl) ?_
    refine ra_q (j := 4) rfl rfl rfl rfl (do_load_box rfl rfl rfl ⟨rfl, rfl⟩) (by rfl) ?_
    refine ra_q (j := 5) rfl rfl rfl rfl (do_move rfl ⟨rfl, rfl⟩) (by rfl) ?_
    refine ra_q (j := 6) rfl rfl rfl rfl (do_ix0 rfl rfl rfl (by first | omega | (simp only [ls] <;> omega)) ⟨rfl, rfl⟩) (by rfl) ?_
    refine ra_q (j := 7) rfl rfl rfl rfl (do_load_arr rfl rfl (by first | omega | (simp only [ls] <;> omega)) rfl ⟨rfl, rfl⟩) (by rfl) ?_
    refine ra_q (j := 8) rfl rfl rfl rfl (do_ix0 rfl rfl rfl (by first | omega | (simp only [ls] <;> omega)) ⟨rfl, rfl⟩) (by rfl) ?_
    refine ra_q (j := 9) rfl rfl rfl rfl (do_load_arr rfl rfl (by first | omega | (simp only [ls] <;> omega)) rfl ⟨rfl, rfl⟩) (by rfl) ?_
    refine n_done ?_
    refine rw_t 51 rfl rfl rfl (do_min rfl rfl ?_)
    refine rw_u rfl rfl (n_store_box (f := 0) rfl rfl rfl (Nat.le_of_ble_eq_true rfl) rfl ?_)
    refine rw_nil ?_
    repeat (with_reducible first | refine bl_n ?_ | refine bl_r ?_ | refine nx_r ?_ | refine nx_e ?_ | refine bl_e rfl ?_)
    refine round_normal rfl ?_
    refine rw_t 23 rfl rfl rfl (do_not rfl ?_)
    refine rw_nil ?_
    refine w_cond rfl (fun hc5 => ?_) (fun hc5 => ?_)
    · exfalso; first | (cases hc5; done) | exact (hc5 trivial) | (try simp only [bs] at hc5; first | omega | (simp_all; done) | (simp_all; omega))
    refine w_skip ?_
    refine w_region ?_
    refine rw_t 18 rfl rfl rfl (do_move rfl ?_)
    refine rw_t 19 rfl rfl rfl (do_add rfl rfl (by omega) ?_)
    refine rw_t 4 rfl rfl rfl (do_assign rfl ?_)
    refine rw_nil ?_
    refine ⟨i + 1, [0, 1, 2, 3, 4, 5, 6, 7, 8, 9, 10, 11, 12, 13, 14, 15], by dsimp only; omega, by omega, ⟨shR rfl, shR rfl, shR rfl, shR rfl, shR rfl, shR rfl, shR rfl, shR rfl, shR rfl, shR rfl, shR rfl, shR rfl, .inr ⟨_, rfl, .inl (box_congr (cons_congr (val_congr (by simp only [lowL]; rw [if_pos hc4])) ((rfl : ([] : List SV) = []))))⟩, shR rfl, shR rfl, shR rfl, trivial⟩, rfl, pre_ok rfl, ⟨⟨_, rfl, rfl⟩, ⟨_, rfl, rfl⟩, ⟨_, rfl, rfl⟩, ⟨_, rfl, Eq.symm (val_congr (by omega))⟩, trivial⟩⟩
  · refine w_skip ?_
    repeat (with_reducible first | refine bl_n ?_ | refine bl_r ?_ | refine nx_r ?_ | refine nx_e ?_ | refine bl_e rfl ?_)
    refine round_normal rfl ?_
    refine rw_t 23 rfl rfl rfl (do_not rfl ?_)
    refine rw_nil ?_
    refine w_cond rfl (fun hc6 => ?_) (fun hc6 => ?_)
    · exfalso; first | (cases hc6; done) | exact (hc6 trivial) | (try simp only [bs] at hc6; first | omega | (simp_all; done) | (simp_all; omega))
    refine w_skip ?_
    refine w_region ?_
    refine rw_t 18 rfl rfl rfl (do_move rfl ?_)
    refine rw_t 19 rfl rfl rfl (do_add rfl rfl (by omega) ?_)
    refine rw_t 4 rfl rfl rfl (do_assign rfl ?_)
    refine rw_nil ?_
    refine ⟨i + 1, [0, 1, 2, 3, 4, 5, 6, 7, 8, 9, 10, 11, 12, 13, 14, 15], by dsimp only; omega, by omega, ⟨shR rfl, shR rfl, shR rfl, shR rfl, shR rfl, shR rfl, shR rfl, shR rfl, shR rfl, shR rfl, shR rfl, shR rfl, .inr ⟨_, rfl, .inl (box_congr (cons_congr (val_congr (by simp only [lowL]; rw [if_neg hc4])) ((rfl : ([] : List SV) = []))))⟩, shR rfl, shR rfl, shR rfl, trivial⟩, rfl, pre_ok rfl, ⟨⟨_, rfl, rfl⟩, ⟨_, rfl, rfl⟩, ⟨_, rfl, rfl⟩, ⟨_, rfl, Eq.symm (val_congr (by omega))⟩, trivial⟩⟩
end Go.Proofs

set_option linter.unusedVariables false
set_option linter.unusedSimpArgs false
namespace Go.Proofs
open Go Go.Sx Go.RowKit
def actQ (c : Csr) (p : Pre) (u : Int) : Bool := decide (activeP c p u)
def stuQ (c : Csr) (p : Pre) (u : Int) : Bool := decide (stuckP c p u)
def pusQ (c : Csr) (p : Pre) (a : Int) : Bool := decide (pushesP c p a)
def activeL (c : Csr) (p : Pre) : List Int := selK (actQ c p) c.N.toNat
def stuckL (c : Csr) (p : Pre) : List Int := selK (stuQ c p) c.N.toNat
/-- P7.4. -/
def pushL (c : Csr) (p : Pre) : List Int := selK (pusQ c p) c.Head.length
theorem selK_one {q : Int → Bool} {k : Nat} (h : q k = true) : selK q (k + 1) = selK q k ++ [(k : Int)] := by simp only [selK]; rw [if_pos h]
theorem selK_none {q : Int → Bool} {k : Nat} (h : ¬ q k = true) : selK q (k + 1) = selK q k := by simp only [selK]; rw [if_neg h]
set_option maxHeartbeats 8000000 in
set_option synthInstance.maxHeartbeats 400000 in
set_option synthInstance.maxSize 2000 in
theorem t_sel1A (c : Csr) (p : Pre) (h : CsrT c) (hp : PreIn c p) (u : Int) (hu : 0 ≤ u ∧ u < c.N) : Tri Try.prog 57 [.val (.int .i64 u), .ptr 9 0 0, .ptr 10 0 0] [SO.ints false .i64 c.First, SO.ints false .i64 c.Head, SO.ints false .i64 c.Rev, SO.ints false .i64 c.Cap, SO.ints false .i64 c.Arc, SO.bools false c.Back, SO.ints false .i64 p.Res, SO.ints false .i64 p.Ex, SO.ints false .i64 p.H, .box [.val (.int .i64 c.N), .val (.int .i64 c.S), .val (.int .i64 c.T), .slc 0 0 c.First.length none, .slc 1 0 c.Head.length none, .slc 2 0 c.Rev.length none, .slc 3 0 c.Cap.length none, .slc 4 0 c.Arc.length none, .slc 5 0 c.Back.length none], .box [.slc 6 0 p.Res.length none, .slc 7 0 p.Ex.length none, .slc 8 0 p.H.length none]] (fun s H => s = .val (.bool (decide (activeP c p u))) ∧ H = [SO.ints false .i64 c.First, SO.ints false .i64 c.Head, SO.ints false .i64 c.Rev, SO.ints false .i64 c.Cap, SO.ints false .i64 c.Arc, SO.bools false c.Back, SO.ints false .i64 p.Res, SO.ints false .i64 p.Ex, SO.ints false .i64 p.H, .box [.val (.int .i64 c.N), .val (.int .i64 c.S), .val (.int .i64 c.T), .slc 0 0 c.First.length none, .slc 1 0 c.Head.length none, .slc 2 0 c.Rev.length none, .slc 3 0 c.Cap.length none, .slc 4 0 c.Arc.length none, .slc 5 0 c.Back.length none], .box [.slc 6 0 p.Res.length none, .slc 7 0 p.Ex.length none, .slc 8 0 p.H.length none]]) := by
  refine tri_of_w (fn := Try.f57) Try.func57 rfl (by simp [Try.f57]) ?_
  intro ρ w hρ
  refine w_seq ?_
  have hn := h.n
  have hf := h.first
  have hhd := h.head
  have hrl := h.rev
  have hcl := h.cap
  have hal := h.arc
  have hbl := h.back
  have hr := hp.res
  have hx := hp.ex
  have hh := hp.h
  refine w_region ?_
  refine rw_t 4 rfl rfl rfl (do_assign rfl ?_)
  refine rw_nil ?_
  refine w_seq ?_
  refine w_region ?_
  refine rw_t 5 rfl rfl rfl (n_load_boxagg [_, _, _, _, _, _, _, _, _] rfl rfl (Nat.le_of_ble_eq_true rfl) rfl ?_)
  refine rw_t 6 rfl rfl rfl (n_load_boxagg [_, _, _] rfl rfl (Nat.le_of_ble_eq_true rfl) rfl ?_)
  refine rw_t 7 rfl rfl rfl (do_move rfl ?_)
  refine rw_t 8 rfl rfl rfl (do_callR (X' := .val (.bool (decide (activeP c p u)))) rfl rfl (t_active (c := c) (p := p) (u := u) (h) (hp) (hu)) [0, 1, 2, 3, 4, 5, 6, 7, 8] ⟨.inr ⟨_, rfl, srv⟩, .inr ⟨_, rfl, srv⟩, .inr ⟨_, rfl, srv⟩, .inr ⟨_, rfl, srv⟩, .inr ⟨_, rfl, srv⟩, .inr ⟨_, rfl, srv⟩, .inr ⟨_, rfl, srv⟩, .inr ⟨_, rfl, srv⟩, .inr ⟨_, rfl, srv⟩, trivial⟩ rfl rfl rfl ?_)
  refine rw_t 4 rfl rfl rfl (do_assign rfl ?_)
  refine rw_nil ?_
  refine w_ret ?_
  exact ret_eq (.inl rfl) (.cons (res_tmp rfl) .nil) [0, 1, 2, 3, 4, 5, 6, 7, 8, 9, 10] (rfl) ⟨shR rfl, shR rfl, shR rfl, shR rfl, shR rfl, shR rfl, shR rfl, shR rfl, shR rfl, shR rfl, shR rfl, trivial⟩ rfl (pre_ok rfl)
set_option maxHeartbeats 8000000 in
set_option synthInstance.maxHeartbeats 400000 in
set_option synthInstance.maxSize 2000 in
theorem t_allA (c : Csr) (p : Pre) (h : CsrT c) (hp : PreIn c p) : Tri Try.prog 53 [.agg [.val (.int .i64 c.N), .val (.int .i64 c.S), .val (.int .i64 c.T), .slc 0 0 c.First.length none, .slc 1 0 c.Head.length none, .slc 2 0 c.Rev.length none, .slc 3 0 c.Cap.length none, .slc 4 0 c.Arc.length none, .slc 5 0 c.Back.length none], .func 57 [] [.ptr 9 0 0, .ptr 10 0 0]] [SO.ints false .i64 c.First, SO.ints false .i64 c.Head, SO.ints false .i64 c.Rev, SO.ints false .i64 c.Cap, SO.ints false .i64 c.Arc, SO.bools false c.Back, SO.ints false .i64 p.Res, SO.ints false .i64 p.Ex, SO.ints false .i64 p.H, .box [.val (.int .i64 c.N), .val (.int .i64 c.S), .val (.int .i64 c.T), .slc 0 0 c.First.length none, .slc 1 0 c.Head.length none, .slc 2 0 c.Rev.length none, .slc 3 0 c.Cap.length none, .slc 4 0 c.Arc.length none, .slc 5 0 c.Back.length none], .box [.slc 6 0 p.Res.length none, .slc 7 0 p.Ex.length none, .slc 8 0 p.H.length none]] (fun s H => s = .slc 11 0 ((selK (actQ c p) c.N.toNat).length) none ∧ H = [SO.ints false .i64 c.First, SO.ints false .i64 c.Head, SO.ints false .i64 c.Rev, SO.ints false .i64 c.Cap, SO.ints false .i64 c.Arc, SO.bools false c.Back, SO.ints false .i64 p.Res, SO.ints false .i64 p.Ex, SO.ints false .i64 p.H, .box [.val (.int .i64 c.N), .val (.int .i64 c.S), .val (.int .i64 c.T), .slc 0 0 c.First.length none, .slc 1 0 c.Head.length none, .slc 2 0 c.Rev.length none, .slc 3 0 c.Cap.length none, .slc 4 0 c.Arc.length none, .slc 5 0 c.Back.length none], .box [.slc 6 0 p.Res.length none, .slc 7 0 p.Ex.length none, .slc 8 0 p.H.length none], SO.ints true .i64 (selK (actQ c p) c.N.toNat)]) := by
  refine tri_of_w (fn := Try.f53) Try.func53 rfl (by simp [Try.f53]) ?_
  intro ρ w hρ
  refine w_seq ?_
  have hn := h.n
  have hf := h.first
  have hhd := h.head
  have hrl := h.rev
  have hcl := h.cap
  have hal := h.arc
  have hbl := h.back
  have hr := hp.res
  have hx := hp.ex
  have hh := hp.h
  refine w_region ?_
  refine rw_t 2 rfl rfl rfl (n_box_agg (n := 11) rfl rfl ?_)
  refine rw_t 4 rfl rfl rfl (do_assign rfl ?_)
  refine rw_nil ?_
  refine w_seq ?_
  refine w_region ?_
  refine rw_t 5 rfl rfl rfl (do_assign rfl ?_)
  refine rw_nil ?_
  refine w_seq ?_
  refine w_seq ?_
  refine w_region ?_
  refine rw_t 7 rfl rfl rfl (do_fieldaddr rfl ?_)
  refine rw_t 8 rfl rfl rfl (do_load_box rfl rfl rfl ?_)
  refine rw_t 9 rfl rfl rfl (do_move rfl ?_)
  refine rw_nil ?_
  refine w_block ?_
  refine n_ghost Int 1 (encI .i64) 0 (fun _ => rfl) (fun _ _ h => by simp [encI] at h; subst h; rfl) ?_
  refine w_nilE 5 12 0 rfl ?_
  refine w_loopS (ι := Nat) (fun i => [(1, .func 57 [] [.ptr 9 0 0, .ptr 10 0 0]), (4, .val (.slice none 0 0)), (5, .slc 12 0 ((selK (actQ c p) i).length) none), (8, .val (.int .i64 c.N)), (9, .val (.int .i64 ((i : Nat) : Int)))]) (fun i => [SO.ints false .i64 c.First, SO.ints false .i64 c.Head, SO.ints false .i64 c.Rev, SO.ints false .i64 c.Cap, SO.ints false .i64 c.Arc, SO.bools false c.Back, SO.ints false .i64 p.Res, SO.ints false .i64 p.Ex, SO.ints false .i64 p.H, .box [.val (.int .i64 c.N), .val (.int .i64 c.S), .val (.int .i64 c.T), .slc 0 0 c.First.length none, .slc 1 0 c.Head.length none, .slc 2 0 c.Rev.length none, .slc 3 0 c.Cap.length none, .slc 4 0 c.Arc.length none, .slc 5 0 c.Back.length none], .box [.slc 6 0 p.Res.length none, .slc 7 0 p.Ex.length none, .slc 8 0 p.H.length none], .box [.val (.int .i64 c.N), .val (.int .i64 c.S), .val (.int .i64 c.T), .slc 0 0 c.First.length none, .slc 1 0 c.Head.length none, .slc 2 0 c.Rev.length none, .slc 3 0 c.Cap.length none, .slc 4 0 c.Arc.length none, .slc 5 0 c.Back.length none], SO.ints true .i64 (selK (actQ c p) i)]) (fun i => c.N.toNat - i) (fun i => i ≤ c.N.toNat) (0) [0, 1, 2, 3, 4, 5, 6, 7, 8, 9, 10, 11, 12] (by simp) ⟨shR rfl, shR rfl, shR rfl, shR rfl, shR rfl, shR rfl, shR rfl, shR rfl, shR rfl, shR rfl, shR rfl, shR rfl, shR rfl, trivial⟩ rfl (pre_ok rfl) hρ ⟨⟨_, rfl, rfl⟩, ⟨_, rfl, rfl⟩, ⟨_, rfl, rfl⟩, ⟨_, rfl, rfl⟩, ⟨_, rfl, rfl⟩, trivial⟩ ?_
  intro i hi
  have hsl := selK_len (actQ c p) i
  refine w_seq ?_
  refine w_region ?_
  refine rw_t 10 rfl rfl rfl (do_bin rfl rfl rfl ?_)
  refine rw_nil ?_
  refine w_seq ?_
  refine w_cond rfl (fun hc1 => ?_) (fun hc1 => ?_)
  all_goals try simp only [bs] at hc1
  rotate_left
  · refine w_exit ?_
    refine w_seq ?_
    refine w_region ?_
    refine rw_t 20 rfl rfl rfl (do_move rfl ?_)
    refine rw_t 4 rfl rfl rfl (do_assign rfl ?_)
    refine rw_nil ?_
    have hi' : i = c.N.toNat := by omega
    subst hi'
    refine w_ret ?_
    exact ret_eq (.inl rfl) (.cons (res_tmp rfl) .nil) [0, 1, 2, 3, 4, 5, 6, 7, 8, 9, 10, 12] (rfl) ⟨shR rfl, shR rfl, shR rfl, shR rfl, shR rfl, shR rfl, shR rfl, shR rfl, shR rfl, shR rfl, shR rfl, shR rfl, trivial⟩ rfl (pre_ok rfl)
  refine w_skip ?_
  refine w_seq ?_
  refine w_block ?_
  refine w_seq ?_
  refine w_region ?_
  refine rw_t 11 rfl rfl rfl (do_move rfl ?_)
  refine rw_t 6 rfl rfl rfl (do_assign rfl ?_)
  refine rw_nil ?_
  refine w_seq ?_
  refine w_region ?_
  refine rw_t 12 rfl rfl rfl (do_move rfl ?_)
  refine rw_t 13 rfl rfl rfl (do_move rfl ?_)
  refine rw_t 14 rfl rfl rfl (n_callW (X' := .val (.bool (decide (activeP c p ((i : Nat) : Int))))) (H' := [SO.ints false .i64 c.First, SO.ints false .i64 c.Head, SO.ints false .i64 c.Rev, SO.ints false .i64 c.Cap, SO.ints false .i64 c.Arc, SO.bools false c.Back, SO.ints false .i64 p.Res, SO.ints false .i64 p.Ex, SO.ints false .i64 p.H, .box [.val (.int .i64 c.N), .val (.int .i64 c.S), .val (.int .i64 c.T), .slc 0 0 c.First.length none, .slc 1 0 c.Head.length none, .slc 2 0 c.Rev.length none, .slc 3 0 c.Cap.length none, .slc 4 0 c.Arc.length none, .slc 5 0 c.Back.length none], .box [.slc 6 0 p.Res.length none, .slc 7 0 p.Ex.length none, .slc 8 0 p.H.length none], .box [.val (.int .i64 c.N), .val (.int .i64 c.S), .val (.int .i64 c.T), .slc 0 0 c.First.length none, .slc 1 0 c.Head.length none, .slc 2 0 c.Rev.length none, .slc 3 0 c.Cap.length none, .slc 4 0 c.Arc.length none, .slc 5 0 c.Back.length none], SO.ints true .i64 (selK (actQ c p) i)]) rfl rfl (t_sel1A (c := c) (p := p) (u := ((i : Nat) : Int)) (h) (hp) (by omega)) [0, 1, 2, 3, 4, 5, 6, 7, 8, 9, 10] ⟨.inr ⟨_, rfl, srv⟩, .inr ⟨_, rfl, srv⟩, .inr ⟨_, rfl, srv⟩, .inr ⟨_, rfl, srv⟩, .inr ⟨_, rfl, srv⟩, .inr ⟨_, rfl, srv⟩, .inr ⟨_, rfl, srv⟩, .inr ⟨_, rfl, srv⟩, .inr ⟨_, rfl, srv⟩, shR rfl, shR rfl, trivial⟩ rfl rfl ⟨fun h => (by cases h), ⟨fun h => (by cases h), ⟨fun h => (by cases h), ⟨fun h => (by cases h), ⟨fun h => (by cases h), ⟨fun h => (by cases h), ⟨fun h => (by cases h), ⟨fun h => (by cases h), ⟨fun h => (by cases h), ⟨fun h => .inl rfl, ⟨fun h => .inl rfl, (fun y hy => by simp at hy)⟩⟩⟩⟩⟩⟩⟩⟩⟩⟩⟩ rfl rfl ?_)
  refine rw_nil ?_
  refine w_cond rfl (fun hc2 => ?_) (fun hc2 => ?_)
  all_goals try simp only [bs] at hc2
  · -- region 6
    refine w_region ?_
    refine rw_t 15 rfl rfl rfl (do_move rfl ?_)
    refine rw_t 16 rfl rfl rfl (do_move rfl ?_)
    refine rw_t 17 rfl rfl rfl (n_bs (nm := 13) Int (encI .i64) 0 [((i : Nat) : Int)] rfl rfl rfl rfl rfl (fun _ => rfl) (fun _ _ h => by simp [encI] at h; subst h; rfl) rfl ?_)
    refine rw_t 18 rfl rfl rfl (n_app_own (nm := 14) rfl rfl rfl rfl rfl (by first | omega | (simp only [ls] <;> omega)) (by first | omega | (simp only [ls] <;> omega)) (by omega) (by omega) rfl ?_)
    refine rw_t 5 rfl rfl rfl (do_assign rfl ?_)
    refine rw_nil ?_
    refine w_region ?_
    refine rw_t 19 rfl rfl rfl (do_add rfl rfl (by omega) ?_)
    refine rw_t 9 rfl rfl rfl (do_move rfl ?_)
    refine rw_nil ?_
    have hq : (actQ c p) i = true := decide_eq_true hc2
    refine ⟨i + 1, [0, 1, 2, 3, 4, 5, 6, 7, 8, 9, 10, 11, 14], by dsimp only; omega, by omega, ⟨shR rfl, shR rfl, shR rfl, shR rfl, shR rfl, shR rfl, shR rfl, shR rfl, shR rfl, shR rfl, shR rfl, shR rfl, .inr ⟨_, rfl, .inl (congrArg (SO.ints true .i64) (selK_one hq))⟩, trivial⟩, rfl, pre_ok rfl, ⟨⟨_, rfl, rfl⟩, ⟨_, rfl, rfl⟩, ⟨_, rfl, (congrArg (fun n => SV.slc 14 0 n none) (by rw [selK_one hq, List.length_append]; rfl : (selK (actQ c p) i).length + 1 = (selK (actQ c p) (i + 1)).length)).trans rfl⟩, ⟨_, rfl, rfl⟩, ⟨_, rfl, rfl⟩, trivial⟩⟩
  · refine w_skip ?_
    refine w_region ?_
    refine rw_t 19 rfl rfl rfl (do_add rfl rfl (by omega) ?_)
    refine rw_t 9 rfl rfl rfl (do_move rfl ?_)
    refine rw_nil ?_
    have hq : ¬ (actQ c p) i = true := fun q => hc2 (of_decide_eq_true q)
    refine ⟨i + 1, [0, 1, 2, 3, 4, 5, 6, 7, 8, 9, 10, 11, 12], by dsimp only; omega, by omega, ⟨shR rfl, shR rfl, shR rfl, shR rfl, shR rfl, shR rfl, shR rfl, shR rfl, shR rfl, shR rfl, shR rfl, shR rfl, .inr ⟨_, rfl, .inl (congrArg (SO.ints true .i64) (selK_none hq))⟩, trivial⟩, rfl, pre_ok rfl, ⟨⟨_, rfl, rfl⟩, ⟨_, rfl, rfl⟩, ⟨_, rfl, (congrArg (fun n => SV.slc 12 0 n none) (by rw [selK_none hq] : (selK (actQ c p) i).length = (selK (actQ c p) (i + 1)).length)).trans rfl⟩, ⟨_, rfl, rfl⟩, ⟨_, rfl, rfl⟩, trivial⟩⟩
set_option maxHeartbeats 8000000 in
set_option synthInstance.maxHeartbeats 400000 in
set_option synthInstance.maxSize 2000 in
theorem t_sel1M (c : Csr) (p : Pre) (h : CsrT c) (hp : PreIn c p) (u : Int) (hu : 0 ≤ u ∧ u < c.N) : Tri Try.prog 54 [.val (.int .i64 u), .ptr 9 0 0, .ptr 10 0 0] [SO.ints false .i64 c.First, SO.ints false .i64 c.Head, SO.ints false .i64 c.Rev, SO.ints false .i64 c.Cap, SO.ints false .i64 c.Arc, SO.bools false c.Back, SO.ints false .i64 p.Res, SO.ints false .i64 p.Ex, SO.ints false .i64 p.H, .box [.val (.int .i64 c.N), .val (.int .i64 c.S), .val (.int .i64 c.T), .slc 0 0 c.First.length none, .slc 1 0 c.Head.length none, .slc 2 0 c.Rev.length none, .slc 3 0 c.Cap.length none, .slc 4 0 c.Arc.length none, .slc 5 0 c.Back.length none], .box [.slc 6 0 p.Res.length none, .slc 7 0 p.Ex.length none, .slc 8 0 p.H.length none]] (fun s H => s = .val (.bool (decide (stuckP c p u))) ∧ H = [SO.ints false .i64 c.First, SO.ints false .i64 c.Head, SO.ints false .i64 c.Rev, SO.ints false .i64 c.Cap, SO.ints false .i64 c.Arc, SO.bools false c.Back, SO.ints false .i64 p.Res, SO.ints false .i64 p.Ex, SO.ints false .i64 p.H, .box [.val (.int .i64 c.N), .val (.int .i64 c.S), .val (.int .i64 c.T), .slc 0 0 c.First.length none, .slc 1 0 c.Head.length none, .slc 2 0 c.Rev.length none, .slc 3 0 c.Cap.length none, .slc 4 0 c.Arc.length none, .slc 5 0 c.Back.length none], .box [.slc 6 0 p.Res.length none, .slc 7 0 p.Ex.length none, .slc 8 0 p.H.length none]]) := by
  refine tri_of_w (fn := Try.f54) Try.func54 rfl (by simp [Try.f54]) ?_
  intro ρ w hρ
  refine w_seq ?_
  have hn := h.n
  have hf := h.first
  have hhd := h.head
  have hrl := h.rev
  have hcl := h.cap
  have hal := h.arc
  have hbl := h.back
  have hr := hp.res
  have hx := hp.ex
  have hh := hp.h
  refine w_region ?_
  refine rw_t 4 rfl rfl rfl (do_assign rfl ?_)
  refine rw_nil ?_
  refine w_seq ?_
  refine w_region ?_
  refine rw_t 5 rfl rfl rfl (n_load_boxagg [_, _, _, _, _, _, _, _, _] rfl rfl (Nat.le_of_ble_eq_true rfl) rfl ?_)
  refine rw_t 6 rfl rfl rfl (n_load_boxagg [_, _, _] rfl rfl (Nat.le_of_ble_eq_true rfl) rfl ?_)
  refine rw_t 7 rfl rfl rfl (do_move rfl ?_)
  refine rw_t 8 rfl rfl rfl (do_callR (X' := .val (.bool (decide (stuckP c p u)))) rfl rfl (t_stuck (c := c) (p := p) (u := u) (h) (hp) (hu)) [0, 1, 2, 3, 4, 5, 6, 7, 8] ⟨.inr ⟨_, rfl, srv⟩, .inr ⟨_, rfl, srv⟩, .inr ⟨_, rfl, srv⟩, .inr ⟨_, rfl, srv⟩, .inr ⟨_, rfl, srv⟩, .inr ⟨_, rfl, srv⟩, .inr ⟨_, rfl, srv⟩, .inr ⟨_, rfl, srv⟩, .inr ⟨_, rfl, srv⟩, trivial⟩ rfl rfl rfl ?_)
  refine rw_t 4 rfl rfl rfl (do_assign rfl ?_)
  refine rw_nil ?_
  refine w_ret ?_
  exact ret_eq (.inl rfl) (.cons (res_tmp rfl) .nil) [0, 1, 2, 3, 4, 5, 6, 7, 8, 9, 10] (rfl) ⟨shR rfl, shR rfl, shR rfl, shR rfl, shR rfl, shR rfl, shR rfl, shR rfl, shR rfl, shR rfl, shR rfl, trivial⟩ rfl (pre_ok rfl)
set_option maxHeartbeats 8000000 in
set_option synthInstance.maxHeartbeats 400000 in
set_option synthInstance.maxSize 2000 in
theorem t_allM (c : Csr) (p : Pre) (h : CsrT c) (hp : PreIn c p) : Tri Try.prog 53 [.agg [.val (.int .i64 c.N), .val (.int .i64 c.S), .val (.int .i64 c.T), .slc 0 0 c.First.length none, .slc 1 0 c.Head.length none, .slc 2 0 c.Rev.length none, .slc 3 0 c.Cap.length none, .slc 4 0 c.Arc.length none, .slc 5 0 c.Back.length none], .func 54 [] [.ptr 9 0 0, .ptr 10 0 0]] [SO.ints false .i64 c.First, SO.ints false .i64 c.Head, SO.ints false .i64 c.Rev, SO.ints false .i64 c.Cap, SO.ints false .i64 c.Arc, SO.bools false c.Back, SO.ints false .i64 p.Res, SO.ints false .i64 p.Ex, SO.ints false .i64 p.H, .box [.val (.int .i64 c.N), .val (.int .i64 c.S), .val (.int .i64 c.T), .slc 0 0 c.First.length none, .slc 1 0 c.Head.length none, .slc 2 0 c.Rev.length none, .slc 3 0 c.Cap.length none, .slc 4 0 c.Arc.length none, .slc 5 0 c.Back.length none], .box [.slc 6 0 p.Res.length none, .slc 7 0 p.Ex.length none, .slc 8 0 p.H.length none]] (fun s H => s = .slc 11 0 ((selK (stuQ c p) c.N.toNat).length) none ∧ H = [SO.ints false .i64 c.First, SO.ints false .i64 c.Head, SO.ints false .i64 c.Rev, SO.ints false .i64 c.Cap, SO.ints false .i64 c.Arc, SO.bools false c.Back, SO.ints false .i64 p.Res, SO.ints false .i64 p.Ex, SO.ints false .i64 p.H, .box [.val (.int .i64 c.N), .val (.int .i64 c.S), .val (.int .i64 c.T), .slc 0 0 c.First.length none, .slc 1 0 c.Head.length none, .slc 2 0 c.Rev.length none, .slc 3 0 c.Cap.length none, .slc 4 0 c.Arc.length none, .slc 5 0 c.Back.length none], .box [.slc 6 0 p.Res.length none, .slc 7 0 p.Ex.length none, .slc 8 0 p.H.length none], SO.ints true .i64 (selK (stuQ c p) c.N.toNat)]) := by
  refine tri_of_w (fn := Try.f53) Try.func53 rfl (by simp [Try.f53]) ?_
  intro ρ w hρ
  refine w_seq ?_
  have hn := h.n
  have hf := h.first
  have hhd := h.head
  have hrl := h.rev
  have hcl := h.cap
  have hal := h.arc
  have hbl := h.back
  have hr := hp.res
  have hx := hp.ex
  have hh := hp.h
  refine w_region ?_
  refine rw_t 2 rfl rfl rfl (n_box_agg (n := 11) rfl rfl ?_)
  refine rw_t 4 rfl rfl rfl (do_assign rfl ?_)
  refine rw_nil ?_
  refine w_seq ?_
  refine w_region ?_
  refine rw_t 5 rfl rfl rfl (do_assign rfl ?_)
  refine rw_nil ?_
  refine w_seq ?_
  refine w_seq ?_
  refine w_region ?_
  refine rw_t 7 rfl rfl rfl (do_fieldaddr rfl ?_)
  refine rw_t 8 rfl rfl rfl (do_load_box rfl rfl rfl ?_)
  refine rw_t 9 rfl rfl rfl (do_move rfl ?_)
  refine rw_nil ?_
  refine w_block ?_
  refine n_ghost Int 1 (encI .i64) 0 (fun _ => rfl) (fun _ _ h => by simp [encI] at h; subst h; rfl) ?_
  refine w_nilE 5 12 0 rfl ?_
  refine w_loopS (ι := Nat) (fun i => [(1, .func 54 [] [.ptr 9 0 0, .ptr 10 0 0]), (4, .val (.slice none 0 0)), (5, .slc 12 0 ((selK (stuQ c p) i).length) none), (8, .val (.int .i64 c.N)), (9, .val (.int .i64 ((i : Nat) : Int)))]) (fun i => [SO.ints false .i64 c.First, SO.ints false .i64 c.Head, SO.ints false .i64 c.Rev, SO.ints false .i64 c.Cap, SO.ints false .i64 c.Arc, SO.bools false c.Back, SO.ints false .i64 p.Res, SO.ints false .i64 p.Ex, SO.ints false .i64 p.H, .box [.val (.int .i64 c.N), .val (.int .i64 c.S), .val (.int .i64 c.T), .slc 0 0 c.First.length none, .slc 1 0 c.Head.length none, .slc 2 0 c.Rev.length none, .slc 3 0 c.Cap.length none, .slc 4 0 c.Arc.length none, .slc 5 0 c.Back.length none], .box [.slc 6 0 p.Res.length none, .slc 7 0 p.Ex.length none, .slc 8 0 p.H.length none], .box [.val (.int .i64 c.N), .val (.int .i64 c.S), .val (.int .i64 c.T), .slc 0 0 c.First.length none, .slc 1 0 c.Head.length none, .slc 2 0 c.Rev.length none, .slc 3 0 c.Cap.length none, .slc 4 0 c.Arc.length none, .slc 5 0 c.Back.length none], SO.ints true .i64 (selK (stuQ c p) i)]) (fun i => c.N.toNat - i) (fun i => i ≤ c.N.toNat) (0) [0, 1, 2, 3, 4, 5, 6, 7, 8, 9, 10, 11, 12] (by simp) ⟨shR rfl, shR rfl, shR rfl, shR rfl, shR rfl, shR rfl, shR rfl, shR rfl, shR rfl, shR rfl, shR rfl, shR rfl, shR rfl, trivial⟩ rfl (pre_ok rfl) hρ ⟨⟨_, rfl, rfl⟩, ⟨_, rfl, rfl⟩, ⟨_, rfl, rfl⟩, ⟨_, rfl, rfl⟩, ⟨_, rfl, rfl⟩, trivial⟩ ?_
  intro i hi
  have hsl := selK_len (stuQ c p) i
  refine w_seq ?_
  refine w_region ?_
  refine rw_t 10 rfl rfl rfl (do_bin rfl rfl rfl ?_)
  refine rw_nil ?_
  refine w_seq ?_
  refine w_cond rfl (fun hc1 => ?_) (fun hc1 => ?_)
  all_goals try simp only [bs] at hc1
  rotate_left
  · refine w_exit ?_
    refine w_seq ?_
    refine w_region ?_
    refine rw_t 20 rfl rfl rfl (do_move rfl ?_)
    refine rw_t 4 rfl rfl rfl (do_assign rfl ?_)
    refine rw_nil ?_
    have hi' : i = c.N.toNat := by omega
    subst hi'
    refine w_ret ?_
    exact ret_eq (.inl rfl) (.cons (res_tmp rfl) .nil) [0, 1, 2, 3, 4, 5, 6, 7, 8, 9, 10, 12] (rfl) ⟨shR rfl, shR rfl, shR rfl, shR rfl, shR rfl, shR rfl, shR rfl, shR rfl, shR rfl, shR rfl, shR rfl, shR rfl, trivial⟩ rfl (pre_ok rfl)
  refine w_skip ?_
  refine w_seq ?_
  refine w_block ?_
  refine w_seq ?_
  refine w_region ?_
  refine rw_t 11 rfl rfl rfl (do_move rfl ?_)
  refine rw_t 6 rfl rfl rfl (do_assign rfl ?_)
  refine rw_nil ?_
  refine w_seq ?_
  refine w_region ?_
  refine rw_t 12 rfl rfl rfl (do_move rfl ?_)
  refine rw_t 13 rfl rfl rfl (do_move rfl ?_)
  refine rw_t 14 rfl rfl rfl (n_callW (X' := .val (.bool (decide (stuckP c p ((i : Nat) : Int))))) (H' := [SO.ints false .i64 c.First, SO.ints false .i64 c.Head, SO.ints false .i64 c.Rev, SO.ints false .i64 c.Cap, SO.ints false .i64 c.Arc, SO.bools false c.Back, SO.ints false .i64 p.Res, SO.ints false .i64 p.Ex, SO.ints false .i64 p.H, .box [.val (.int .i64 c.N), .val (.int .i64 c.S), .val (.int .i64 c.T), .slc 0 0 c.First.length none, .slc 1 0 c.Head.length none, .slc 2 0 c.Rev.length none, .slc 3 0 c.Cap.length none, .slc 4 0 c.Arc.length none, .slc 5 0 c.Back.length none], .box [.slc 6 0 p.Res.length none, .slc 7 0 p.Ex.length none, .slc 8 0 p.H.length none], .box [.val (.int .i64 c.N), .val (.int .i64 c.S), .val (.int .i64 c.T), .slc 0 0 c.First.length none, .slc 1 0 c.Head.length none, .slc 2 0 c.Rev.length none, .slc 3 0 c.Cap.length none, .slc 4 0 c.Arc.length none, .slc 5 0 c.Back.length none], SO.ints true .i64 (selK (stuQ c p) i)]) rfl rfl (t_sel1M (c := c) (p := p) (u := ((i : Nat) : Int)) (h) (hp) (by omega)) [0, 1, 2, 3, 4, 5, 6, 7, 8, 9, 10] ⟨.inr ⟨_, rfl, srv⟩, .inr ⟨_, rfl, srv⟩, .inr ⟨_, rfl, srv⟩, .inr ⟨_, rfl, srv⟩, .inr ⟨_, rfl, srv⟩, .inr ⟨_, rfl, srv⟩, .inr ⟨_, rfl, srv⟩, .inr ⟨_, rfl, srv⟩, .inr ⟨_, rfl, srv⟩, shR rfl, shR rfl, trivial⟩ rfl rfl ⟨fun h => (by cases h), ⟨fun h => (by cases h), ⟨fun h => (by cases h), ⟨fun h => (by cases h), ⟨fun h => (by cases h), ⟨fun h => (by cases h), ⟨fun h => (by cases h), ⟨fun h => (by cases h), ⟨fun h => (by cases h), ⟨fun h => .inl rfl, ⟨fun h => .inl rfl, (fun y hy => by simp at hy)⟩⟩⟩⟩⟩⟩⟩⟩⟩⟩⟩ rfl rfl ?_)
  refine rw_nil ?_
  refine w_cond rfl (fun hc2 => ?_) (fun hc2 => ?_)
  all_goals try simp only [bs] at hc2
  · -- region 6
    refine w_region ?_
    refine rw_t 15 rfl rfl rfl (do_move rfl ?_)
    refine rw_t 16 rfl rfl rfl (do_move rfl ?_)
    refine rw_t 17 rfl rfl rfl (n_bs (nm := 13) Int (encI .i64) 0 [((i : Nat) : Int)] rfl rfl rfl rfl rfl (fun _ => rfl) (fun _ _ h => by simp [encI] at h; subst h; rfl) rfl ?_)
    refine rw_t 18 rfl rfl rfl (n_app_own (nm := 14) rfl rfl rfl rfl rfl (by first | omega | (simp only [ls] <;> omega)) (by first | omega | (simp only [ls] <;> omega)) (by omega) (by omega) rfl ?_)
    refine rw_t 5 rfl rfl rfl (do_assign rfl ?_)
    refine rw_nil ?_
    refine w_region ?_
    refine rw_t 19 rfl rfl rfl (do_add rfl rfl (by omega) ?_)
    refine rw_t 9 rfl rfl rfl (do_move rfl ?_)
    refine rw_nil ?_
    have hq : (stuQ c p) i = true := decide_eq_true hc2
    refine ⟨i + 1, [0, 1, 2, 3, 4, 5, 6, 7, 8, 9, 10, 11, 14], by dsimp only; omega, by omega, ⟨shR rfl, shR rfl, shR rfl, shR rfl, shR rfl, shR rfl, shR rfl, shR rfl, shR rfl, shR rfl, shR rfl, shR rfl, .inr ⟨_, rfl, .inl (congrArg (SO.ints true .i64) (selK_one hq))⟩, trivial⟩, rfl, pre_ok rfl, ⟨⟨_, rfl, rfl⟩, ⟨_, rfl, rfl⟩, ⟨_, rfl, (congrArg (fun n => SV.slc 14 0 n none) (by rw [selK_one hq, List.length_append]; rfl : (selK (stuQ c p) i).length + 1 = (selK (stuQ c p) (i + 1)).length)).trans rfl⟩, ⟨_, rfl, rfl⟩, ⟨_, rfl, rfl⟩, trivial⟩⟩
  · refine w_skip ?_
    refine w_region ?_
    refine rw_t 19 rfl rfl rfl (do_add rfl rfl (by omega) ?_)
    refine rw_t 9 rfl rfl rfl (do_move rfl ?_)
    refine rw_nil ?_
    have hq : ¬ (stuQ c p) i = true := fun q => hc2 (of_decide_eq_true q)
    refine ⟨i + 1, [0, 1, 2, 3, 4, 5, 6, 7, 8, 9, 10, 11, 12], by dsimp only; omega, by omega, ⟨shR rfl, shR rfl, shR rfl, shR rfl, shR rfl, shR rfl, shR rfl, shR rfl, shR rfl, shR rfl, shR rfl, shR rfl, .inr ⟨_, rfl, .inl (congrArg (SO.ints true .i64) (selK_none hq))⟩, trivial⟩, rfl, pre_ok rfl, ⟨⟨_, rfl, rfl⟩, ⟨_, rfl, rfl⟩, ⟨_, rfl, (congrArg (fun n => SV.slc 12 0 n none) (by rw [selK_none hq] : (selK (stuQ c p) i).length = (selK (stuQ c p) (i + 1)).length)).trans rfl⟩, ⟨_, rfl, rfl⟩, ⟨_, rfl, rfl⟩, trivial⟩⟩
set_option maxHeartbeats 8000000 in
set_option synthInstance.maxHeartbeats 400000 in
set_option synthInstance.maxSize 2000 in
theorem t_Active (c : Csr) (p : Pre) (h : CsrT c) (hp : PreIn c p) : Tri Try.prog 20 [.agg [.val (.int .i64 c.N), .val (.int .i64 c.S), .val (.int .i64 c.T), .slc 0 0 c.First.length none, .slc 1 0 c.Head.length none, .slc 2 0 c.Rev.length none, .slc 3 0 c.Cap.length none, .slc 4 0 c.Arc.length none, .slc 5 0 c.Back.length none], .agg [.slc 6 0 p.Res.length none, .slc 7 0 p.Ex.length none, .slc 8 0 p.H.length none]] [SO.ints false .i64 c.First, SO.ints false .i64 c.Head, SO.ints false .i64 c.Rev, SO.ints false .i64 c.Cap, SO.ints false .i64 c.Arc, SO.bools false c.Back, SO.ints false .i64 p.Res, SO.ints false .i64 p.Ex, SO.ints false .i64 p.H] (fun s H => s = .slc 9 0 ((activeL c p).length) none ∧ H = [SO.ints false .i64 c.First, SO.ints false .i64 c.Head, SO.ints false .i64 c.Rev, SO.ints false .i64 c.Cap, SO.ints false .i64 c.Arc, SO.bools false c.Back, SO.ints false .i64 p.Res, SO.ints false .i64 p.Ex, SO.ints false .i64 p.H, SO.ints true .i64 (activeL c p)]) := by
  refine tri_of_w (fn := Try.f20) Try.func20 rfl (by simp [Try.f20]) ?_
  intro ρ w hρ
  refine w_seq ?_
  have hn := h.n
  have hf := h.first
  have hhd := h.head
  have hrl := h.rev
  have hcl := h.cap
  have hal := h.arc
  have hbl := h.back
  have hr := hp.res
  have hx := hp.ex
  have hh := hp.h
  refine w_region ?_
  refine rw_t 2 rfl rfl rfl (n_box_agg (n := 9) rfl rfl ?_)
  refine rw_t 3 rfl rfl rfl (n_box_agg (n := 10) rfl rfl ?_)
  refine rw_t 4 rfl rfl rfl (do_assign rfl ?_)
  refine rw_nil ?_
  refine w_seq ?_
  refine w_region ?_
  refine rw_t 5 rfl rfl rfl (n_load_boxagg [_, _, _, _, _, _, _, _, _] rfl rfl (Nat.le_of_ble_eq_true rfl) rfl ?_)
  refine rw_t 6 rfl rfl rfl (do_makefunc rfl rfl ?_)
  refine rw_t 7 rfl rfl rfl (n_callW (X' := .slc 11 0 ((selK (actQ c p) c.N.toNat).length) none) (H' := [SO.ints false .i64 c.First, SO.ints false .i64 c.Head, SO.ints false .i64 c.Rev, SO.ints false .i64 c.Cap, SO.ints false .i64 c.Arc, SO.bools false c.Back, SO.ints false .i64 p.Res, SO.ints false .i64 p.Ex, SO.ints false .i64 p.H, .box [.val (.int .i64 c.N), .val (.int .i64 c.S), .val (.int .i64 c.T), .slc 0 0 c.First.length none, .slc 1 0 c.Head.length none, .slc 2 0 c.Rev.length none, .slc 3 0 c.Cap.length none, .slc 4 0 c.Arc.length none, .slc 5 0 c.Back.length none], .box [.slc 6 0 p.Res.length none, .slc 7 0 p.Ex.length none, .slc 8 0 p.H.length none], SO.ints true .i64 (selK (actQ c p) c.N.toNat)]) rfl rfl (t_allA (c := c) (p := p) (h) (hp)) [0, 1, 2, 3, 4, 5, 6, 7, 8, 9, 10] ⟨.inr ⟨_, rfl, srv⟩, .inr ⟨_, rfl, srv⟩, .inr ⟨_, rfl, srv⟩, .inr ⟨_, rfl, srv⟩, .inr ⟨_, rfl, srv⟩, .inr ⟨_, rfl, srv⟩, .inr ⟨_, rfl, srv⟩, .inr ⟨_, rfl, srv⟩, .inr ⟨_, rfl, srv⟩, shR rfl, shR rfl, trivial⟩ rfl rfl ⟨fun h => (by cases h), ⟨fun h => (by cases h), ⟨fun h => (by cases h), ⟨fun h => (by cases h), ⟨fun h => (by cases h), ⟨fun h => (by cases h), ⟨fun h => (by cases h), ⟨fun h => (by cases h), ⟨fun h => (by cases h), ⟨fun h => .inl rfl, ⟨fun h => .inl rfl, (okNew_tail rfl)⟩⟩⟩⟩⟩⟩⟩⟩⟩⟩⟩ rfl rfl ?_)
  refine rw_t 4 rfl rfl rfl (do_assign rfl ?_)
  refine rw_nil ?_
  refine w_ret ?_
  exact ret_eq (.inl rfl) (.cons (res_tmp rfl) .nil) [0, 1, 2, 3, 4, 5, 6, 7, 8, 11] (rfl) ⟨shR rfl, shR rfl, shR rfl, shR rfl, shR rfl, shR rfl, shR rfl, shR rfl, shR rfl, shR rfl, trivial⟩ rfl (pre_ok rfl)
end Go.Proofs
