/- If nobody is active what is left is of a flow, T is not reached from S, and no flow is worth more. Part 6. -/
import Derived.Test.YtmmjpjhhbpehcaaW5
set_option linter.unusedVariables false
set_option linter.unusedSimpArgs false
set_option linter.unusedVariables false
set_option linter.unusedSimpArgs false
namespace Go.Proofs
open Go Go.Sx Go.RowKit
set_option maxHeartbeats 8000000 in
set_option synthInstance.maxHeartbeats 400000 in
set_option synthInstance.maxSize 2000 in
theorem t_note0N (c : Csr) (h : CsrQ c) (q : Pre) (hq : refR c q) (p : Pre) (hp : refR c p) : Tri Try.prog 35 [.agg [.val (.int .i64 c.N), .val (.int .i64 c.S), .val (.int .i64 c.T), .slc 0 0 c.First.length none, .slc 1 0 c.Head.length none, .slc 2 0 c.Rev.length none, .slc 3 0 c.Cap.length none, .slc 4 0 c.Arc.length none, .slc 5 0 c.Back.length none], .agg [.slc 6 0 q.Res.length none, .slc 7 0 q.Ex.length none, .slc 8 0 q.H.length none], .agg [.slc 9 0 p.Res.length none, .slc 10 0 p.Ex.length none, .slc 11 0 p.H.length none], .ptr 12 0 0, .ptr 13 0 0] [SO.ints false .i64 c.First, SO.ints false .i64 c.Head, SO.ints false .i64 c.Rev, SO.ints false .i64 c.Cap, SO.ints false .i64 c.Arc, SO.bools false c.Back, SO.ints false .i64 q.Res, SO.ints false .i64 q.Ex, SO.ints false .i64 q.H, SO.ints false .i64 p.Res, SO.ints false .i64 p.Ex, SO.ints false .i64 p.H, .box [.val (.int .i64 0), .val (.int .i64 0), .val (.int .i64 0), .val (.slice none 0 0), .val (.slice none 0 0), .val (.slice none 0 0), .val (.slice none 0 0), .val (.slice none 0 0), .val (.slice none 0 0)], .box [.val (.slice none 0 0), .val (.slice none 0 0), .val (.slice none 0 0)]] (fun s H => s = .val (.bool true) ∧ H = [SO.ints false .i64 c.First, SO.ints false .i64 c.Head, SO.ints false .i64 c.Rev, SO.ints false .i64 c.Cap, SO.ints false .i64 c.Arc, SO.bools false c.Back, SO.ints false .i64 q.Res, SO.ints false .i64 q.Ex, SO.ints false .i64 q.H, SO.ints false .i64 p.Res, SO.ints false .i64 p.Ex, SO.ints false .i64 p.H, .box [.val (.int .i64 c.N), .val (.int .i64 c.S), .val (.int .i64 c.T), .slc 0 0 c.First.length none, .slc 1 0 c.Head.length none, .slc 2 0 c.Rev.length none, .slc 3 0 c.Cap.length none, .slc 4 0 c.Arc.length none, .slc 5 0 c.Back.length none], .box [.slc 9 0 p.Res.length none, .slc 10 0 p.Ex.length none, .slc 11 0 p.H.length none]]) := by
  refine tri_of_w (fn := Try.f35) Try.func35 rfl (by simp [Try.f35]) ?_
  intro ρ w hρ
  refine w_seq ?_
  refine w_region ?_
  refine rw_t 5 rfl rfl rfl (n_box_agg (n := 14) rfl rfl ?_)
  refine rw_t 6 rfl rfl rfl (n_box_agg (n := 15) rfl rfl ?_)
  refine rw_t 7 rfl rfl rfl (n_box_agg (n := 16) rfl rfl ?_)
  refine rw_t 8 rfl rfl rfl (do_assign rfl ?_)
  refine rw_nil ?_
  refine w_midS (ι := Unit) (fun _ => [(8, .val (.bool false))]) (fun _ => [SO.ints false .i64 c.First, SO.ints false .i64 c.Head, SO.ints false .i64 c.Rev, SO.ints false .i64 c.Cap, SO.ints false .i64 c.Arc, SO.bools false c.Back, SO.ints false .i64 q.Res, SO.ints false .i64 q.Ex, SO.ints false .i64 q.H, SO.ints false .i64 p.Res, SO.ints false .i64 p.Ex, SO.ints false .i64 p.H, .box [.val (.int .i64 c.N), .val (.int .i64 c.S), .val (.int .i64 c.T), .slc 0 0 c.First.length none, .slc 1 0 c.Head.length none, .slc 2 0 c.Rev.length none, .slc 3 0 c.Cap.length none, .slc 4 0 c.Arc.length none, .slc 5 0 c.Back.length none], .box [.slc 9 0 p.Res.length none, .slc 10 0 p.Ex.length none, .slc 11 0 p.H.length none], .box [.val (.int .i64 c.N), .val (.int .i64 c.S), .val (.int .i64 c.T), .slc 0 0 c.First.length none, .slc 1 0 c.Head.length none, .slc 2 0 c.Rev.length none, .slc 3 0 c.Cap.length none, .slc 4 0 c.Arc.length none, .slc 5 0 c.Back.length none], .box [.slc 6 0 q.Res.length none, .slc 7 0 q.Ex.length none, .slc 8 0 q.H.length none], .box [.slc 9 0 p.Res.length none, .slc 10 0 p.Ex.length none, .slc 11 0 p.H.length none]]) (fun _ => True) hρ ?_ ?_
  · -- region 1
    refine w_any mixed ?_
    refine wa_drawZ [0, 0] [1, 7] [1] 2 rfl rfl (by decide) (by kernel_rfl) (by kernel_rfl) rfl rfl rfl (hle hρ rfl) ?_
    refine ra_q (j := 0) rfl rfl rfl rfl (n_load_boxagg [_, _, _, _, _, _, _, _, _] rfl rfl (Nat.le_of_ble_eq_true rfl) rfl ⟨rfl, rfl⟩) (by rfl) ?_
    refine ra_q (j := 1) rfl rfl rfl rfl (n_load_boxagg [_, _, _] rfl rfl (Nat.le_of_ble_eq_true rfl) rfl ⟨rfl, rfl⟩) (by rfl) ?_
    refine n_fin ?_ ?_
    · refine rw_u rfl rfl (n_store_whole rfl rfl rfl rfl rfl rfl ?_)
      refine rw_u rfl rfl (n_store_whole rfl rfl rfl rfl rfl rfl ?_)
      refine rw_nil ?_
      exact ⟨(), [0, 1, 2, 3, 4, 5, 6, 7, 8, 9, 10, 11, 12, 13, 14, 15, 16], trivial, ⟨shR rfl, shR rfl, shR rfl, shR rfl, shR rfl, shR rfl, shR rfl, shR rfl, shR rfl, shR rfl, shR rfl, shR rfl, shR rfl, shR rfl, shR rfl, shR rfl, shR rfl, trivial⟩, rfl, pre_ok rfl, ⟨⟨_, rfl, rfl⟩, trivial⟩⟩
    refine all_cons ?_ ?_
    · refine rx_step [1, 2] rfl (by kernel_rfl) rfl ?_
      refine rx_cons ?_ ?_
      · refine ⟨_, rfl, rfl, rfl, n_load_boxagg [_, _, _] rfl rfl (Nat.le_of_ble_eq_true rfl) rfl ?_⟩
        refine rx_step [2] rfl (by kernel_rfl) rfl ?_
        refine rx_cons ?_ ?_
        · refine ⟨_, rfl, rfl, rfl, do_store_boxagg rfl rfl rfl (Nat.le_of_ble_eq_true rfl) rfl (allPlain rfl) ?_⟩
          refine rx_step [3] rfl (by kernel_rfl) rfl ?_
          refine rx_cons ?_ ?_
          · refine ⟨_, rfl, rfl, rfl, do_store_boxagg rfl rfl rfl (Nat.le_of_ble_eq_true rfl) rfl (allPlain rfl) ?_⟩
            refine rx_done (by kernel_rfl) ?_
            exact ⟨(), [0, 1, 2, 3, 4, 5, 6, 7, 8, 9, 10, 11, 12, 13, 14, 15, 16], trivial, ⟨shR rfl, shR rfl, shR rfl, shR rfl, shR rfl, shR rfl, shR rfl, shR rfl, shR rfl, shR rfl, shR rfl, shR rfl, shR rfl, shR rfl, shR rfl, shR rfl, shR rfl, trivial⟩, rfl, pre_ok rfl, ⟨⟨_, rfl, rfl⟩, trivial⟩⟩
          exact rx_nil
        exact rx_nil
      refine rx_cons ?_ ?_
      · refine ⟨_, rfl, rfl, rfl, do_store_boxagg rfl rfl rfl (Nat.le_of_ble_eq_true rfl) rfl (allPlain rfl) ?_⟩
        refine rx_step [1] rfl (by kernel_rfl) rfl ?_
        refine rx_cons ?_ ?_
        · refine ⟨_, rfl, rfl, rfl, n_load_boxagg [_, _, _] rfl rfl (Nat.le_of_ble_eq_true rfl) rfl ?_⟩
          refine rx_step [3] rfl (by kernel_rfl) rfl ?_
          refine rx_cons ?_ ?_
          · refine ⟨_, rfl, rfl, rfl, do_store_boxagg rfl rfl rfl (Nat.le_of_ble_eq_true rfl) rfl (allPlain rfl) ?_⟩
            refine rx_done (by kernel_rfl) ?_
            exact ⟨(), [0, 1, 2, 3, 4, 5, 6, 7, 8, 9, 10, 11, 12, 13, 14, 15, 16], trivial, ⟨shR rfl, shR rfl, shR rfl, shR rfl, shR rfl, shR rfl, shR rfl, shR rfl, shR rfl, shR rfl, shR rfl, shR rfl, shR rfl, shR rfl, shR rfl, shR rfl, shR rfl, trivial⟩, rfl, pre_ok rfl, ⟨⟨_, rfl, rfl⟩, trivial⟩⟩
          exact rx_nil
        exact rx_nil
      exact rx_nil
    exact all_nil
  rintro ⟨⟩ -
  refine w_seq ?_
  refine w_region ?_
  refine rw_t 8 rfl rfl rfl (do_assign rfl ?_)
  refine rw_nil ?_
  refine w_ret ?_
  exact ret_eq (.inl rfl) (.cons (res_tmp rfl) .nil) [0, 1, 2, 3, 4, 5, 6, 7, 8, 9, 10, 11, 12, 13] (rfl) ⟨shR rfl, shR rfl, shR rfl, shR rfl, shR rfl, shR rfl, shR rfl, shR rfl, shR rfl, shR rfl, shR rfl, shR rfl, shR rfl, shR rfl, trivial⟩ rfl (pre_ok rfl)
set_option maxHeartbeats 8000000 in
set_option synthInstance.maxHeartbeats 400000 in
set_option synthInstance.maxSize 2000 in
theorem t_note1N (c : Csr) (h : CsrQ c) (q : Pre) (hq : refR c q) (p : Pre) (hp : refR c p) : Tri Try.prog 35 [.agg [.val (.int .i64 c.N), .val (.int .i64 c.S), .val (.int .i64 c.T), .slc 0 0 c.First.length none, .slc 1 0 c.Head.length none, .slc 2 0 c.Rev.length none, .slc 3 0 c.Cap.length none, .slc 4 0 c.Arc.length none, .slc 5 0 c.Back.length none], .agg [.slc 6 0 q.Res.length none, .slc 7 0 q.Ex.length none, .slc 8 0 q.H.length none], .agg [.slc 9 0 p.Res.length none, .slc 10 0 p.Ex.length none, .slc 11 0 p.H.length none], .ptr 12 0 0, .ptr 13 0 0] [SO.ints false .i64 c.First, SO.ints false .i64 c.Head, SO.ints false .i64 c.Rev, SO.ints false .i64 c.Cap, SO.ints false .i64 c.Arc, SO.bools false c.Back, SO.ints false .i64 q.Res, SO.ints false .i64 q.Ex, SO.ints false .i64 q.H, SO.ints false .i64 p.Res, SO.ints false .i64 p.Ex, SO.ints false .i64 p.H, .box [.val (.int .i64 c.N), .val (.int .i64 c.S), .val (.int .i64 c.T), .slc 0 0 c.First.length none, .slc 1 0 c.Head.length none, .slc 2 0 c.Rev.length none, .slc 3 0 c.Cap.length none, .slc 4 0 c.Arc.length none, .slc 5 0 c.Back.length none], .box [.slc 6 0 q.Res.length none, .slc 7 0 q.Ex.length none, .slc 8 0 q.H.length none]] (fun s H => s = .val (.bool true) ∧ H = [SO.ints false .i64 c.First, SO.ints false .i64 c.Head, SO.ints false .i64 c.Rev, SO.ints false .i64 c.Cap, SO.ints false .i64 c.Arc, SO.bools false c.Back, SO.ints false .i64 q.Res, SO.ints false .i64 q.Ex, SO.ints false .i64 q.H, SO.ints false .i64 p.Res, SO.ints false .i64 p.Ex, SO.ints false .i64 p.H, .box [.val (.int .i64 c.N), .val (.int .i64 c.S), .val (.int .i64 c.T), .slc 0 0 c.First.length none, .slc 1 0 c.Head.length none, .slc 2 0 c.Rev.length none, .slc 3 0 c.Cap.length none, .slc 4 0 c.Arc.length none, .slc 5 0 c.Back.length none], .box [.slc 9 0 p.Res.length none, .slc 10 0 p.Ex.length none, .slc 11 0 p.H.length none]]) := by
  refine tri_of_w (fn := Try.f35) Try.func35 rfl (by simp [Try.f35]) ?_
  intro ρ w hρ
  refine w_seq ?_
  refine w_region ?_
  refine rw_t 5 rfl rfl rfl (n_box_agg (n := 14) rfl rfl ?_)
  refine rw_t 6 rfl rfl rfl (n_box_agg (n := 15) rfl rfl ?_)
  refine rw_t 7 rfl rfl rfl (n_box_agg (n := 16) rfl rfl ?_)
  refine rw_t 8 rfl rfl rfl (do_assign rfl ?_)
  refine rw_nil ?_
  refine w_midS (ι := Unit) (fun _ => [(8, .val (.bool false))]) (fun _ => [SO.ints false .i64 c.First, SO.ints false .i64 c.Head, SO.ints false .i64 c.Rev, SO.ints false .i64 c.Cap, SO.ints false .i64 c.Arc, SO.bools false c.Back, SO.ints false .i64 q.Res, SO.ints false .i64 q.Ex, SO.ints false .i64 q.H, SO.ints false .i64 p.Res, SO.ints false .i64 p.Ex, SO.ints false .i64 p.H, .box [.val (.int .i64 c.N), .val (.int .i64 c.S), .val (.int .i64 c.T), .slc 0 0 c.First.length none, .slc 1 0 c.Head.length none, .slc 2 0 c.Rev.length none, .slc 3 0 c.Cap.length none, .slc 4 0 c.Arc.length none, .slc 5 0 c.Back.length none], .box [.slc 9 0 p.Res.length none, .slc 10 0 p.Ex.length none, .slc 11 0 p.H.length none], .box [.val (.int .i64 c.N), .val (.int .i64 c.S), .val (.int .i64 c.T), .slc 0 0 c.First.length none, .slc 1 0 c.Head.length none, .slc 2 0 c.Rev.length none, .slc 3 0 c.Cap.length none, .slc 4 0 c.Arc.length none, .slc 5 0 c.Back.length none], .box [.slc 6 0 q.Res.length none, .slc 7 0 q.Ex.length none, .slc 8 0 q.H.length none], .box [.slc 9 0 p.Res.length none, .slc 10 0 p.Ex.length none, .slc 11 0 p.H.length none]]) (fun _ => True) hρ ?_ ?_
  · -- region 1
    refine w_any mixed ?_
    refine wa_drawZ [0, 0] [1, 7] [1] 2 rfl rfl (by decide) (by kernel_rfl) (by kernel_rfl) rfl rfl rfl (hle hρ rfl) ?_
    refine ra_q (j := 0) rfl rfl rfl rfl (n_load_boxagg [_, _, _, _, _, _, _, _, _] rfl rfl (Nat.le_of_ble_eq_true rfl) rfl ⟨rfl, rfl⟩) (by rfl) ?_
    refine ra_q (j := 1) rfl rfl rfl rfl (n_load_boxagg [_, _, _] rfl rfl (Nat.le_of_ble_eq_true rfl) rfl ⟨rfl, rfl⟩) (by rfl) ?_
    refine n_fin ?_ ?_
    · refine rw_u rfl rfl (n_store_whole rfl rfl rfl rfl rfl rfl ?_)
      refine rw_u rfl rfl (n_store_whole rfl rfl rfl rfl rfl rfl ?_)
      refine rw_nil ?_
      exact ⟨(), [0, 1, 2, 3, 4, 5, 6, 7, 8, 9, 10, 11, 12, 13, 14, 15, 16], trivial, ⟨shR rfl, shR rfl, shR rfl, shR rfl, shR rfl, shR rfl, shR rfl, shR rfl, shR rfl, shR rfl, shR rfl, shR rfl, shR rfl, shR rfl, shR rfl, shR rfl, shR rfl, trivial⟩, rfl, pre_ok rfl, ⟨⟨_, rfl, rfl⟩, trivial⟩⟩
    refine all_cons ?_ ?_
    · refine rx_step [1, 2] rfl (by kernel_rfl) rfl ?_
      refine rx_cons ?_ ?_
      · refine ⟨_, rfl, rfl, rfl, n_load_boxagg [_, _, _] rfl rfl (Nat.le_of_ble_eq_true rfl) rfl ?_⟩
        refine rx_step [2] rfl (by kernel_rfl) rfl ?_
        refine rx_cons ?_ ?_
        · refine ⟨_, rfl, rfl, rfl, do_store_boxagg rfl rfl rfl (Nat.le_of_ble_eq_true rfl) rfl (allPlain rfl) ?_⟩
          refine rx_step [3] rfl (by kernel_rfl) rfl ?_
          refine rx_cons ?_ ?_
          · refine ⟨_, rfl, rfl, rfl, do_store_boxagg rfl rfl rfl (Nat.le_of_ble_eq_true rfl) rfl (allPlain rfl) ?_⟩
            refine rx_done (by kernel_rfl) ?_
            exact ⟨(), [0, 1, 2, 3, 4, 5, 6, 7, 8, 9, 10, 11, 12, 13, 14, 15, 16], trivial, ⟨shR rfl, shR rfl, shR rfl, shR rfl, shR rfl, shR rfl, shR rfl, shR rfl, shR rfl, shR rfl, shR rfl, shR rfl, shR rfl, shR rfl, shR rfl, shR rfl, shR rfl, trivial⟩, rfl, pre_ok rfl, ⟨⟨_, rfl, rfl⟩, trivial⟩⟩
          exact rx_nil
        exact rx_nil
      refine rx_cons ?_ ?_
      · refine ⟨_, rfl, rfl, rfl, do_store_boxagg rfl rfl rfl (Nat.le_of_ble_eq_true rfl) rfl (allPlain rfl) ?_⟩
        refine rx_step [1] rfl (by kernel_rfl) rfl ?_
        refine rx_cons ?_ ?_
        · refine ⟨_, rfl, rfl, rfl, n_load_boxagg [_, _, _] rfl rfl (Nat.le_of_ble_eq_true rfl) rfl ?_⟩
          refine rx_step [3] rfl (by kernel_rfl) rfl ?_
          refine rx_cons ?_ ?_
          · refine ⟨_, rfl, rfl, rfl, do_store_boxagg rfl rfl rfl (Nat.le_of_ble_eq_true rfl) rfl (allPlain rfl) ?_⟩
            refine rx_done (by kernel_rfl) ?_
            exact ⟨(), [0, 1, 2, 3, 4, 5, 6, 7, 8, 9, 10, 11, 12, 13, 14, 15, 16], trivial, ⟨shR rfl, shR rfl, shR rfl, shR rfl, shR rfl, shR rfl, shR rfl, shR rfl, shR rfl, shR rfl, shR rfl, shR rfl, shR rfl, shR rfl, shR rfl, shR rfl, shR rfl, trivial⟩, rfl, pre_ok rfl, ⟨⟨_, rfl, rfl⟩, trivial⟩⟩
          exact rx_nil
        exact rx_nil
      exact rx_nil
    exact all_nil
  rintro ⟨⟩ -
  refine w_seq ?_
  refine w_region ?_
  refine rw_t 8 rfl rfl rfl (do_assign rfl ?_)
  refine rw_nil ?_
  refine w_ret ?_
  exact ret_eq (.inl rfl) (.cons (res_tmp rfl) .nil) [0, 1, 2, 3, 4, 5, 6, 7, 8, 9, 10, 11, 12, 13] (rfl) ⟨shR rfl, shR rfl, shR rfl, shR rfl, shR rfl, shR rfl, shR rfl, shR rfl, shR rfl, shR rfl, shR rfl, shR rfl, shR rfl, shR rfl, trivial⟩ rfl (pre_ok rfl)
set_option maxHeartbeats 8000000 in
set_option synthInstance.maxHeartbeats 400000 in
set_option synthInstance.maxSize 2000 in
theorem t_PlayN (n : Net) (hsm : Small n) (l : List Int) (hlb : ∀ x ∈ l, 0 ≤ x ∧ x < 256) (hll : l.length ≤ 9223372036854775807) (m : Nat) (hm : m ≤ l.length) : Tri Try.prog 28 [.agg [.val (.int .i64 n.N), .val (.int .i64 n.S), .val (.int .i64 n.T), .slc 0 0 n.arcs.length none], .slc 1 0 m none, .func 35 [] [.ptr 2 0 0, .ptr 3 0 0]] [SO.arcs false n.arcs, SO.ints false .u8 l, .box [.val (.int .i64 0), .val (.int .i64 0), .val (.int .i64 0), .val (.slice none 0 0), .val (.slice none 0 0), .val (.slice none 0 0), .val (.slice none 0 0), .val (.slice none 0 0), .val (.slice none 0 0)], .box [.val (.slice none 0 0), .val (.slice none 0 0), .val (.slice none 0 0)]] (fun s H => s = .val (.bool true) ∧ H = [SO.arcs false n.arcs, SO.ints false .u8 l, .box [.val (.int .i64 ((makeC n).N)), .val (.int .i64 ((makeC n).S)), .val (.int .i64 ((makeC n).T)), .slc 4 0 ((makeC n).First.length) none, .slc 5 0 ((makeC n).Head.length) none, .slc 6 0 ((makeC n).Rev.length) none, .slc 7 0 ((makeC n).Cap.length) none, .slc 8 0 ((makeC n).Arc.length) none, .slc 9 0 ((makeC n).Back.length) none], .box [.slc 10 0 ((playK (makeC n) l m).Res.length) none, .slc 11 0 ((playK (makeC n) l m).Ex.length) none, .slc 12 0 ((playK (makeC n) l m).H.length) none], SO.ints true .i64 ((makeC n).First), SO.ints true .i64 ((makeC n).Head), SO.ints true .i64 ((makeC n).Rev), SO.ints true .i64 ((makeC n).Cap), SO.ints true .i64 ((makeC n).Arc), SO.bools true ((makeC n).Back), SO.ints true .i64 ((playK (makeC n) l m).Res), SO.ints true .i64 ((playK (makeC n) l m).Ex), SO.ints true .i64 ((playK (makeC n) l m).H)]) := by
  refine tri_of_w (fn := Try.f28) Try.func28 rfl (by simp [Try.f28]) ?_
  intro ρ w hρ
  refine w_seq ?_
  have hcq := make_q hsm
  have hg := hcq.toCsrG
  have hgT := hcq.toCsrT
  have hhl := hg.small
  have hN := hg.n
  have hSS := hg.s
  have hTT := hg.t
  refine w_region ?_
  refine rw_t 3 rfl rfl rfl (n_box_agg (n := 4) rfl rfl ?_)
  refine rw_t 6 rfl rfl rfl (do_assign rfl ?_)
  refine rw_nil ?_
  refine w_seq ?_
  refine w_region ?_
  refine rw_t 18 rfl rfl rfl (n_load_boxagg [_, _, _, _] rfl rfl (Nat.le_of_ble_eq_true rfl) rfl ?_)
  refine rw_t 19 rfl rfl rfl (n_callN (X' := .tup [.agg [.val (.int .i64 ((makeC n).N)), .val (.int .i64 ((makeC n).S)), .val (.int .i64 ((makeC n).T)), .slc 5 0 ((makeC n).First.length) none, .slc 6 0 ((makeC n).Head.length) none, .slc 7 0 ((makeC n).Rev.length) none, .slc 8 0 ((makeC n).Cap.length) none, .slc 9 0 ((makeC n).Arc.length) none, .slc 10 0 ((makeC n).Back.length) none], .val (.int .i64 0)]) (N' := [SO.ints true .i64 ((makeC n).First), SO.ints true .i64 ((makeC n).Head), SO.ints true .i64 ((makeC n).Rev), SO.ints true .i64 ((makeC n).Cap), SO.ints true .i64 ((makeC n).Arc), SO.bools true ((makeC n).Back)]) rfl rfl (t_pMake (n := n) (hsm.toNetOK)) [0] ⟨.inr ⟨_, rfl, srv⟩, trivial⟩ rfl rfl rfl rfl rfl ?_)
  refine rw_t 17 rfl rfl rfl (do_move rfl ?_)
  refine rw_t 20 rfl rfl rfl (do_extract rfl rfl ?_)
  refine rw_t 21 rfl rfl rfl (do_extract rfl rfl ?_)
  refine rw_t 7 rfl rfl rfl (n_alloc (n := 11) rfl ?_)
  refine rw_u rfl rfl (n_store_whole rfl rfl rfl rfl rfl rfl ?_)
  refine rw_t 8 rfl rfl rfl (do_assign rfl ?_)
  refine rw_nil ?_
  refine w_seq ?_
  refine w_seq ?_
  refine w_region ?_
  refine rw_t 22 rfl rfl rfl (do_move rfl ?_)
  refine rw_t 23 rfl rfl rfl (do_bin rfl rfl rfl ?_)
  refine rw_nil ?_
  refine w_cond rfl (fun hc1 => ?_) (fun hc1 => ?_)
  · exfalso; simp at hc1
  refine w_skip ?_
  refine w_seq ?_
  refine w_region ?_
  refine rw_t 24 rfl rfl rfl (n_load_boxagg [_, _, _, _, _, _, _, _, _] rfl rfl (Nat.le_of_ble_eq_true rfl) rfl ?_)
  refine rw_t 25 rfl rfl rfl (n_callN (X' := .agg [.slc 12 0 ((begC (makeC n)).Res.length) none, .slc 13 0 ((begC (makeC n)).Ex.length) none, .slc 14 0 ((begC (makeC n)).H.length) none]) (N' := [SO.ints true .i64 ((begC (makeC n)).Res), SO.ints true .i64 ((begC (makeC n)).Ex), SO.ints true .i64 ((begC (makeC n)).H)]) rfl rfl (t_Begin (c := (makeC n)) (hgT) ((beg_in_all hcq))) [5, 6, 7, 8, 9, 10] ⟨.inr ⟨_, rfl, srv⟩, .inr ⟨_, rfl, srv⟩, .inr ⟨_, rfl, srv⟩, .inr ⟨_, rfl, srv⟩, .inr ⟨_, rfl, srv⟩, .inr ⟨_, rfl, srv⟩, trivial⟩ rfl rfl rfl rfl rfl ?_)
  refine rw_t 9 rfl rfl rfl (n_alloc (n := 15) rfl ?_)
  refine rw_u rfl rfl (n_store_whole rfl rfl rfl rfl rfl rfl ?_)
  refine rw_nil ?_
  refine w_seq ?_
  refine w_seq ?_
  refine w_region ?_
  refine rw_t 26 rfl rfl rfl (do_move rfl ?_)
  refine rw_t 27 rfl rfl rfl (n_load_boxagg [_, _, _, _, _, _, _, _, _] rfl rfl (Nat.le_of_ble_eq_true rfl) rfl ?_)
  refine rw_t 28 rfl rfl rfl (n_load_boxagg [_, _, _] rfl rfl (Nat.le_of_ble_eq_true rfl) rfl ?_)
  refine rw_t 29 rfl rfl rfl (n_load_boxagg [_, _, _] rfl rfl (Nat.le_of_ble_eq_true rfl) rfl ?_)
  refine rw_t 30 rfl rfl rfl (n_callW (X' := .val (.bool true)) (H' := [SO.arcs false n.arcs, SO.ints false .u8 l, .box [.val (.int .i64 ((makeC n).N)), .val (.int .i64 ((makeC n).S)), .val (.int .i64 ((makeC n).T)), .slc 5 0 ((makeC n).First.length) none, .slc 6 0 ((makeC n).Head.length) none, .slc 7 0 ((makeC n).Rev.length) none, .slc 8 0 ((makeC n).Cap.length) none, .slc 9 0 ((makeC n).Arc.length) none, .slc 10 0 ((makeC n).Back.length) none], .box [.slc 12 0 ((begC (makeC n)).Res.length) none, .slc 13 0 ((begC (makeC n)).Ex.length) none, .slc 14 0 ((begC (makeC n)).H.length) none], .box [.val (.int .i64 n.N), .val (.int .i64 n.S), .val (.int .i64 n.T), .slc 0 0 n.arcs.length none], SO.ints true .i64 ((makeC n).First), SO.ints true .i64 ((makeC n).Head), SO.ints true .i64 ((makeC n).Rev), SO.ints true .i64 ((makeC n).Cap), SO.ints true .i64 ((makeC n).Arc), SO.bools true ((makeC n).Back), .box [.val (.int .i64 ((makeC n).N)), .val (.int .i64 ((makeC n).S)), .val (.int .i64 ((makeC n).T)), .slc 5 0 ((makeC n).First.length) none, .slc 6 0 ((makeC n).Head.length) none, .slc 7 0 ((makeC n).Rev.length) none, .slc 8 0 ((makeC n).Cap.length) none, .slc 9 0 ((makeC n).Arc.length) none, .slc 10 0 ((makeC n).Back.length) none], SO.ints true .i64 ((begC (makeC n)).Res), SO.ints true .i64 ((begC (makeC n)).Ex), SO.ints true .i64 ((begC (makeC n)).H), .box [.slc 12 0 ((begC (makeC n)).Res.length) none, .slc 13 0 ((begC (makeC n)).Ex.length) none, .slc 14 0 ((begC (makeC n)).H.length) none]]) rfl rfl (t_note0N (c := (makeC n)) (q := (begC (makeC n))) (p := (begC (makeC n))) (hcq) ((beg_ref hcq)) ((beg_ref hcq))) [5, 6, 7, 8, 9, 10, 12, 13, 14, 12, 13, 14, 2, 3] ⟨.inr ⟨_, rfl, srv⟩, .inr ⟨_, rfl, srv⟩, .inr ⟨_, rfl, srv⟩, .inr ⟨_, rfl, srv⟩, .inr ⟨_, rfl, srv⟩, .inr ⟨_, rfl, srv⟩, .inr ⟨_, rfl, srv⟩, .inr ⟨_, rfl, srv⟩, .inr ⟨_, rfl, srv⟩, .inr ⟨_, rfl, srv⟩, .inr ⟨_, rfl, srv⟩, .inr ⟨_, rfl, srv⟩, shR rfl, shR rfl, trivial⟩ rfl rfl ⟨fun h => (by cases h), ⟨fun h => (by cases h), ⟨fun h => (by cases h), ⟨fun h => (by cases h), ⟨fun h => (by cases h), ⟨fun h => (by cases h), ⟨fun h => (by cases h), ⟨fun h => (by cases h), ⟨fun h => (by cases h), ⟨fun h => (by cases h), ⟨fun h => (by cases h), ⟨fun h => (by cases h), ⟨fun h => .inl rfl, ⟨fun h => .inl rfl, (fun y hy => by simp at hy)⟩⟩⟩⟩⟩⟩⟩⟩⟩⟩⟩⟩⟩⟩ rfl rfl ?_)
  refine rw_t 31 rfl rfl rfl (do_not rfl ?_)
  refine rw_nil ?_
  refine w_cond rfl (fun hc2 => ?_) (fun hc2 => ?_)
  · exfalso; first | (cases hc2; done) | exact (hc2 trivial) | (try simp only [bs] at hc2; first | omega | (simp_all; done) | (simp_all; omega))
  refine w_skip ?_
  refine w_seq ?_
  refine w_seq ?_
  refine w_region ?_
  refine rw_t 32 rfl rfl rfl (do_move rfl ?_)
  refine rw_t 33 rfl rfl rfl (do_len rfl ?_)
  refine rw_t 34 rfl rfl rfl (do_move rfl ?_)
  refine rw_nil ?_
  refine w_block ?_
  refine w_loopS (ι := Nat × Pre) (fun q => [(2, .func 35 [] [.ptr 2 0 0, .ptr 3 0 0]), (7, .ptr 11 0 0), (9, .ptr 15 0 0), (32, .slc 1 0 m none), (33, .val (.int .i64 ((m : Nat) : Int))), (34, .val (.int .i64 ((q.1 : Nat) : Int)))]) (fun q => [SO.arcs false n.arcs, SO.ints false .u8 l, .box [.val (.int .i64 ((makeC n).N)), .val (.int .i64 ((makeC n).S)), .val (.int .i64 ((makeC n).T)), .slc 5 0 ((makeC n).First.length) none, .slc 6 0 ((makeC n).Head.length) none, .slc 7 0 ((makeC n).Rev.length) none, .slc 8 0 ((makeC n).Cap.length) none, .slc 9 0 ((makeC n).Arc.length) none, .slc 10 0 ((makeC n).Back.length) none], .box [.slc 12 0 q.2.Res.length none, .slc 13 0 q.2.Ex.length none, .slc 14 0 q.2.H.length none], .box [.val (.int .i64 n.N), .val (.int .i64 n.S), .val (.int .i64 n.T), .slc 0 0 n.arcs.length none], SO.ints true .i64 ((makeC n).First), SO.ints true .i64 ((makeC n).Head), SO.ints true .i64 ((makeC n).Rev), SO.ints true .i64 ((makeC n).Cap), SO.ints true .i64 ((makeC n).Arc), SO.bools true ((makeC n).Back), .box [.val (.int .i64 ((makeC n).N)), .val (.int .i64 ((makeC n).S)), .val (.int .i64 ((makeC n).T)), .slc 5 0 ((makeC n).First.length) none, .slc 6 0 ((makeC n).Head.length) none, .slc 7 0 ((makeC n).Rev.length) none, .slc 8 0 ((makeC n).Cap.length) none, .slc 9 0 ((makeC n).Arc.length) none, .slc 10 0 ((makeC n).Back.length) none], SO.ints true .i64 q.2.Res, SO.ints true .i64 q.2.Ex, SO.ints true .i64 q.2.H, .box [.slc 12 0 q.2.Res.length none, .slc 13 0 q.2.Ex.length none, .slc 14 0 q.2.H.length none]]) (fun q => m - q.1) (fun q => q.1 ≤ m ∧ refR (makeC n) q.2 ∧ q.2 = playK (makeC n) l q.1) ((0, begC (makeC n))) [0, 1, 2, 3, 4, 5, 6, 7, 8, 9, 10, 11, 12, 13, 14, 15] (⟨by simp, beg_ref hcq, rfl⟩) ⟨shR rfl, shR rfl, shR rfl, shR rfl, shR rfl, shR rfl, shR rfl, shR rfl, shR rfl, shR rfl, shR rfl, shR rfl, shR rfl, shR rfl, shR rfl, shR rfl, trivial⟩ rfl (pre_ok rfl) hρ ⟨⟨_, rfl, rfl⟩, ⟨_, rfl, rfl⟩, ⟨_, rfl, rfl⟩, ⟨_, rfl, rfl⟩, ⟨_, rfl, rfl⟩, ⟨_, rfl, rfl⟩, trivial⟩ ?_
  rintro ⟨i, r⟩ ⟨gi, gr, gk⟩
  dsimp only at gi gr gk ⊢
  refine w_seq ?_
  refine w_region ?_
  refine rw_t 35 rfl rfl rfl (do_bin rfl rfl rfl ?_)
  refine rw_nil ?_
  refine w_seq ?_
  refine w_cond rfl (fun hc3 => ?_) (fun hc3 => ?_)
  all_goals try simp only [bs] at hc3
  rotate_left
  · refine w_exit ?_
    refine w_seq ?_
    refine w_region ?_
    refine rw_t 6 rfl rfl rfl (do_assign rfl ?_)
    refine rw_nil ?_
    have hfin : r = playK (makeC n) l m := gk.trans (by rw [show i = m by omega])
    rw [hfin]
    refine w_ret ?_
    exact ret_eq (.inl rfl) (.cons (res_tmp rfl) .nil) [0, 1, 2, 3, 5, 6, 7, 8, 9, 10, 12, 13, 14] (rfl) ⟨shR rfl, shR rfl, shR rfl, shR rfl, shR rfl, shR rfl, shR rfl, shR rfl, shR rfl, shR rfl, shR rfl, shR rfl, shR rfl, trivial⟩ rfl (pre_ok rfl)
  refine w_skip ?_
  refine w_seq ?_
  refine w_block ?_
  refine w_seq ?_
  refine w_region ?_
  refine rw_t 36 rfl rfl rfl (do_ixn rfl rfl rfl (by first | omega | (simp only [ls] <;> omega)) ?_)
  refine rw_t 37 rfl rfl rfl (do_load_arr rfl rfl (by first | omega | (simp only [ls] <;> omega)) rfl ?_)
  refine rw_as (.val (.int .u8 (l.getD i 0))) (val_congr (by simp)) ?_
  refine rw_t 11 rfl rfl rfl (do_assign rfl ?_)
  refine rw_nil ?_
  refine w_seq ?_
  have hin := refR_in hg gr
  have hpi := refR_push hg gr
  have hr1 := hin.res
  have hr2 := hin.ex
  have hr3 := hin.h
  have hpl : (pushL (makeC n) r).length ≤ (makeC n).Head.length := selK_len (pusQ (makeC n) r) (makeC n).Head.length
  have hsl : (stuckL (makeC n) r).length ≤ (makeC n).N.toNat := selK_len (stuQ (makeC n) r) (makeC n).N.toNat
  refine w_region ?_
  refine rw_t 39 rfl rfl rfl (n_load_boxagg [_, _, _, _, _, _, _, _, _] rfl rfl (Nat.le_of_ble_eq_true rfl) rfl ?_)
  refine rw_t 40 rfl rfl rfl (n_load_boxagg [_, _, _] rfl rfl (Nat.le_of_ble_eq_true rfl) rfl ?_)
  refine rw_t 41 rfl rfl rfl (n_callN (X' := .tup [.slc 16 0 ((pushL (makeC n) r).length) none, .slc 17 0 ((stuckL (makeC n) r).length) none]) (N' := [SO.ints true .i64 (pushL (makeC n) r), SO.ints true .i64 (stuckL (makeC n) r)]) rfl rfl (t_May (c := (makeC n)) (p := r) (hgT) (hin)) [5, 6, 7, 8, 9, 10, 12, 13, 14] ⟨.inr ⟨_, rfl, srv⟩, .inr ⟨_, rfl, srv⟩, .inr ⟨_, rfl, srv⟩, .inr ⟨_, rfl, srv⟩, .inr ⟨_, rfl, srv⟩, .inr ⟨_, rfl, srv⟩, .inr ⟨_, rfl, srv⟩, .inr ⟨_, rfl, srv⟩, .inr ⟨_, rfl, srv⟩, trivial⟩ rfl rfl rfl rfl rfl ?_)
  refine rw_t 38 rfl rfl rfl (do_move rfl ?_)
  refine rw_t 42 rfl rfl rfl (do_extract rfl rfl ?_)
  refine rw_t 43 rfl rfl rfl (do_extract rfl rfl ?_)
  refine rw_t 12 rfl rfl rfl (do_assign rfl ?_)
  refine rw_t 13 rfl rfl rfl (do_assign rfl ?_)
  refine rw_nil ?_
  refine w_seq ?_
  have hxb := hlb _ (getD_mem 0 (show i < l.length by omega))
  refine w_region ?_
  refine rw_t 44 rfl rfl rfl (do_move rfl ?_)
  refine rw_t 45 rfl rfl rfl (do_conv rfl ?_)
  refine rw_as (.val (.int .i64 (l.getD i 0))) (val_congr (wrap_small (x := l.getD i 0) (by omega))) ?_
  refine rw_t 14 rfl rfl rfl (do_assign rfl ?_)
  refine rw_nil ?_
  refine w_seq ?_
  refine w_region ?_
  refine rw_t 15 rfl rfl rfl (n_alloc (n := 18) rfl ?_)
  refine rw_nil ?_
  refine w_seq ?_
  refine w_region ?_
  refine rw_t 16 rfl rfl rfl (do_assign rfl ?_)
  refine rw_nil ?_
  refine w_seq ?_
  refine w_block ?_
  refine w_env [(2, .func 35 [] [.ptr 2 0 0, .ptr 3 0 0]), (7, .ptr 11 0 0), (9, .ptr 15 0 0), (11, .val (.int .u8 (l.getD i 0))), (12, .slc 16 0 ((pushL (makeC n) r).length) none), (13, .slc 17 0 ((stuckL (makeC n) r).length) none), (14, .val (.int .i64 (l.getD i 0))), (15, .ptr 18 0 0), (16, .val (.int .i64 0)), (32, .slc 1 0 m none), (33, .val (.int .i64 ((m : Nat) : Int))), (34, .val (.int .i64 ((i : Nat) : Int))), (35, .val (.bool (decide (((i : Nat) : Int) < ((m : Nat) : Int))))), (36, .ptr 1 i 0), (37, .val (.int .u8 (l.getD i 0))), (38, .tup [.slc 16 0 ((pushL (makeC n) r).length) none, .slc 17 0 ((stuckL (makeC n) r).length) none]), (39, .agg [.val (.int .i64 ((makeC n).N)), .val (.int .i64 ((makeC n).S)), .val (.int .i64 ((makeC n).T)), .slc 5 0 ((makeC n).First.length) none, .slc 6 0 ((makeC n).Head.length) none, .slc 7 0 ((makeC n).Rev.length) none, .slc 8 0 ((makeC n).Cap.length) none, .slc 9 0 ((makeC n).Arc.length) none, .slc 10 0 ((makeC n).Back.length) none]), (40, .agg [.slc 12 0 r.Res.length none, .slc 13 0 r.Ex.length none, .slc 14 0 r.H.length none]), (41, .tup [.slc 16 0 ((pushL (makeC n) r).length) none, .slc 17 0 ((stuckL (makeC n) r).length) none]), (42, .slc 16 0 ((pushL (makeC n) r).length) none), (43, .slc 17 0 ((stuckL (makeC n) r).length) none), (44, .val (.int .u8 (l.getD i 0))), (45, .val (.int .i64 (l.getD i 0)))] ⟨⟨_, rfl, rfl⟩, ⟨_, rfl, rfl⟩, ⟨_, rfl, rfl⟩, ⟨_, rfl, rfl⟩, ⟨_, rfl, rfl⟩, ⟨_, rfl, rfl⟩, ⟨_, rfl, rfl⟩, ⟨_, rfl, rfl⟩, ⟨_, rfl, rfl⟩, ⟨_, rfl, rfl⟩, ⟨_, rfl, rfl⟩, ⟨_, rfl, rfl⟩, ⟨_, rfl, rfl⟩, ⟨_, rfl, rfl⟩, ⟨_, rfl, rfl⟩, ⟨_, rfl, rfl⟩, ⟨_, rfl, rfl⟩, ⟨_, rfl, rfl⟩, ⟨_, rfl, rfl⟩, ⟨_, rfl, rfl⟩, ⟨_, rfl, rfl⟩, ⟨_, rfl, rfl⟩, ⟨_, rfl, rfl⟩, trivial⟩ ?_
  refine w_seqB 46 (((((pushL (makeC n) r).length : Nat) : Int) > 0 ∧ ((l.getD i 0).tmod 2 = 0 ∨ (((stuckL (makeC n) r).length : Nat) : Int) = 0))) ?_ ?_
  · -- region 15
    refine w_region ?_
    refine rw_t 47 rfl rfl rfl (do_move rfl ?_)
    refine rw_t 48 rfl rfl rfl (do_len rfl ?_)
    refine rw_t 49 rfl rfl rfl (do_bin rfl rfl rfl ?_)
    refine rw_t 50 rfl rfl rfl (do_move rfl ?_)
    refine rw_case 50 rfl (fun g1 => ?_) (fun g1 => ?_)
    · have kg1 := g1
      try simp only [bs] at kg1
      refine rw_gt 51 3 50 true rfl rfl rfl rfl rfl rfl g1 (do_move rfl ?_)
      refine rw_gt 52 3 50 true rfl rfl rfl rfl rfl rfl g1 (do_rem rfl rfl (by omega) ?_)
      refine rw_gt 53 3 50 true rfl rfl rfl rfl rfl rfl g1 (do_bin rfl rfl rfl ?_)
      refine rw_gt 54 3 50 true rfl rfl rfl rfl rfl rfl g1 (do_move rfl ?_)
      refine rw_case 54 rfl (fun g2 => ?_) (fun g2 => ?_)
      · have kg2 := g2
        try simp only [bs] at kg2
        refine rw_gf 55 7 54 false rfl rfl rfl rfl rfl rfl (by rw [g2]; decide) ?_
        refine rw_gf 56 7 54 false rfl rfl rfl rfl rfl rfl (by rw [g2]; decide) ?_
        refine rw_gf 57 7 54 false rfl rfl rfl rfl rfl rfl (by rw [g2]; decide) ?_
        refine rw_gt 58 3 50 true rfl rfl rfl rfl rfl rfl g1 (do_pick_t rfl g2 rfl ?_)
        refine rw_t 59 rfl rfl rfl (do_pick_t rfl g1 rfl ?_)
        refine rw_t 46 rfl rfl rfl (do_assign rfl ?_)
        refine rw_nil ?_
        refine ⟨rfl, ⟨_, rfl, by first | (simp; done) | (simp only [bs]; omega) | (simp [*]; done) | (simp; omega) | (constructor <;> intro h <;> simp_all <;> omega)⟩, ?_⟩
        repeat (refine ⟨⟨_, rfl, rfl⟩, ?_⟩)
        exact trivial
      · have kg2 := g2
        try simp only [bs] at kg2
        refine rw_gt 55 7 54 false rfl rfl rfl rfl rfl rfl g2 (do_move rfl ?_)
        refine rw_gt 56 7 54 false rfl rfl rfl rfl rfl rfl g2 (do_len rfl ?_)
        refine rw_gt 57 7 54 false rfl rfl rfl rfl rfl rfl g2 (do_bin rfl rfl rfl ?_)
        refine rw_gt 58 3 50 true rfl rfl rfl rfl rfl rfl g1 (do_pick_f rfl g2 rfl ?_)
        refine rw_t 59 rfl rfl rfl (do_pick_t rfl g1 rfl ?_)
        refine rw_t 46 rfl rfl rfl (do_assign rfl ?_)
        refine rw_nil ?_
        refine ⟨rfl, ⟨_, rfl, by first | (simp; done) | (simp only [bs]; omega) | (simp [*]; done) | (simp; omega) | (constructor <;> intro h <;> simp_all <;> omega)⟩, ?_⟩
        repeat (refine ⟨⟨_, rfl, rfl⟩, ?_⟩)
        exact trivial
    · have kg1 := g1
      try simp only [bs] at kg1
      refine rw_gf 51 3 50 true rfl rfl rfl rfl rfl rfl (by rw [g1]; decide) ?_
      refine rw_gf 52 3 50 true rfl rfl rfl rfl rfl rfl (by rw [g1]; decide) ?_
      refine rw_gf 53 3 50 true rfl rfl rfl rfl rfl rfl (by rw [g1]; decide) ?_
      refine rw_gf 54 3 50 true rfl rfl rfl rfl rfl rfl (by rw [g1]; decide) ?_
      refine rw_gu 55 7 54 false rfl rfl rfl rfl rfl rfl ?_
      refine rw_gu 56 7 54 false rfl rfl rfl rfl rfl rfl ?_
      refine rw_gu 57 7 54 false rfl rfl rfl rfl rfl rfl ?_
      refine rw_gf 58 3 50 true rfl rfl rfl rfl rfl rfl (by rw [g1]; decide) ?_
      refine rw_t 59 rfl rfl rfl (do_pick_f rfl g1 rfl ?_)
      refine rw_t 46 rfl rfl rfl (do_assign rfl ?_)
      refine rw_nil ?_
      refine ⟨rfl, ⟨_, rfl, by first | (simp; done) | (simp only [bs]; omega) | (simp [*]; done) | (simp; omega) | (constructor <;> intro h <;> simp_all <;> omega)⟩, ?_⟩
      repeat (refine ⟨⟨_, rfl, rfl⟩, ?_⟩)
      exact trivial
  intro b1 hb1
  refine w_condP hb1 rfl (fun hc4 => ?_) (fun hc4 => ?_)
  · have hix := ix_in hxb (show 0 < (pushL (makeC n) r).length by omega)
    have hixn : ((IntKind.i64.wrap ((l.getD i 0).tdiv 2)).tmod (((pushL (makeC n) r).length : Nat) : Int)).toNat < (pushL (makeC n) r).length := by omega
    have hok := push_ok hixn
    have hnx := walk_push hg gr hixn
    have hpk := playK_push gk (show 0 < (pushL (makeC n) r).length ∧ ((l.getD i 0).tmod 2 = 0 ∨ (stuckL (makeC n) r).length = 0) by omega)
    refine w_env [(2, .func 35 [] [.ptr 2 0 0, .ptr 3 0 0]), (7, .ptr 11 0 0), (9, .ptr 15 0 0), (11, .val (.int .u8 (l.getD i 0))), (12, .slc 16 0 ((pushL (makeC n) r).length) none), (13, .slc 17 0 ((stuckL (makeC n) r).length) none), (14, .val (.int .i64 (l.getD i 0))), (15, .ptr 18 0 0), (32, .slc 1 0 m none), (33, .val (.int .i64 ((m : Nat) : Int))), (34, .val (.int .i64 ((i : Nat) : Int))), (35, .val (.bool (decide (((i : Nat) : Int) < ((m : Nat) : Int))))), (36, .ptr 1 i 0), (37, .val (.int .u8 (l.getD i 0))), (38, .tup [.slc 16 0 ((pushL (makeC n) r).length) none, .slc 17 0 ((stuckL (makeC n) r).length) none]), (39, .agg [.val (.int .i64 ((makeC n).N)), .val (.int .i64 ((makeC n).S)), .val (.int .i64 ((makeC n).T)), .slc 5 0 ((makeC n).First.length) none, .slc 6 0 ((makeC n).Head.length) none, .slc 7 0 ((makeC n).Rev.length) none, .slc 8 0 ((makeC n).Cap.length) none, .slc 9 0 ((makeC n).Arc.length) none, .slc 10 0 ((makeC n).Back.length) none]), (40, .agg [.slc 12 0 r.Res.length none, .slc 13 0 r.Ex.length none, .slc 14 0 r.H.length none]), (41, .tup [.slc 16 0 ((pushL (makeC n) r).length) none, .slc 17 0 ((stuckL (makeC n) r).length) none]), (42, .slc 16 0 ((pushL (makeC n) r).length) none), (43, .slc 17 0 ((stuckL (makeC n) r).length) none), (44, .val (.int .u8 (l.getD i 0))), (45, .val (.int .i64 (l.getD i 0))), (46, .val (.bool b1))] ⟨⟨_, rfl, rfl⟩, ⟨_, rfl, rfl⟩, ⟨_, rfl, rfl⟩, ⟨_, rfl, rfl⟩, ⟨_, rfl, rfl⟩, ⟨_, rfl, rfl⟩, ⟨_, rfl, rfl⟩, ⟨_, rfl, rfl⟩, ⟨_, rfl, rfl⟩, ⟨_, rfl, rfl⟩, ⟨_, rfl, rfl⟩, ⟨_, rfl, rfl⟩, ⟨_, rfl, rfl⟩, ⟨_, rfl, rfl⟩, ⟨_, rfl, rfl⟩, ⟨_, rfl, rfl⟩, ⟨_, rfl, rfl⟩, ⟨_, rfl, rfl⟩, ⟨_, rfl, rfl⟩, ⟨_, rfl, rfl⟩, ⟨_, rfl, rfl⟩, ⟨_, rfl, rfl⟩, ⟨_, rfl, rfl⟩, trivial⟩ ?_
    refine w_any mixed ?_
    refine w_late 13 [15] rfl mixed (by kernel_rfl) (fun c e H h => no_panic h) ?_
    refine w_late 14 [15] rfl mixed (by kernel_rfl) (fun c e H h => no_panic h) ?_
    refine wa_draw [0, 0, 0, 0, 8, 0, 32, 120, 252, 508, 1023, 2047, 4095, 4095, 4095] [32767, 65535] (by kernel_rfl) (by kernel_rfl) rfl rfl rfl (hle hρ rfl) ?_
    refine ra_q' rfl (some 61) rfl (j := 0) rfl rfl rfl (n_load_boxagg [_, _, _, _, _, _, _, _, _] rfl rfl (Nat.le_of_ble_eq_true rfl) rfl ⟨rfl, rfl⟩) (by rfl) ?_
    refine ra_q' rfl (some 62) rfl (j := 1) rfl rfl rfl (n_load_boxagg [_, _, _] rfl rfl (Nat.le_of_ble_eq_true rfl) rfl ⟨rfl, rfl⟩) (by rfl) ?_
    refine ra_q' rfl (some 63) rfl (j := 2) rfl rfl rfl (do_move rfl ⟨rfl, rfl⟩) (by rfl) ?_
    refine ra_q' rfl (some 64) rfl (j := 3) rfl rfl rfl (do_move rfl ⟨rfl, rfl⟩) (by rfl) ?_
    refine ra_q' rfl (some 65) rfl (j := 4) rfl rfl rfl (do_quo rfl rfl (by omega) ⟨rfl, rfl⟩) (by rfl) ?_
    refine ra_q' rfl (some 66) rfl (j := 5) rfl rfl rfl (do_move rfl ⟨rfl, rfl⟩) (by rfl) ?_
    refine ra_q' rfl (some 67) rfl (j := 6) rfl rfl rfl (do_len rfl ⟨rfl, rfl⟩) (by rfl) ?_
    refine ra_q' rfl (some 68) rfl (j := 7) rfl rfl rfl (do_rem rfl rfl (by omega) ⟨rfl, rfl⟩) (by rfl) ?_
    refine ra_q' rfl (some 69) rfl (j := 8) rfl rfl rfl (do_ix0 rfl rfl rfl (by first | omega | (simp only [ls] <;> omega)) ⟨rfl, rfl⟩) (by rfl) ?_
    refine ra_q' rfl (some 70) rfl (j := 9) rfl rfl rfl (do_load_arr rfl rfl (by first | omega | (simp only [ls] <;> omega)) rfl ⟨rfl, rfl⟩) (by rfl) ?_
    refine ra_n' rfl (some 71) rfl (j := 10) rfl rfl rfl (g_callN (X' := .tup [.agg [.slc 19 0 ((pushR (makeC n) r ((pushL (makeC n) r).getD (((IntKind.i64.wrap ((l.getD i 0).tdiv 2)).tmod (((pushL (makeC n) r).length : Nat) : Int)).toNat) 0)).1.Res.length) none, .slc 20 0 ((pushR (makeC n) r ((pushL (makeC n) r).getD (((IntKind.i64.wrap ((l.getD i 0).tdiv 2)).tmod (((pushL (makeC n) r).length : Nat) : Int)).toNat) 0)).1.Ex.length) none, .slc 21 0 ((pushR (makeC n) r ((pushL (makeC n) r).getD (((IntKind.i64.wrap ((l.getD i 0).tdiv 2)).tmod (((pushL (makeC n) r).length : Nat) : Int)).toNat) 0)).1.H.length) none], .val (.int .i64 ((pushR (makeC n) r ((pushL (makeC n) r).getD (((IntKind.i64.wrap ((l.getD i 0).tdiv 2)).tmod (((pushL (makeC n) r).length : Nat) : Int)).toNat) 0)).2.1)), .val (.int .i64 ((pushR (makeC n) r ((pushL (makeC n) r).getD (((IntKind.i64.wrap ((l.getD i 0).tdiv 2)).tmod (((pushL (makeC n) r).length : Nat) : Int)).toNat) 0)).2.2))]) (N' := [SO.ints true .i64 ((pushR (makeC n) r ((pushL (makeC n) r).getD (((IntKind.i64.wrap ((l.getD i 0).tdiv 2)).tmod (((pushL (makeC n) r).length : Nat) : Int)).toNat) 0)).1.Res), SO.ints true .i64 ((pushR (makeC n) r ((pushL (makeC n) r).getD (((IntKind.i64.wrap ((l.getD i 0).tdiv 2)).tmod (((pushL (makeC n) r).length : Nat) : Int)).toNat) 0)).1.Ex), SO.ints true .i64 ((pushR (makeC n) r ((pushL (makeC n) r).getD (((IntKind.i64.wrap ((l.getD i 0).tdiv 2)).tmod (((pushL (makeC n) r).length : Nat) : Int)).toNat) 0)).1.H)]) rfl rfl (t_Push (c := (makeC n)) (p := r) (a := ((pushL (makeC n) r).getD (((IntKind.i64.wrap ((l.getD i 0).tdiv 2)).tmod (((pushL (makeC n) r).length : Nat) : Int)).toNat) 0)) (hgT) (hin) (hpi)) [5, 6, 7, 8, 9, 10, 12, 13, 14] ⟨.inr ⟨_, rfl, srv⟩, .inr ⟨_, rfl, srv⟩, .inr ⟨_, rfl, srv⟩, .inr ⟨_, rfl, srv⟩, .inr ⟨_, rfl, srv⟩, .inr ⟨_, rfl, srv⟩, .inr ⟨_, rfl, srv⟩, .inr ⟨_, rfl, srv⟩, .inr ⟨_, rfl, srv⟩, trivial⟩ rfl rfl rfl rfl rfl ⟨rfl, rfl⟩) (by rfl) (by rfl) (by rfl) ?_
    refine ra_q' rfl (some 60) rfl (j := 11) rfl rfl rfl (do_move rfl ⟨rfl, rfl⟩) (by rfl) ?_
    refine ra_q' rfl (some 72) rfl (j := 12) rfl rfl rfl (do_extract rfl rfl ⟨rfl, rfl⟩) (by rfl) ?_
    refine ra_q' rfl (some 73) rfl (j := 13) rfl rfl rfl (do_extract rfl rfl ⟨rfl, rfl⟩) (by rfl) ?_
    refine ra_q' rfl (some 74) rfl (j := 14) rfl rfl rfl (do_extract rfl rfl ⟨rfl, rfl⟩) (by rfl) ?_
    refine n_done ?_
    refine rw_u rfl rfl (n_store_whole rfl rfl rfl rfl rfl rfl ?_)
    refine rw_t 16 rfl rfl rfl (do_assign rfl ?_)
    refine rw_nil ?_
    refine w_seq ?_
    refine w_seq ?_
    refine w_region ?_
    refine rw_t 93 rfl rfl rfl (do_move rfl ?_)
    refine rw_t 94 rfl rfl rfl (do_bin rfl rfl rfl ?_)
    refine rw_t 95 rfl rfl rfl (do_move rfl ?_)
    have hkn1 : (((pushR (makeC n) r ((pushL (makeC n) r).getD (((IntKind.i64.wrap ((l.getD i 0).tdiv 2)).tmod (((pushL (makeC n) r).length : Nat) : Int)).toNat) 0)).2.2 != 0)) = false := by rw [hok]; rfl
    refine rw_gt 96 2 95 false rfl rfl rfl rfl rfl rfl hkn1 (do_move rfl ?_)
    refine rw_gt 97 2 95 false rfl rfl rfl rfl rfl rfl hkn1 (n_load_boxagg [_, _, _, _, _, _, _, _, _] rfl rfl (Nat.le_of_ble_eq_true rfl) rfl ?_)
    refine rw_gt 98 2 95 false rfl rfl rfl rfl rfl rfl hkn1 (n_load_boxagg [_, _, _] rfl rfl (Nat.le_of_ble_eq_true rfl) rfl ?_)
    refine rw_gt 99 2 95 false rfl rfl rfl rfl rfl rfl hkn1 (n_load_boxagg [_, _, _] rfl rfl (Nat.le_of_ble_eq_true rfl) rfl ?_)
    refine rw_gt 100 2 95 false rfl rfl rfl rfl rfl rfl hkn1 (n_callW (X' := .val (.bool true)) (H' := [SO.arcs false n.arcs, SO.ints false .u8 l, .box [.val (.int .i64 ((makeC n).N)), .val (.int .i64 ((makeC n).S)), .val (.int .i64 ((makeC n).T)), .slc 5 0 ((makeC n).First.length) none, .slc 6 0 ((makeC n).Head.length) none, .slc 7 0 ((makeC n).Rev.length) none, .slc 8 0 ((makeC n).Cap.length) none, .slc 9 0 ((makeC n).Arc.length) none, .slc 10 0 ((makeC n).Back.length) none], .box [.slc 19 0 (((pushR (makeC n) r ((pushL (makeC n) r).getD (((IntKind.i64.wrap ((l.getD i 0).tdiv 2)).tmod (((pushL (makeC n) r).length : Nat) : Int)).toNat) 0)).1).Res.length) none, .slc 20 0 (((pushR (makeC n) r ((pushL (makeC n) r).getD (((IntKind.i64.wrap ((l.getD i 0).tdiv 2)).tmod (((pushL (makeC n) r).length : Nat) : Int)).toNat) 0)).1).Ex.length) none, .slc 21 0 (((pushR (makeC n) r ((pushL (makeC n) r).getD (((IntKind.i64.wrap ((l.getD i 0).tdiv 2)).tmod (((pushL (makeC n) r).length : Nat) : Int)).toNat) 0)).1).H.length) none], .box [.val (.int .i64 n.N), .val (.int .i64 n.S), .val (.int .i64 n.T), .slc 0 0 n.arcs.length none], SO.ints true .i64 ((makeC n).First), SO.ints true .i64 ((makeC n).Head), SO.ints true .i64 ((makeC n).Rev), SO.ints true .i64 ((makeC n).Cap), SO.ints true .i64 ((makeC n).Arc), SO.bools true ((makeC n).Back), .box [.val (.int .i64 ((makeC n).N)), .val (.int .i64 ((makeC n).S)), .val (.int .i64 ((makeC n).T)), .slc 5 0 ((makeC n).First.length) none, .slc 6 0 ((makeC n).Head.length) none, .slc 7 0 ((makeC n).Rev.length) none, .slc 8 0 ((makeC n).Cap.length) none, .slc 9 0 ((makeC n).Arc.length) none, .slc 10 0 ((makeC n).Back.length) none], SO.ints true .i64 r.Res, SO.ints true .i64 r.Ex, SO.ints true .i64 r.H, .box [.slc 12 0 r.Res.length none, .slc 13 0 r.Ex.length none, .slc 14 0 r.H.length none], SO.ints true .i64 (pushL (makeC n) r), SO.ints true .i64 (stuckL (makeC n) r), .box [.slc 19 0 ((pushR (makeC n) r ((pushL (makeC n) r).getD (((IntKind.i64.wrap ((l.getD i 0).tdiv 2)).tmod (((pushL (makeC n) r).length : Nat) : Int)).toNat) 0)).1.Res.length) none, .slc 20 0 ((pushR (makeC n) r ((pushL (makeC n) r).getD (((IntKind.i64.wrap ((l.getD i 0).tdiv 2)).tmod (((pushL (makeC n) r).length : Nat) : Int)).toNat) 0)).1.Ex.length) none, .slc 21 0 ((pushR (makeC n) r ((pushL (makeC n) r).getD (((IntKind.i64.wrap ((l.getD i 0).tdiv 2)).tmod (((pushL (makeC n) r).length : Nat) : Int)).toNat) 0)).1.H.length) none], SO.ints true .i64 ((pushR (makeC n) r ((pushL (makeC n) r).getD (((IntKind.i64.wrap ((l.getD i 0).tdiv 2)).tmod (((pushL (makeC n) r).length : Nat) : Int)).toNat) 0)).1.Res), SO.ints true .i64 ((pushR (makeC n) r ((pushL (makeC n) r).getD (((IntKind.i64.wrap ((l.getD i 0).tdiv 2)).tmod (((pushL (makeC n) r).length : Nat) : Int)).toNat) 0)).1.Ex), SO.ints true .i64 ((pushR (makeC n) r ((pushL (makeC n) r).getD (((IntKind.i64.wrap ((l.getD i 0).tdiv 2)).tmod (((pushL (makeC n) r).length : Nat) : Int)).toNat) 0)).1.H)]) rfl rfl (t_note1N (c := (makeC n)) (q := r) (p := (pushR (makeC n) r ((pushL (makeC n) r).getD (((IntKind.i64.wrap ((l.getD i 0).tdiv 2)).tmod (((pushL (makeC n) r).length : Nat) : Int)).toNat) 0)).1) (hcq) (gr) (hnx)) [5, 6, 7, 8, 9, 10, 12, 13, 14, 19, 20, 21, 2, 3] ⟨.inr ⟨_, rfl, srv⟩, .inr ⟨_, rfl, srv⟩, .inr ⟨_, rfl, srv⟩, .inr ⟨_, rfl, srv⟩, .inr ⟨_, rfl, srv⟩, .inr ⟨_, rfl, srv⟩, .inr ⟨_, rfl, srv⟩, .inr ⟨_, rfl, srv⟩, .inr ⟨_, rfl, srv⟩, .inr ⟨_, rfl, srv⟩, .inr ⟨_, rfl, srv⟩, .inr ⟨_, rfl, srv⟩, shR rfl, shR rfl, trivial⟩ rfl rfl ⟨fun h => (by cases h), ⟨fun h => (by cases h), ⟨fun h => (by cases h), ⟨fun h => (by cases h), ⟨fun h => (by cases h), ⟨fun h => (by cases h), ⟨fun h => (by cases h), ⟨fun h => (by cases h), ⟨fun h => (by cases h), ⟨fun h => (by cases h), ⟨fun h => (by cases h), ⟨fun h => (by cases h), ⟨fun h => .inl rfl, ⟨fun h => .inl rfl, (fun y hy => by simp at hy)⟩⟩⟩⟩⟩⟩⟩⟩⟩⟩⟩⟩⟩⟩ rfl rfl ?_)
    refine rw_gt 101 2 95 false rfl rfl rfl rfl rfl rfl hkn1 (do_not rfl ?_)
    refine rw_t 102 rfl rfl rfl (do_pick_f rfl hkn1 rfl ?_)
    refine rw_nil ?_
    refine w_cond rfl (fun hc5 => ?_) (fun hc5 => ?_)
    · exfalso; first | (cases hc5; done) | exact (hc5 trivial) | (try simp only [bs] at hc5; first | omega | (simp_all; done) | (simp_all; omega))
    refine w_skip ?_
    refine w_region ?_
    refine rw_t 103 rfl rfl rfl (n_load_boxagg [_, _, _] rfl rfl (Nat.le_of_ble_eq_true rfl) rfl ?_)
    refine rw_u rfl rfl (n_store_whole rfl rfl rfl rfl rfl rfl ?_)
    refine rw_nil ?_
    refine w_region ?_
    refine rw_t 104 rfl rfl rfl (do_add rfl rfl (by omega) ?_)
    refine rw_t 34 rfl rfl rfl (do_move rfl ?_)
    refine rw_nil ?_
    refine ⟨(i + 1, (pushR (makeC n) r ((pushL (makeC n) r).getD (((IntKind.i64.wrap ((l.getD i 0).tdiv 2)).tmod (((pushL (makeC n) r).length : Nat) : Int)).toNat) 0)).1), [0, 1, 2, 3, 4, 5, 6, 7, 8, 9, 10, 11, 19, 20, 21, 15], by dsimp only; omega, ⟨by dsimp only; omega, hnx, hpk⟩, ⟨shR rfl, shR rfl, shR rfl, shR rfl, shR rfl, shR rfl, shR rfl, shR rfl, shR rfl, shR rfl, shR rfl, shR rfl, shR rfl, shR rfl, shR rfl, shR rfl, trivial⟩, rfl, pre_ok rfl, ⟨⟨_, rfl, rfl⟩, ⟨_, rfl, rfl⟩, ⟨_, rfl, rfl⟩, ⟨_, rfl, rfl⟩, ⟨_, rfl, rfl⟩, ⟨_, rfl, rfl⟩, trivial⟩⟩
  · refine w_seq ?_
    refine w_region ?_
    refine rw_t 76 rfl rfl rfl (do_move rfl ?_)
    refine rw_t 77 rfl rfl rfl (do_len rfl ?_)
    refine rw_t 78 rfl rfl rfl (do_bin rfl rfl rfl ?_)
    refine rw_t 75 rfl rfl rfl (do_assign rfl ?_)
    refine rw_nil ?_
    refine w_cond rfl (fun hc6 => ?_) (fun hc6 => ?_)
    all_goals try simp only [bs] at hc6
    rotate_left
    · refine w_seq ?_
      refine w_region ?_
      refine rw_t 6 rfl rfl rfl (do_assign rfl ?_)
      refine rw_nil ?_
      have hfin : r = playK (makeC n) l m := playK_end gk (by omega) (by omega) gi
      rw [hfin]
      refine w_ret ?_
      exact ret_eq (.inl rfl) (.cons (res_tmp rfl) .nil) [0, 1, 2, 3, 5, 6, 7, 8, 9, 10, 12, 13, 14] (rfl) ⟨shR rfl, shR rfl, shR rfl, shR rfl, shR rfl, shR rfl, shR rfl, shR rfl, shR rfl, shR rfl, shR rfl, shR rfl, shR rfl, trivial⟩ rfl (pre_ok rfl)
    have hix := ix_in hxb (show 0 < (stuckL (makeC n) r).length by omega)
    have hixn : ((IntKind.i64.wrap ((l.getD i 0).tdiv 2)).tmod (((stuckL (makeC n) r).length : Nat) : Int)).toNat < (stuckL (makeC n) r).length := by omega
    have hok := lift_ok (c := (makeC n)) (by omega) hixn
    have hnx := walk_lift hg gr hixn
    have hpk := playK_lift gk (show ¬ (0 < (pushL (makeC n) r).length ∧ ((l.getD i 0).tmod 2 = 0 ∨ (stuckL (makeC n) r).length = 0)) by omega) (by omega)
    refine w_env [(2, .func 35 [] [.ptr 2 0 0, .ptr 3 0 0]), (7, .ptr 11 0 0), (9, .ptr 15 0 0), (11, .val (.int .u8 (l.getD i 0))), (12, .slc 16 0 ((pushL (makeC n) r).length) none), (13, .slc 17 0 ((stuckL (makeC n) r).length) none), (14, .val (.int .i64 (l.getD i 0))), (15, .ptr 18 0 0), (32, .slc 1 0 m none), (33, .val (.int .i64 ((m : Nat) : Int))), (34, .val (.int .i64 ((i : Nat) : Int))), (35, .val (.bool (decide (((i : Nat) : Int) < ((m : Nat) : Int))))), (36, .ptr 1 i 0), (37, .val (.int .u8 (l.getD i 0))), (38, .tup [.slc 16 0 ((pushL (makeC n) r).length) none, .slc 17 0 ((stuckL (makeC n) r).length) none]), (39, .agg [.val (.int .i64 ((makeC n).N)), .val (.int .i64 ((makeC n).S)), .val (.int .i64 ((makeC n).T)), .slc 5 0 ((makeC n).First.length) none, .slc 6 0 ((makeC n).Head.length) none, .slc 7 0 ((makeC n).Rev.length) none, .slc 8 0 ((makeC n).Cap.length) none, .slc 9 0 ((makeC n).Arc.length) none, .slc 10 0 ((makeC n).Back.length) none]), (40, .agg [.slc 12 0 r.Res.length none, .slc 13 0 r.Ex.length none, .slc 14 0 r.H.length none]), (41, .tup [.slc 16 0 ((pushL (makeC n) r).length) none, .slc 17 0 ((stuckL (makeC n) r).length) none]), (42, .slc 16 0 ((pushL (makeC n) r).length) none), (43, .slc 17 0 ((stuckL (makeC n) r).length) none), (44, .val (.int .u8 (l.getD i 0))), (45, .val (.int .i64 (l.getD i 0))), (46, .val (.bool b1)), (75, .val (.bool (decide ((((stuckL (makeC n) r).length : Nat) : Int) > 0)))), (76, .slc 17 0 ((stuckL (makeC n) r).length) none), (77, .val (.int .i64 (((stuckL (makeC n) r).length : Nat) : Int))), (78, .val (.bool (decide ((((stuckL (makeC n) r).length : Nat) : Int) > 0))))] ⟨⟨_, rfl, rfl⟩, ⟨_, rfl, rfl⟩, ⟨_, rfl, rfl⟩, ⟨_, rfl, rfl⟩, ⟨_, rfl, rfl⟩, ⟨_, rfl, rfl⟩, ⟨_, rfl, rfl⟩, ⟨_, rfl, rfl⟩, ⟨_, rfl, rfl⟩, ⟨_, rfl, rfl⟩, ⟨_, rfl, rfl⟩, ⟨_, rfl, rfl⟩, ⟨_, rfl, rfl⟩, ⟨_, rfl, rfl⟩, ⟨_, rfl, rfl⟩, ⟨_, rfl, rfl⟩, ⟨_, rfl, rfl⟩, ⟨_, rfl, rfl⟩, ⟨_, rfl, rfl⟩, ⟨_, rfl, rfl⟩, ⟨_, rfl, rfl⟩, ⟨_, rfl, rfl⟩, ⟨_, rfl, rfl⟩, ⟨_, rfl, rfl⟩, ⟨_, rfl, rfl⟩, ⟨_, rfl, rfl⟩, ⟨_, rfl, rfl⟩, trivial⟩ ?_
    refine w_any mixed ?_
    refine w_late 13 [14] rfl mixed (by kernel_rfl) (fun c e H h => no_panic h) ?_
    refine wa_draw [0, 0, 0, 0, 8, 0, 32, 120, 252, 508, 1023, 2047, 4095, 4095] [16383, 32767] (by kernel_rfl) (by kernel_rfl) rfl rfl rfl (hle hρ rfl) ?_
    refine ra_q' rfl (some 80) rfl (j := 0) rfl rfl rfl (n_load_boxagg [_, _, _, _, _, _, _, _, _] rfl rfl (Nat.le_of_ble_eq_true rfl) rfl ⟨rfl, rfl⟩) (by rfl) ?_
    refine ra_q' rfl (some 81) rfl (j := 1) rfl rfl rfl (n_load_boxagg [_, _, _] rfl rfl (Nat.le_of_ble_eq_true rfl) rfl ⟨rfl, rfl⟩) (by rfl) ?_
    refine ra_q' rfl (some 82) rfl (j := 2) rfl rfl rfl (do_move rfl ⟨rfl, rfl⟩) (by rfl) ?_
    refine ra_q' rfl (some 83) rfl (j := 3) rfl rfl rfl (do_move rfl ⟨rfl, rfl⟩) (by rfl) ?_
    refine ra_q' rfl (some 84) rfl (j := 4) rfl rfl rfl (do_quo rfl rfl (by omega) ⟨rfl, rfl⟩) (by rfl) ?_
    refine ra_q' rfl (some 85) rfl (j := 5) rfl rfl rfl (do_move rfl ⟨rfl, rfl⟩) (by rfl) ?_
    refine ra_q' rfl (some 86) rfl (j := 6) rfl rfl rfl (do_len rfl ⟨rfl, rfl⟩) (by rfl) ?_
    refine ra_q' rfl (some 87) rfl (j := 7) rfl rfl rfl (do_rem rfl rfl (by omega) ⟨rfl, rfl⟩) (by rfl) ?_
    refine ra_q' rfl (some 88) rfl (j := 8) rfl rfl rfl (do_ix0 rfl rfl rfl (by first | omega | (simp only [ls] <;> omega)) ⟨rfl, rfl⟩) (by rfl) ?_
    refine ra_q' rfl (some 89) rfl (j := 9) rfl rfl rfl (do_load_arr rfl rfl (by first | omega | (simp only [ls] <;> omega)) rfl ⟨rfl, rfl⟩) (by rfl) ?_
    refine ra_n' rfl (some 90) rfl (j := 10) rfl rfl rfl (g_callN (X' := .tup [.agg [.slc 19 0 ((liftR (makeC n) r ((stuckL (makeC n) r).getD (((IntKind.i64.wrap ((l.getD i 0).tdiv 2)).tmod (((stuckL (makeC n) r).length : Nat) : Int)).toNat) 0)).1.Res.length) none, .slc 20 0 ((liftR (makeC n) r ((stuckL (makeC n) r).getD (((IntKind.i64.wrap ((l.getD i 0).tdiv 2)).tmod (((stuckL (makeC n) r).length : Nat) : Int)).toNat) 0)).1.Ex.length) none, .slc 21 0 ((liftR (makeC n) r ((stuckL (makeC n) r).getD (((IntKind.i64.wrap ((l.getD i 0).tdiv 2)).tmod (((stuckL (makeC n) r).length : Nat) : Int)).toNat) 0)).1.H.length) none], .val (.int .i64 ((liftR (makeC n) r ((stuckL (makeC n) r).getD (((IntKind.i64.wrap ((l.getD i 0).tdiv 2)).tmod (((stuckL (makeC n) r).length : Nat) : Int)).toNat) 0)).2))]) (N' := [SO.ints true .i64 ((liftR (makeC n) r ((stuckL (makeC n) r).getD (((IntKind.i64.wrap ((l.getD i 0).tdiv 2)).tmod (((stuckL (makeC n) r).length : Nat) : Int)).toNat) 0)).1.Res), SO.ints true .i64 ((liftR (makeC n) r ((stuckL (makeC n) r).getD (((IntKind.i64.wrap ((l.getD i 0).tdiv 2)).tmod (((stuckL (makeC n) r).length : Nat) : Int)).toNat) 0)).1.Ex), SO.ints true .i64 ((liftR (makeC n) r ((stuckL (makeC n) r).getD (((IntKind.i64.wrap ((l.getD i 0).tdiv 2)).tmod (((stuckL (makeC n) r).length : Nat) : Int)).toNat) 0)).1.H)]) rfl rfl (t_Lift (c := (makeC n)) (p := r) (u := ((stuckL (makeC n) r).getD (((IntKind.i64.wrap ((l.getD i 0).tdiv 2)).tmod (((stuckL (makeC n) r).length : Nat) : Int)).toNat) 0)) (hgT) (hin)) [5, 6, 7, 8, 9, 10, 12, 13, 14] ⟨.inr ⟨_, rfl, srv⟩, .inr ⟨_, rfl, srv⟩, .inr ⟨_, rfl, srv⟩, .inr ⟨_, rfl, srv⟩, .inr ⟨_, rfl, srv⟩, .inr ⟨_, rfl, srv⟩, .inr ⟨_, rfl, srv⟩, .inr ⟨_, rfl, srv⟩, .inr ⟨_, rfl, srv⟩, trivial⟩ rfl rfl rfl rfl rfl ⟨rfl, rfl⟩) (by rfl) (by rfl) (by rfl) ?_
    refine ra_q' rfl (some 79) rfl (j := 11) rfl rfl rfl (do_move rfl ⟨rfl, rfl⟩) (by rfl) ?_
    refine ra_q' rfl (some 91) rfl (j := 12) rfl rfl rfl (do_extract rfl rfl ⟨rfl, rfl⟩) (by rfl) ?_
    refine ra_q' rfl (some 92) rfl (j := 13) rfl rfl rfl (do_extract rfl rfl ⟨rfl, rfl⟩) (by rfl) ?_
    refine n_done ?_
    refine rw_u rfl rfl (n_store_whole rfl rfl rfl rfl rfl rfl ?_)
    refine rw_t 16 rfl rfl rfl (do_assign rfl ?_)
    refine rw_nil ?_
    refine w_seq ?_
    refine w_seq ?_
    refine w_region ?_
    refine rw_t 93 rfl rfl rfl (do_move rfl ?_)
    refine rw_t 94 rfl rfl rfl (do_bin rfl rfl rfl ?_)
    refine rw_t 95 rfl rfl rfl (do_move rfl ?_)
    have hkn2 : (((liftR (makeC n) r ((stuckL (makeC n) r).getD (((IntKind.i64.wrap ((l.getD i 0).tdiv 2)).tmod (((stuckL (makeC n) r).length : Nat) : Int)).toNat) 0)).2 != 0)) = false := by rw [hok]; rfl
    refine rw_gt 96 2 95 false rfl rfl rfl rfl rfl rfl hkn2 (do_move rfl ?_)
    refine rw_gt 97 2 95 false rfl rfl rfl rfl rfl rfl hkn2 (n_load_boxagg [_, _, _, _, _, _, _, _, _] rfl rfl (Nat.le_of_ble_eq_true rfl) rfl ?_)
    refine rw_gt 98 2 95 false rfl rfl rfl rfl rfl rfl hkn2 (n_load_boxagg [_, _, _] rfl rfl (Nat.le_of_ble_eq_true rfl) rfl ?_)
    refine rw_gt 99 2 95 false rfl rfl rfl rfl rfl rfl hkn2 (n_load_boxagg [_, _, _] rfl rfl (Nat.le_of_ble_eq_true rfl) rfl ?_)
    refine rw_gt 100 2 95 false rfl rfl rfl rfl rfl rfl hkn2 (n_callW (X' := .val (.bool true)) (H' := [SO.arcs false n.arcs, SO.ints false .u8 l, .box [.val (.int .i64 ((makeC n).N)), .val (.int .i64 ((makeC n).S)), .val (.int .i64 ((makeC n).T)), .slc 5 0 ((makeC n).First.length) none, .slc 6 0 ((makeC n).Head.length) none, .slc 7 0 ((makeC n).Rev.length) none, .slc 8 0 ((makeC n).Cap.length) none, .slc 9 0 ((makeC n).Arc.length) none, .slc 10 0 ((makeC n).Back.length) none], .box [.slc 19 0 (((liftR (makeC n) r ((stuckL (makeC n) r).getD (((IntKind.i64.wrap ((l.getD i 0).tdiv 2)).tmod (((stuckL (makeC n) r).length : Nat) : Int)).toNat) 0)).1).Res.length) none, .slc 20 0 (((liftR (makeC n) r ((stuckL (makeC n) r).getD (((IntKind.i64.wrap ((l.getD i 0).tdiv 2)).tmod (((stuckL (makeC n) r).length : Nat) : Int)).toNat) 0)).1).Ex.length) none, .slc 21 0 (((liftR (makeC n) r ((stuckL (makeC n) r).getD (((IntKind.i64.wrap ((l.getD i 0).tdiv 2)).tmod (((stuckL (makeC n) r).length : Nat) : Int)).toNat) 0)).1).H.length) none], .box [.val (.int .i64 n.N), .val (.int .i64 n.S), .val (.int .i64 n.T), .slc 0 0 n.arcs.length none], SO.ints true .i64 ((makeC n).First), SO.ints true .i64 ((makeC n).Head), SO.ints true .i64 ((makeC n).Rev), SO.ints true .i64 ((makeC n).Cap), SO.ints true .i64 ((makeC n).Arc), SO.bools true ((makeC n).Back), .box [.val (.int .i64 ((makeC n).N)), .val (.int .i64 ((makeC n).S)), .val (.int .i64 ((makeC n).T)), .slc 5 0 ((makeC n).First.length) none, .slc 6 0 ((makeC n).Head.length) none, .slc 7 0 ((makeC n).Rev.length) none, .slc 8 0 ((makeC n).Cap.length) none, .slc 9 0 ((makeC n).Arc.length) none, .slc 10 0 ((makeC n).Back.length) none], SO.ints true .i64 r.Res, SO.ints true .i64 r.Ex, SO.ints true .i64 r.H, .box [.slc 12 0 r.Res.length none, .slc 13 0 r.Ex.length none, .slc 14 0 r.H.length none], SO.ints true .i64 (pushL (makeC n) r), SO.ints true .i64 (stuckL (makeC n) r), .box [.slc 19 0 ((liftR (makeC n) r ((stuckL (makeC n) r).getD (((IntKind.i64.wrap ((l.getD i 0).tdiv 2)).tmod (((stuckL (makeC n) r).length : Nat) : Int)).toNat) 0)).1.Res.length) none, .slc 20 0 ((liftR (makeC n) r ((stuckL (makeC n) r).getD (((IntKind.i64.wrap ((l.getD i 0).tdiv 2)).tmod (((stuckL (makeC n) r).length : Nat) : Int)).toNat) 0)).1.Ex.length) none, .slc 21 0 ((liftR (makeC n) r ((stuckL (makeC n) r).getD (((IntKind.i64.wrap ((l.getD i 0).tdiv 2)).tmod (((stuckL (makeC n) r).length : Nat) : Int)).toNat) 0)).1.H.length) none], SO.ints true .i64 ((liftR (makeC n) r ((stuckL (makeC n) r).getD (((IntKind.i64.wrap ((l.getD i 0).tdiv 2)).tmod (((stuckL (makeC n) r).length : Nat) : Int)).toNat) 0)).1.Res), SO.ints true .i64 ((liftR (makeC n) r ((stuckL (makeC n) r).getD (((IntKind.i64.wrap ((l.getD i 0).tdiv 2)).tmod (((stuckL (makeC n) r).length : Nat) : Int)).toNat) 0)).1.Ex), SO.ints true .i64 ((liftR (makeC n) r ((stuckL (makeC n) r).getD (((IntKind.i64.wrap ((l.getD i 0).tdiv 2)).tmod (((stuckL (makeC n) r).length : Nat) : Int)).toNat) 0)).1.H)]) rfl rfl (t_note1N (c := (makeC n)) (q := r) (p := (liftR (makeC n) r ((stuckL (makeC n) r).getD (((IntKind.i64.wrap ((l.getD i 0).tdiv 2)).tmod (((stuckL (makeC n) r).length : Nat) : Int)).toNat) 0)).1) (hcq) (gr) (hnx)) [5, 6, 7, 8, 9, 10, 12, 13, 14, 19, 20, 21, 2, 3] ⟨.inr ⟨_, rfl, srv⟩, .inr ⟨_, rfl, srv⟩, .inr ⟨_, rfl, srv⟩, .inr ⟨_, rfl, srv⟩, .inr ⟨_, rfl, srv⟩, .inr ⟨_, rfl, srv⟩, .inr ⟨_, rfl, srv⟩, .inr ⟨_, rfl, srv⟩, .inr ⟨_, rfl, srv⟩, .inr ⟨_, rfl, srv⟩, .inr ⟨_, rfl, srv⟩, .inr ⟨_, rfl, srv⟩, shR rfl, shR rfl, trivial⟩ rfl rfl ⟨fun h => (by cases h), ⟨fun h => (by cases h), ⟨fun h => (by cases h), ⟨fun h => (by cases h), ⟨fun h => (by cases h), ⟨fun h => (by cases h), ⟨fun h => (by cases h), ⟨fun h => (by cases h), ⟨fun h => (by cases h), ⟨fun h => (by cases h), ⟨fun h => (by cases h), ⟨fun h => (by cases h), ⟨fun h => .inl rfl, ⟨fun h => .inl rfl, (fun y hy => by simp at hy)⟩⟩⟩⟩⟩⟩⟩⟩⟩⟩⟩⟩⟩⟩ rfl rfl ?_)
    refine rw_gt 101 2 95 false rfl rfl rfl rfl rfl rfl hkn2 (do_not rfl ?_)
    refine rw_t 102 rfl rfl rfl (do_pick_f rfl hkn2 rfl ?_)
    refine rw_nil ?_
    refine w_cond rfl (fun hc7 => ?_) (fun hc7 => ?_)
    · exfalso; first | (cases hc7; done) | exact (hc7 trivial) | (try simp only [bs] at hc7; first | omega | (simp_all; done) | (simp_all; omega))
    refine w_skip ?_
    refine w_region ?_
    refine rw_t 103 rfl rfl rfl (n_load_boxagg [_, _, _] rfl rfl (Nat.le_of_ble_eq_true rfl) rfl ?_)
    refine rw_u rfl rfl (n_store_whole rfl rfl rfl rfl rfl rfl ?_)
    refine rw_nil ?_
    refine w_region ?_
    refine rw_t 104 rfl rfl rfl (do_add rfl rfl (by omega) ?_)
    refine rw_t 34 rfl rfl rfl (do_move rfl ?_)
    refine rw_nil ?_
    refine ⟨(i + 1, (liftR (makeC n) r ((stuckL (makeC n) r).getD (((IntKind.i64.wrap ((l.getD i 0).tdiv 2)).tmod (((stuckL (makeC n) r).length : Nat) : Int)).toNat) 0)).1), [0, 1, 2, 3, 4, 5, 6, 7, 8, 9, 10, 11, 19, 20, 21, 15], by dsimp only; omega, ⟨by dsimp only; omega, hnx, hpk⟩, ⟨shR rfl, shR rfl, shR rfl, shR rfl, shR rfl, shR rfl, shR rfl, shR rfl, shR rfl, shR rfl, shR rfl, shR rfl, shR rfl, shR rfl, shR rfl, shR rfl, trivial⟩, rfl, pre_ok rfl, ⟨⟨_, rfl, rfl⟩, ⟨_, rfl, rfl⟩, ⟨_, rfl, rfl⟩, ⟨_, rfl, rfl⟩, ⟨_, rfl, rfl⟩, ⟨_, rfl, rfl⟩, trivial⟩⟩
set_option maxHeartbeats 8000000 in
set_option synthInstance.maxHeartbeats 400000 in
set_option synthInstance.maxSize 2000 in
theorem t_PreEnds (n : Net) (hn : In64 n.N ∧ In64 n.S ∧ In64 n.T) (hna : ∀ a ∈ n.arcs, In64 a.frm ∧ In64 a.to ∧ In64 a.cap) (hnl : n.arcs.length ≤ 9223372036854775807) (l : List Int) (hll : l.length ≤ 9223372036854775807) (hlb : ∀ x ∈ l, 0 ≤ x ∧ x < 256) : Tri Try.prog 8 [.agg [.val (.int .i64 n.N), .val (.int .i64 n.S), .val (.int .i64 n.T), .slc 0 0 n.arcs.length none], .slc 1 0 l.length none] [SO.arcs false n.arcs, SO.ints false .u8 l] (fun s H => s = .val (.bool true) ∧ H = [SO.arcs false n.arcs, SO.ints false .u8 l]) := by
  refine tri_of_w (fn := Try.f8) Try.func8 rfl (by simp [Try.f8]) ?_
  intro ρ w hρ
  refine w_seq ?_
  have hsm : Small (someNet n 10 24) := some_small n (by omega) (by omega) (by decide) hn hna
  have hcq := make_q hsm
  have hg := hcq.toCsrG
  have hgT := hcq.toCsrT
  have hhl := hg.small
  have hN := hg.n
  have hSS := hg.s
  have hTT := hg.t
  have hNe : (makeC (someNet n 10 24)).N = (someNet n 10 24).N := rfl
  have hTe : (makeC (someNet n 10 24)).T = (someNet n 10 24).T := rfl
  have hml := moreL_len l
  have hmb := moreL_in hlb
  refine w_region ?_
  refine rw_t 2 rfl rfl rfl (n_box_agg (n := 2) rfl rfl ?_)
  refine rw_t 4 rfl rfl rfl (do_assign rfl ?_)
  refine rw_nil ?_
  refine w_seq ?_
  refine w_region ?_
  refine rw_t 16 rfl rfl rfl (n_load_boxagg [_, _, _, _] rfl rfl (Nat.le_of_ble_eq_true rfl) rfl ?_)
  refine rw_t 17 rfl rfl rfl (n_callN (X' := .agg [.val (.int .i64 ((someNet n 10 24).N)), .val (.int .i64 ((someNet n 10 24).S)), .val (.int .i64 ((someNet n 10 24).T)), .slc 3 0 ((someNet n 10 24).arcs.length) none]) (N' := [SO.arcs true ((someNet n 10 24).arcs)]) rfl rfl (t_Some (n := n) (va := 10) (ar := 24) (by omega) (by omega) (fun a ha => (hna a ha).2.2) (hnl)) [0] ⟨.inr ⟨_, rfl, srv⟩, trivial⟩ rfl rfl rfl rfl rfl ?_)
  refine rw_u rfl rfl (n_store_whole rfl rfl rfl rfl rfl rfl ?_)
  refine rw_nil ?_
  refine w_seq ?_
  refine w_region ?_
  refine rw_t 18 rfl rfl rfl (n_make (nm := 4) Int (encI .u8) 0 rfl rfl rfl (fun _ => rfl) (fun _ _ h => by simp [encI] at h; subst h; rfl) (by omega) (by omega) (by omega) rfl ?_)
  refine rw_t 5 rfl rfl rfl (do_assign rfl ?_)
  refine rw_nil ?_
  refine w_seq ?_
  refine w_region ?_
  refine rw_t 19 rfl rfl rfl (do_move rfl ?_)
  refine rw_t 20 rfl rfl rfl (do_move rfl ?_)
  refine rw_t 21 rfl rfl rfl (n_copy (m := (Nat.min l.length 4000)) (zs := (moreL l)) rfl rfl rfl rfl rfl (by decide) (by first | rw [List.length_replicate] | simp) (by simp) rfl rfl ?_)
  refine rw_nil ?_
  refine w_seq ?_
  refine w_region ?_
  refine rw_t 6 rfl rfl rfl (n_alloc (n := 5) rfl ?_)
  refine rw_nil ?_
  refine w_seq ?_
  refine w_region ?_
  refine rw_t 7 rfl rfl rfl (n_alloc (n := 6) rfl ?_)
  refine rw_nil ?_
  refine w_seq ?_
  refine w_seq ?_
  refine w_region ?_
  refine rw_t 22 rfl rfl rfl (n_load_boxagg [_, _, _, _] rfl rfl (Nat.le_of_ble_eq_true rfl) rfl ?_)
  refine rw_t 23 rfl rfl rfl (do_move rfl ?_)
  refine rw_t 24 rfl rfl rfl (do_makefunc rfl rfl ?_)
  refine rw_cap 23 rfl ?_
  refine rw_t 25 rfl rfl rfl (n_callW (X' := .val (.bool true)) (H' := [SO.arcs false n.arcs, SO.ints false .u8 l, .box [.val (.int .i64 ((someNet n 10 24).N)), .val (.int .i64 ((someNet n 10 24).S)), .val (.int .i64 ((someNet n 10 24).T)), .slc 3 0 ((someNet n 10 24).arcs.length) none], SO.arcs true ((someNet n 10 24).arcs), SO.ints true .u8 (moreL l), .box [.val (.int .i64 ((makeC (someNet n 10 24)).N)), .val (.int .i64 ((makeC (someNet n 10 24)).S)), .val (.int .i64 ((makeC (someNet n 10 24)).T)), .slc 7 0 ((makeC (someNet n 10 24)).First.length) none, .slc 8 0 ((makeC (someNet n 10 24)).Head.length) none, .slc 9 0 ((makeC (someNet n 10 24)).Rev.length) none, .slc 10 0 ((makeC (someNet n 10 24)).Cap.length) none, .slc 11 0 ((makeC (someNet n 10 24)).Arc.length) none, .slc 12 0 ((makeC (someNet n 10 24)).Back.length) none], .box [.slc 13 0 ((playK (makeC (someNet n 10 24)) (moreL l) 4000).Res.length) none, .slc 14 0 ((playK (makeC (someNet n 10 24)) (moreL l) 4000).Ex.length) none, .slc 15 0 ((playK (makeC (someNet n 10 24)) (moreL l) 4000).H.length) none], SO.ints true .i64 ((makeC (someNet n 10 24)).First), SO.ints true .i64 ((makeC (someNet n 10 24)).Head), SO.ints true .i64 ((makeC (someNet n 10 24)).Rev), SO.ints true .i64 ((makeC (someNet n 10 24)).Cap), SO.ints true .i64 ((makeC (someNet n 10 24)).Arc), SO.bools true ((makeC (someNet n 10 24)).Back), SO.ints true .i64 ((playK (makeC (someNet n 10 24)) (moreL l) 4000).Res), SO.ints true .i64 ((playK (makeC (someNet n 10 24)) (moreL l) 4000).Ex), SO.ints true .i64 ((playK (makeC (someNet n 10 24)) (moreL l) 4000).H)]) rfl rfl (t_PlayN (n := (someNet n 10 24)) (l := (moreL l)) (m := 4000) (hsm) (hmb) (by omega) (by omega)) [3, 4, 5, 6] ⟨.inr ⟨_, rfl, srv⟩, .inr ⟨_, rfl, srv⟩, shR rfl, shR rfl, trivial⟩ rfl rfl ⟨fun h => (by cases h), ⟨fun h => (by cases h), ⟨fun h => .inl rfl, ⟨fun h => .inl rfl, (okNew_tail rfl)⟩⟩⟩⟩ rfl rfl ?_)
  refine rw_t 26 rfl rfl rfl (do_not rfl ?_)
  refine rw_nil ?_
  refine w_cond rfl (fun hc1 => ?_) (fun hc1 => ?_)
  · exfalso; first | (cases hc1; done) | exact (hc1 trivial) | (try simp only [bs] at hc1; first | omega | (simp_all; done) | (simp_all; omega))
  refine w_skip ?_
  refine w_seq ?_
  refine w_seq ?_
  have gr0 := playK_ref hcq hmb 4000 (by omega)
  generalize hrr : playK (makeC (someNet n 10 24)) (moreL l) 4000 = r at gr0 ⊢
  have gr := gr0
  have hin := refR_in hg gr
  have hpi := refR_push hg gr
  have hr1 := hin.res
  have hr2 := hin.ex
  have hr3 := hin.h
  refine w_region ?_
  refine rw_t 27 rfl rfl rfl (do_fieldaddr rfl ?_)
  refine rw_t 28 rfl rfl rfl (do_load_box rfl rfl rfl ?_)
  refine rw_t 29 rfl rfl rfl (do_len rfl ?_)
  refine rw_t 30 rfl rfl rfl (do_fieldaddr rfl ?_)
  refine rw_t 31 rfl rfl rfl (do_load_box rfl rfl rfl ?_)
  refine rw_t 32 rfl rfl rfl (do_bin rfl rfl rfl ?_)
  refine rw_nil ?_
  refine w_cond rfl (fun hc2 => ?_) (fun hc2 => ?_)
  · exfalso; simp at hc2; omega
  refine w_skip ?_
  refine w_seq ?_
  refine w_seq ?_
  refine w_region ?_
  refine rw_t 33 rfl rfl rfl (n_load_boxagg [_, _, _, _, _, _, _, _, _] rfl rfl (Nat.le_of_ble_eq_true rfl) rfl ?_)
  refine rw_t 34 rfl rfl rfl (n_load_boxagg [_, _, _] rfl rfl (Nat.le_of_ble_eq_true rfl) rfl ?_)
  refine rw_t 35 rfl rfl rfl (n_callN (X' := .slc 16 0 ((activeL (makeC (someNet n 10 24)) r).length) none) (N' := [SO.ints true .i64 (activeL (makeC (someNet n 10 24)) r)]) rfl rfl (t_Active (c := (makeC (someNet n 10 24))) (p := r) (hgT) (hin)) [7, 8, 9, 10, 11, 12, 13, 14, 15] ⟨.inr ⟨_, rfl, srv⟩, .inr ⟨_, rfl, srv⟩, .inr ⟨_, rfl, srv⟩, .inr ⟨_, rfl, srv⟩, .inr ⟨_, rfl, srv⟩, .inr ⟨_, rfl, srv⟩, .inr ⟨_, rfl, srv⟩, .inr ⟨_, rfl, srv⟩, .inr ⟨_, rfl, srv⟩, trivial⟩ rfl rfl rfl rfl rfl ?_)
  refine rw_t 36 rfl rfl rfl (do_len rfl ?_)
  refine rw_t 37 rfl rfl rfl (do_bin rfl rfl rfl ?_)
  refine rw_nil ?_
  refine w_cond rfl (fun hc3 => ?_) (fun hc3 => ?_)
  all_goals try simp only [bs] at hc3
  · refine w_seq ?_
    refine w_region ?_
    refine rw_t 38 rfl rfl rfl (do_callR (X' := .val (.bool true)) rfl rfl (t_awake) [] trivial rfl rfl rfl ?_)
    refine rw_t 4 rfl rfl rfl (do_assign rfl ?_)
    refine rw_nil ?_
    refine w_ret ?_
    exact ret_eq (.inl rfl) (.cons (res_tmp rfl) .nil) [0, 1] (rfl) ⟨shR rfl, shR rfl, trivial⟩ rfl (pre_ok rfl)
  refine w_skip ?_
  refine w_seq ?_
  have hmany := hsm.toNetOK.many
  have hE := ends_law hsm gr (by omega) rfl rfl
  obtain ⟨e1, e2, e3, e4, e5, e6⟩ := hE
  refine w_region ?_
  refine rw_t 40 rfl rfl rfl (n_load_boxagg [_, _, _, _, _, _, _, _, _] rfl rfl (Nat.le_of_ble_eq_true rfl) rfl ?_)
  refine rw_t 41 rfl rfl rfl (do_fieldaddr rfl ?_)
  refine rw_t 42 rfl rfl rfl (do_load_box rfl rfl rfl ?_)
  refine rw_t 43 rfl rfl rfl (do_fieldaddr rfl ?_)
  refine rw_t 44 rfl rfl rfl (do_load_box rfl rfl rfl ?_)
  refine rw_t 45 rfl rfl rfl (do_len rfl ?_)
  refine rw_t 46 rfl rfl rfl (n_callN (X' := .tup [.slc 17 0 ((flowR (makeC (someNet n 10 24)) r.Res (((someNet n 10 24).arcs.length : Nat) : Int)).1.length) none, .val (.int .i64 ((flowR (makeC (someNet n 10 24)) r.Res (((someNet n 10 24).arcs.length : Nat) : Int)).2))]) (N' := [SO.ints true .i64 ((flowR (makeC (someNet n 10 24)) r.Res (((someNet n 10 24).arcs.length : Nat) : Int)).1)]) rfl rfl (t_Flow (c := (makeC (someNet n 10 24))) (f := r.Res) (m := (((someNet n 10 24).arcs.length : Nat) : Int)) (hgT) (hcq.one) (by omega) (arc_in hsm)) [7, 8, 9, 10, 11, 12, 13] ⟨.inr ⟨_, rfl, srv⟩, .inr ⟨_, rfl, srv⟩, .inr ⟨_, rfl, srv⟩, .inr ⟨_, rfl, srv⟩, .inr ⟨_, rfl, srv⟩, .inr ⟨_, rfl, srv⟩, .inr ⟨_, rfl, srv⟩, trivial⟩ rfl rfl rfl rfl rfl ?_)
  refine rw_t 39 rfl rfl rfl (do_move rfl ?_)
  refine rw_t 47 rfl rfl rfl (do_extract rfl rfl ?_)
  refine rw_t 48 rfl rfl rfl (do_extract rfl rfl ?_)
  refine rw_t 8 rfl rfl rfl (do_assign rfl ?_)
  refine rw_t 9 rfl rfl rfl (do_assign rfl ?_)
  refine rw_nil ?_
  refine w_seq ?_
  generalize hff : (flowR (makeC (someNet n 10 24)) r.Res (((someNet n 10 24).arcs.length : Nat) : Int)).1 = f at e2 e3 e4 e5 e6 ⊢
  have hfl := e2.1
  have hsl := e4.1
  refine w_region ?_
  refine rw_t 50 rfl rfl rfl (n_load_boxagg [_, _, _, _] rfl rfl (Nat.le_of_ble_eq_true rfl) rfl ?_)
  refine rw_t 51 rfl rfl rfl (do_move rfl ?_)
  refine rw_t 52 rfl rfl rfl (do_callR (X' := .tup [.val (.int .i64 ((valR (someNet n 10 24) f).1)), .val (.int .i64 ((valR (someNet n 10 24) f).2))]) rfl rfl (t_Value (n := (someNet n 10 24)) (f := f) (hsm.toNetOK) (by omega)) [3, 17] ⟨.inr ⟨_, rfl, srv⟩, .inr ⟨_, rfl, srv⟩, trivial⟩ rfl rfl rfl ?_)
  refine rw_t 49 rfl rfl rfl (do_move rfl ?_)
  refine rw_t 53 rfl rfl rfl (do_extract rfl rfl ?_)
  refine rw_t 54 rfl rfl rfl (do_extract rfl rfl ?_)
  refine rw_t 10 rfl rfl rfl (do_assign rfl ?_)
  refine rw_t 11 rfl rfl rfl (do_assign rfl ?_)
  refine rw_nil ?_
  refine w_seq ?_
  refine w_region ?_
  refine rw_t 56 rfl rfl rfl (n_load_boxagg [_, _, _, _] rfl rfl (Nat.le_of_ble_eq_true rfl) rfl ?_)
  refine rw_t 57 rfl rfl rfl (do_move rfl ?_)
  refine rw_t 58 rfl rfl rfl (n_callN (X' := .tup [.slc 18 0 ((someNet n 10 24).N.toNat) none, .val (.int .i64 0)]) (N' := [SO.bools true (sideL (makeC (someNet n 10 24)) (resOf (makeC (someNet n 10 24)) f (makeC (someNet n 10 24)).Head.length) (someNet n 10 24).T)]) rfl rfl (t_To (n := (someNet n 10 24)) (f := f) (hsm) (e2) (by omega)) [3, 17] ⟨.inr ⟨_, rfl, srv⟩, .inr ⟨_, rfl, srv⟩, trivial⟩ rfl rfl rfl rfl rfl ?_)
  refine rw_t 55 rfl rfl rfl (do_move rfl ?_)
  refine rw_t 59 rfl rfl rfl (do_extract rfl rfl ?_)
  refine rw_as (.slc 18 0 ((sideL (makeC (someNet n 10 24)) (resOf (makeC (someNet n 10 24)) f (makeC (someNet n 10 24)).Head.length) (someNet n 10 24).T).length) none) (by first | exact congrArg (fun k => SV.slc 18 0 k Option.none) e4.1.symm | exact congrArg (fun k => SV.slc 18 0 k Option.none) e4.1) ?_
  refine rw_t 60 rfl rfl rfl (do_extract rfl rfl ?_)
  refine rw_t 12 rfl rfl rfl (do_assign rfl ?_)
  refine rw_t 13 rfl rfl rfl (do_assign rfl ?_)
  refine rw_nil ?_
  refine w_seq ?_
  refine w_region ?_
  refine rw_t 62 rfl rfl rfl (n_load_boxagg [_, _, _, _] rfl rfl (Nat.le_of_ble_eq_true rfl) rfl ?_)
  refine rw_t 63 rfl rfl rfl (do_move rfl ?_)
  refine rw_t 64 rfl rfl rfl (do_callR (X' := .tup [.val (.int .i64 ((capR (someNet n 10 24) (sideL (makeC (someNet n 10 24)) (resOf (makeC (someNet n 10 24)) f (makeC (someNet n 10 24)).Head.length) (someNet n 10 24).T)).1)), .val (.int .i64 ((capR (someNet n 10 24) (sideL (makeC (someNet n 10 24)) (resOf (makeC (someNet n 10 24)) f (makeC (someNet n 10 24)).Head.length) (someNet n 10 24).T)).2))]) rfl rfl (t_Cap (n := (someNet n 10 24)) (sd := (sideL (makeC (someNet n 10 24)) (resOf (makeC (someNet n 10 24)) f (makeC (someNet n 10 24)).Head.length) (someNet n 10 24).T)) (hsm.toNetOK) (by omega)) [3, 18] ⟨.inr ⟨_, rfl, srv⟩, .inr ⟨_, rfl, srv⟩, trivial⟩ rfl rfl rfl ?_)
  refine rw_t 61 rfl rfl rfl (do_move rfl ?_)
  refine rw_t 65 rfl rfl rfl (do_extract rfl rfl ?_)
  refine rw_t 66 rfl rfl rfl (do_extract rfl rfl ?_)
  refine rw_t 14 rfl rfl rfl (do_assign rfl ?_)
  refine rw_t 15 rfl rfl rfl (do_assign rfl ?_)
  refine rw_nil ?_
  refine w_seq ?_
  refine w_region ?_
  refine rw_t 67 rfl rfl rfl (do_move rfl ?_)
  refine rw_t 68 rfl rfl rfl (do_bin rfl rfl rfl ?_)
  refine rw_t 69 rfl rfl rfl (do_move rfl ?_)
  have hkn1 : (((flowR (makeC (someNet n 10 24)) r.Res (((someNet n 10 24).arcs.length : Nat) : Int)).2 == 0)) = true := by rw [e1]; rfl
  refine rw_gt 70 2 69 true rfl rfl rfl rfl rfl rfl hkn1 (do_move rfl ?_)
  refine rw_gt 71 2 69 true rfl rfl rfl rfl rfl rfl hkn1 (do_bin rfl rfl rfl ?_)
  refine rw_t 72 rfl rfl rfl (do_pick_t rfl hkn1 rfl ?_)
  refine rw_t 73 rfl rfl rfl (do_move rfl ?_)
  have hkn2 : (((valR (someNet n 10 24) f).2 == 0)) = true := by rw [e3]; rfl
  refine rw_gt 74 6 73 true rfl rfl rfl rfl rfl rfl hkn2 (do_move rfl ?_)
  refine rw_gt 75 6 73 true rfl rfl rfl rfl rfl rfl hkn2 (do_bin rfl rfl rfl ?_)
  refine rw_t 76 rfl rfl rfl (do_pick_t rfl hkn2 rfl ?_)
  refine rw_t 77 rfl rfl rfl (do_move rfl ?_)
  refine rw_gt 78 10 77 true rfl rfl rfl rfl rfl rfl (by decide) (do_move rfl ?_)
  refine rw_gt 79 10 77 true rfl rfl rfl rfl rfl rfl (by decide) (do_bin rfl rfl rfl ?_)
  refine rw_t 80 rfl rfl rfl (do_pick_t rfl (by decide) rfl ?_)
  refine rw_t 81 rfl rfl rfl (do_move rfl ?_)
  have hkn3 : (((capR (someNet n 10 24) (sideL (makeC (someNet n 10 24)) (resOf (makeC (someNet n 10 24)) f (makeC (someNet n 10 24)).Head.length) (someNet n 10 24).T)).2 == 0)) = true := by rw [e5]; rfl
  refine rw_gt 82 14 81 true rfl rfl rfl rfl rfl rfl hkn3 (do_move rfl ?_)
  refine rw_gt 83 14 81 true rfl rfl rfl rfl rfl rfl hkn3 (do_move rfl ?_)
  refine rw_gt 84 14 81 true rfl rfl rfl rfl rfl rfl hkn3 (do_bin rfl rfl rfl ?_)
  refine rw_t 85 rfl rfl rfl (do_pick_t rfl hkn3 rfl ?_)
  refine rw_t 86 rfl rfl rfl (do_move rfl ?_)
  have hkn4 : (((valR (someNet n 10 24) f).1 == (capR (someNet n 10 24) (sideL (makeC (someNet n 10 24)) (resOf (makeC (someNet n 10 24)) f (makeC (someNet n 10 24)).Head.length) (someNet n 10 24).T)).1)) = true := by rw [e3, e5]; simp
  refine rw_gt 87 19 86 true rfl rfl rfl rfl rfl rfl hkn4 (do_move rfl ?_)
  refine rw_gt 88 19 86 true rfl rfl rfl rfl rfl rfl hkn4 (do_fieldaddr rfl ?_)
  refine rw_gt 89 19 86 true rfl rfl rfl rfl rfl rfl hkn4 (do_load_box rfl rfl rfl ?_)
  refine rw_gt 90 19 86 true rfl rfl rfl rfl rfl rfl hkn4 (do_fieldaddr rfl ?_)
  refine rw_gt 91 19 86 true rfl rfl rfl rfl rfl rfl hkn4 (do_load_box rfl rfl rfl ?_)
  refine rw_gt 92 19 86 true rfl rfl rfl rfl rfl rfl hkn4 (do_ix0 rfl rfl rfl (by first | omega | (simp only [ls] <;> omega)) ?_)
  refine rw_gt 93 19 86 true rfl rfl rfl rfl rfl rfl hkn4 (do_load_arr rfl rfl (by first | omega | (simp only [ls] <;> omega)) rfl ?_)
  refine rw_gt 94 19 86 true rfl rfl rfl rfl rfl rfl hkn4 (do_bin rfl rfl rfl ?_)
  refine rw_t 95 rfl rfl rfl (do_pick_t rfl hkn4 rfl ?_)
  refine rw_t 96 rfl rfl rfl (do_move rfl ?_)
  have hkn5 : (((valR (someNet n 10 24) f).1 == (r.Ex.getD (((someNet n 10 24).T).toNat) 0))) = true := by rw [e3]; simp
  refine rw_gt 97 29 96 true rfl rfl rfl rfl rfl rfl hkn5 (n_load_boxagg [_, _, _, _] rfl rfl (Nat.le_of_ble_eq_true rfl) rfl ?_)
  refine rw_gt 98 29 96 true rfl rfl rfl rfl rfl rfl hkn5 (do_move rfl ?_)
  refine rw_gt 99 29 96 true rfl rfl rfl rfl rfl rfl hkn5 (do_move rfl ?_)
  refine rw_gt 100 29 96 true rfl rfl rfl rfl rfl rfl hkn5 (do_callR (X' := .val (.bool (decide (cutTP (someNet n 10 24) f (sideL (makeC (someNet n 10 24)) (resOf (makeC (someNet n 10 24)) f (makeC (someNet n 10 24)).Head.length) (someNet n 10 24).T))))) rfl rfl (t_Tight (n := (someNet n 10 24)) (f := f) (sd := (sideL (makeC (someNet n 10 24)) (resOf (makeC (someNet n 10 24)) f (makeC (someNet n 10 24)).Head.length) (someNet n 10 24).T)) (hsm.toNetOK) (by omega) (by omega)) [3, 17, 18] ⟨.inr ⟨_, rfl, srv⟩, .inr ⟨_, rfl, srv⟩, .inr ⟨_, rfl, srv⟩, trivial⟩ rfl rfl rfl ?_)
  refine rw_t 101 rfl rfl rfl (do_pick_t rfl hkn5 rfl ?_)
  refine rw_t 102 rfl rfl rfl (do_move rfl ?_)
  have hkn6 : (decide (cutTP (someNet n 10 24) f (sideL (makeC (someNet n 10 24)) (resOf (makeC (someNet n 10 24)) f (makeC (someNet n 10 24)).Head.length) (someNet n 10 24).T))) = true := decide_eq_true e6
  refine rw_gt 103 35 102 true rfl rfl rfl rfl rfl rfl hkn6 (do_callR (X' := .val (.bool true)) rfl rfl (t_awake) [] trivial rfl rfl rfl ?_)
  refine rw_t 104 rfl rfl rfl (do_pick_t rfl hkn6 rfl ?_)
  refine rw_t 4 rfl rfl rfl (do_assign rfl ?_)
  refine rw_nil ?_
  refine w_ret ?_
  exact ret_eq (.inl rfl) (.cons (res_tmp rfl) .nil) [0, 1] (rfl) ⟨shR rfl, shR rfl, trivial⟩ rfl (pre_ok rfl)
end Go.Proofs
