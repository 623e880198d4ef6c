/- RelaxedTells answers true for every input that can be read, and leaves the input as it was. Part 6. -/
import Derived.Test.YtnjmdlnaelpakaaW5
set_option linter.unusedVariables false
set_option linter.unusedSimpArgs false
set_option linter.unusedVariables false
namespace Go.Proofs
open Go Go.Sx Go.RowKit
instance : TyBool Try.prog 4 := ⟨u4⟩
-- f3 "acequia/acequialaw09.RelaxedTells"
set_option maxHeartbeats 8000000 in
set_option synthInstance.maxHeartbeats 400000 in
set_option synthInstance.maxSize 2000 in
theorem t_Tells (n : Net) (hn : In64 n.N ∧ In64 n.S ∧ In64 n.T) (hna : ∀ a ∈ n.arcs, In64 a.frm ∧ In64 a.to ∧ In64 a.cap) (hnl : n.arcs.length ≤ 9223372036854775807) (l : List Act) (hl : ∀ x ∈ l, EvIn x.e) (hll : l.length ≤ 9223372036854775807) (o : Pre) (ho : ∀ x ∈ o.Ex, In64 x) : Tri Try.prog 3 [.agg [.val (.int .i64 n.N), .val (.int .i64 n.S), .val (.int .i64 n.T), .slc 0 0 n.arcs.length none], .slc 1 0 l.length none, .agg [.slc 2 0 o.Res.length none, .slc 3 0 o.Ex.length none, .slc 4 0 o.H.length none]] [SO.arcs false n.arcs, SO.acts false l, SO.ints false .i64 o.Res, SO.ints false .i64 o.Ex, SO.ints false .i64 o.H] (fun s H => s = .val (.bool true) ∧ H = [SO.arcs false n.arcs, SO.acts false l, SO.ints false .i64 o.Res, SO.ints false .i64 o.Ex, SO.ints false .i64 o.H]) := by
  refine tri_of_w (fn := Try.f3) Try.func3 rfl (by simp [Try.f3]) ?_
  intro ρ w hρ
  refine w_seq ?_
  -- region 0
  refine w_region ?_
  refine rw_t 3 rfl rfl rfl (n_box_agg (n := 5) rfl rfl ?_)
  refine rw_t 5 rfl rfl rfl (n_box_agg (n := 6) rfl rfl ?_)
  refine rw_t 6 rfl rfl rfl (do_assign rfl ?_)
  refine rw_nil ?_
  refine w_seq ?_
  have hsm : Small (someNet n 12 30) := some_small n (by omega) (by omega) (by decide) hn hna
  have hg := make_g hsm
  have hb := beg_right hsm
  have hcn : (makeC (someNet n 12 30)).N = (someNet n 12 30).N := rfl
  have hhl := hg.small
  have hN := hg.n
  have hSS := hg.s
  have hTT := hg.t
  -- region 1
  refine w_region ?_
  refine rw_t 25 rfl rfl rfl (n_load_boxagg [_, _, _, _] rfl rfl (Nat.le_of_ble_eq_true rfl) rfl ?_)
  refine rw_t 26 rfl rfl rfl (n_callN (X' := .agg [.val (.int .i64 ((someNet n 12 30).N)), .val (.int .i64 ((someNet n 12 30).S)), .val (.int .i64 ((someNet n 12 30).T)), .slc 7 0 ((someNet n 12 30).arcs.length) none]) (N' := [SO.arcs true ((someNet n 12 30).arcs)]) rfl rfl (t_Some (n := n) (va := 12) (ar := 30) (by omega) (by omega) (fun a ha => (hna a ha).2.2) (hnl)) [0] ⟨.inr ⟨_, rfl, srv⟩, trivial⟩ rfl rfl rfl rfl rfl ?_)
  refine rw_t 27 rfl rfl rfl (n_callN (X' := .tup [.agg [.val (.int .i64 ((makeC (someNet n 12 30)).N)), .val (.int .i64 ((makeC (someNet n 12 30)).S)), .val (.int .i64 ((makeC (someNet n 12 30)).T)), .slc 8 0 ((makeC (someNet n 12 30)).First.length) none, .slc 9 0 ((makeC (someNet n 12 30)).Head.length) none, .slc 10 0 ((makeC (someNet n 12 30)).Rev.length) none, .slc 11 0 ((makeC (someNet n 12 30)).Cap.length) none, .slc 12 0 ((makeC (someNet n 12 30)).Arc.length) none, .slc 13 0 ((makeC (someNet n 12 30)).Back.length) none], .agg [.slc 14 0 ((begP (someNet n 12 30)).Res.length) none, .slc 15 0 ((begP (someNet n 12 30)).Ex.length) none, .slc 16 0 ((begP (someNet n 12 30)).H.length) none]]) (N' := [SO.ints true .i64 ((makeC (someNet n 12 30)).First), SO.ints true .i64 ((makeC (someNet n 12 30)).Head), SO.ints true .i64 ((makeC (someNet n 12 30)).Rev), SO.ints true .i64 ((makeC (someNet n 12 30)).Cap), SO.ints true .i64 ((makeC (someNet n 12 30)).Arc), SO.bools true ((makeC (someNet n 12 30)).Back), SO.ints true .i64 ((begP (someNet n 12 30)).Res), SO.ints true .i64 ((begP (someNet n 12 30)).Ex), SO.ints true .i64 ((begP (someNet n 12 30)).H)]) rfl rfl (t_begun (n := (someNet n 12 30)) (hsm.toNetOK) (hsm.sz)) [7] ⟨.inr ⟨_, rfl, srv⟩, trivial⟩ rfl rfl rfl rfl rfl ?_)
  refine rw_t 24 rfl rfl rfl (do_move rfl ?_)
  refine rw_t 28 rfl rfl rfl (do_extract rfl rfl ?_)
  refine rw_t 29 rfl rfl rfl (do_extract rfl rfl ?_)
  refine rw_t 7 rfl rfl rfl (n_alloc (n := 17) rfl ?_)
  refine rw_t 8 rfl rfl rfl (n_alloc (n := 18) rfl ?_)
  refine rw_u rfl rfl (n_store_whole rfl rfl rfl rfl rfl rfl ?_)
  refine rw_u rfl rfl (n_store_whole rfl rfl rfl rfl rfl rfl ?_)
  refine rw_nil ?_
  refine w_seq ?_
  refine w_seq ?_
  -- region 2
  refine w_draw mixed [0, 0, 3, 0, 0] [31, 63] (by kernel_rfl) (by kernel_rfl) rfl rfl rfl (hle hρ rfl) ?_
  refine ra_q (j := 0) rfl rfl rfl rfl (n_load_boxagg [_, _, _, _, _, _, _, _, _] rfl rfl (Nat.le_of_ble_eq_true rfl) rfl ⟨rfl, rfl⟩) (by rfl) ?_
  refine ra_q (j := 1) rfl rfl rfl rfl (n_load_boxagg [_, _, _] rfl rfl (Nat.le_of_ble_eq_true rfl) rfl ⟨rfl, rfl⟩) (by rfl) ?_
  refine ra_q (j := 2) rfl rfl rfl rfl (do_callR (X' := .val (.bool (decide (rightP (makeC (someNet n 12 30)) o)))) rfl rfl (t_Right (c := (makeC (someNet n 12 30))) (p := o) (hg.toCsrT) (ho)) [8, 9, 10, 11, 12, 13, 2, 3, 4] ⟨.inr ⟨_, rfl, srv⟩, .inr ⟨_, rfl, srv⟩, .inr ⟨_, rfl, srv⟩, .inr ⟨_, rfl, srv⟩, .inr ⟨_, rfl, srv⟩, .inr ⟨_, rfl, srv⟩, .inr ⟨_, rfl, srv⟩, .inr ⟨_, rfl, srv⟩, .inr ⟨_, rfl, srv⟩, trivial⟩ rfl rfl rfl ⟨rfl, rfl⟩) (by rfl) ?_
  refine ra_q (j := 3) rfl rfl rfl rfl (n_load_boxagg [_, _, _, _, _, _, _, _, _] rfl rfl (Nat.le_of_ble_eq_true rfl) rfl ⟨rfl, rfl⟩) (by rfl) ?_
  refine ra_q (j := 4) rfl rfl rfl rfl (n_load_boxagg [_, _, _] rfl rfl (Nat.le_of_ble_eq_true rfl) rfl ⟨rfl, rfl⟩) (by rfl) ?_
  refine n_done ?_
  refine rw_t 35 rfl rfl rfl (do_callR (X' := .val (.bool (decide (rightP (makeC (someNet n 12 30)) o)))) rfl rfl (t_rRight (c := (makeC (someNet n 12 30))) (p := o) (hg.toCsrT)) [8, 9, 10, 11, 12, 13, 2, 3, 4] ⟨.inr ⟨_, rfl, srv⟩, .inr ⟨_, rfl, srv⟩, .inr ⟨_, rfl, srv⟩, .inr ⟨_, rfl, srv⟩, .inr ⟨_, rfl, srv⟩, .inr ⟨_, rfl, srv⟩, .inr ⟨_, rfl, srv⟩, .inr ⟨_, rfl, srv⟩, .inr ⟨_, rfl, srv⟩, trivial⟩ rfl rfl rfl ?_)
  refine rw_t 36 rfl rfl rfl (do_neB rfl rfl ?_)
  refine rw_nil ?_
  refine w_cond rfl (fun hc1 => ?_) (fun hc1 => ?_)
  · exfalso; simp at hc1
  refine w_skip ?_
  refine w_seq ?_
  -- region 4
  refine w_region ?_
  refine rw_t 9 rfl rfl rfl (do_assign rfl ?_)
  refine rw_nil ?_
  refine w_seq ?_
  -- region 5
  refine w_region ?_
  refine rw_t 37 rfl rfl rfl (n_load_boxagg [_, _, _] rfl rfl (Nat.le_of_ble_eq_true rfl) rfl ?_)
  refine rw_t 10 rfl rfl rfl (n_alloc (n := 19) rfl ?_)
  refine rw_u rfl rfl (n_store_whole rfl rfl rfl rfl rfl rfl ?_)
  refine rw_nil ?_
  refine w_seq ?_
  refine w_seq ?_
  -- region 6
  refine w_region ?_
  refine rw_t 38 rfl rfl rfl (do_move rfl ?_)
  refine rw_t 39 rfl rfl rfl (do_move rfl ?_)
  refine rw_t 40 rfl rfl rfl (do_len rfl ?_)
  refine rw_t 41 rfl rfl rfl (do_min rfl rfl ?_)
  refine rw_t 42 rfl rfl rfl (do_slice rfl rfl rfl rfl rfl (by omega) (by omega) (by omega) ?_)
  refine rw_as (.slc 1 0 (min l.length 60) none) (slc_eq rfl (by split <;> omega)) ?_
  refine rw_t 43 rfl rfl rfl (do_len rfl ?_)
  refine rw_t 44 rfl rfl rfl (do_move rfl ?_)
  refine rw_nil ?_
  refine w_block ?_
  refine n_ghost Event 7 encEvent Event.none (fun _ => rfl) (fun _ _ h => by simp [encEvent] at h; rcases h with rfl | rfl | rfl | rfl | rfl | rfl | rfl <;> rfl) ?_
  refine w_nilE 9 20 0 rfl ?_
  refine w_loopS (ι := Nat × Pre × List Event) (fun q => [(7, .ptr 17 0 0), (8, .ptr 18 0 0), (9, .slc 20 0 q.2.2.length none), (10, .ptr 19 0 0), (42, .slc 1 0 (min l.length 60) none), (43, .val (.int .i64 (((min l.length 60) : Nat) : Int))), (44, .val (.int .i64 ((q.1 : Nat) : Int)))]) (fun q => [SO.arcs false n.arcs, SO.acts false l, SO.ints false .i64 o.Res, SO.ints false .i64 o.Ex, SO.ints false .i64 o.H, .box [.val (.int .i64 n.N), .val (.int .i64 n.S), .val (.int .i64 n.T), .slc 0 0 n.arcs.length none], .box [.slc 2 0 o.Res.length none, .slc 3 0 o.Ex.length none, .slc 4 0 o.H.length none], SO.arcs true ((someNet n 12 30).arcs), SO.ints true .i64 ((makeC (someNet n 12 30)).First), SO.ints true .i64 ((makeC (someNet n 12 30)).Head), SO.ints true .i64 ((makeC (someNet n 12 30)).Rev), SO.ints true .i64 ((makeC (someNet n 12 30)).Cap), SO.ints true .i64 ((makeC (someNet n 12 30)).Arc), SO.bools true ((makeC (someNet n 12 30)).Back), SO.ints false .i64 ((begP (someNet n 12 30)).Res), SO.ints false .i64 ((begP (someNet n 12 30)).Ex), SO.ints false .i64 ((begP (someNet n 12 30)).H), .box [.val (.int .i64 ((makeC (someNet n 12 30)).N)), .val (.int .i64 ((makeC (someNet n 12 30)).S)), .val (.int .i64 ((makeC (someNet n 12 30)).T)), .slc 8 0 ((makeC (someNet n 12 30)).First.length) none, .slc 9 0 ((makeC (someNet n 12 30)).Head.length) none, .slc 10 0 ((makeC (someNet n 12 30)).Rev.length) none, .slc 11 0 ((makeC (someNet n 12 30)).Cap.length) none, .slc 12 0 ((makeC (someNet n 12 30)).Arc.length) none, .slc 13 0 ((makeC (someNet n 12 30)).Back.length) none], .box [.slc 14 0 ((begP (someNet n 12 30)).Res.length) none, .slc 15 0 ((begP (someNet n 12 30)).Ex.length) none, .slc 16 0 ((begP (someNet n 12 30)).H.length) none], .box [.slc 21 0 q.2.1.Res.length none, .slc 22 0 q.2.1.Ex.length none, .slc 23 0 q.2.1.H.length none], SO.events true q.2.2, SO.ints false .i64 q.2.1.Res, SO.ints false .i64 q.2.1.Ex, SO.ints false .i64 q.2.1.H]) (fun q => min l.length 60 - q.1) (fun q => q.1 ≤ min l.length 60 ∧ rightP (makeC (someNet n 12 30)) q.2.1 ∧ (∀ e ∈ q.2.2, EvIn e) ∧ q.2.2.length = q.1) ((0, (begP (someNet n 12 30)), [])) [0, 1, 2, 3, 4, 5, 6, 7, 8, 9, 10, 11, 12, 13, 14, 15, 16, 17, 18, 19, 20, 14, 15, 16] (⟨by simp, hb, by simp, rfl⟩) ⟨.inr ⟨_, rfl, .inl rfl⟩, .inr ⟨_, rfl, .inl rfl⟩, .inr ⟨_, rfl, .inl rfl⟩, .inr ⟨_, rfl, .inl rfl⟩, .inr ⟨_, rfl, .inl rfl⟩, .inr ⟨_, rfl, .inl rfl⟩, .inr ⟨_, rfl, .inl rfl⟩, .inr ⟨_, rfl, .inl rfl⟩, .inr ⟨_, rfl, .inl rfl⟩, .inr ⟨_, rfl, .inl rfl⟩, .inr ⟨_, rfl, .inl rfl⟩, .inr ⟨_, rfl, .inl rfl⟩, .inr ⟨_, rfl, .inl rfl⟩, .inr ⟨_, rfl, .inl rfl⟩, .inr ⟨_, rfl, srv⟩, .inr ⟨_, rfl, srv⟩, .inr ⟨_, rfl, srv⟩, .inr ⟨_, rfl, .inl rfl⟩, .inr ⟨_, rfl, .inl rfl⟩, .inr ⟨_, rfl, .inl rfl⟩, .inr ⟨_, rfl, .inl rfl⟩, .inr ⟨_, rfl, srv⟩, .inr ⟨_, rfl, srv⟩, .inr ⟨_, rfl, srv⟩, trivial⟩ rfl (pre_ok rfl) hρ ⟨⟨_, rfl, rfl⟩, ⟨_, rfl, rfl⟩, ⟨_, rfl, rfl⟩, ⟨_, rfl, rfl⟩, ⟨_, rfl, rfl⟩, ⟨_, rfl, rfl⟩, ⟨_, rfl, rfl⟩, trivial⟩ ?_
  rintro ⟨i, r, es⟩ ⟨g1, g2, g3, g4⟩
  dsimp only at g1 g2 g3 g4 ⊢
  refine w_seq ?_
  -- region 7
  refine w_region ?_
  refine rw_t 45 rfl rfl rfl (do_bin rfl rfl rfl ?_)
  refine rw_nil ?_
  refine w_seq ?_
  refine w_cond rfl (fun hc2 => ?_) (fun hc2 => ?_)
  all_goals try simp only [bs] at hc2
  rotate_left
  · refine w_exit ?_ -- exit 0
    refine w_seq ?_
    have hR1 := run_right hg hb (l := es) (i := 0)
    have hR1a := hR1.1.1
    have hR1b := hR1.1.2.1
    have hR1c := hR1.1.2.2
    -- region 17
    refine w_region ?_
    refine rw_t 110 rfl rfl rfl (n_load_boxagg [_, _, _, _, _, _, _, _, _] rfl rfl (Nat.le_of_ble_eq_true rfl) rfl ?_)
    refine rw_t 111 rfl rfl rfl (n_load_boxagg [_, _, _] rfl rfl (Nat.le_of_ble_eq_true rfl) rfl ?_)
    refine rw_t 112 rfl rfl rfl (do_move rfl ?_)
    refine rw_t 113 rfl rfl rfl (n_callN (X' := .tup [.agg [.slc 24 0 ((runE (makeC (someNet n 12 30)) (begP (someNet n 12 30)) es 0).1.Res.length) none, .slc 25 0 ((runE (makeC (someNet n 12 30)) (begP (someNet n 12 30)) es 0).1.Ex.length) none, .slc 26 0 ((runE (makeC (someNet n 12 30)) (begP (someNet n 12 30)) es 0).1.H.length) none], .val (.int .i64 ((runE (makeC (someNet n 12 30)) (begP (someNet n 12 30)) es 0).2.1)), .val (.int .i64 ((runE (makeC (someNet n 12 30)) (begP (someNet n 12 30)) es 0).2.2))]) (N' := [SO.ints true .i64 ((runE (makeC (someNet n 12 30)) (begP (someNet n 12 30)) es 0).1.Res), SO.ints true .i64 ((runE (makeC (someNet n 12 30)) (begP (someNet n 12 30)) es 0).1.Ex), SO.ints true .i64 ((runE (makeC (someNet n 12 30)) (begP (someNet n 12 30)) es 0).1.H)]) rfl rfl (t_Run (c := (makeC (someNet n 12 30))) (p := (begP (someNet n 12 30))) (l := es) (hg) (hb) (g3) (by omega)) [8, 9, 10, 11, 12, 13, 14, 15, 16, 20] ⟨.inr ⟨_, rfl, srv⟩, .inr ⟨_, rfl, srv⟩, .inr ⟨_, rfl, srv⟩, .inr ⟨_, rfl, srv⟩, .inr ⟨_, rfl, srv⟩, .inr ⟨_, rfl, srv⟩, .inr ⟨_, rfl, srv⟩, .inr ⟨_, rfl, srv⟩, .inr ⟨_, rfl, srv⟩, .inr ⟨_, rfl, srv⟩, trivial⟩ rfl rfl rfl rfl rfl ?_)
    refine rw_t 109 rfl rfl rfl (do_move rfl ?_)
    refine rw_t 114 rfl rfl rfl (do_extract rfl rfl ?_)
    refine rw_t 115 rfl rfl rfl (do_extract rfl rfl ?_)
    refine rw_t 116 rfl rfl rfl (do_extract rfl rfl ?_)
    refine rw_t 18 rfl rfl rfl (n_alloc (n := 27) rfl ?_)
    refine rw_u rfl rfl (n_store_whole rfl rfl rfl rfl rfl rfl ?_)
    refine rw_t 19 rfl rfl rfl (do_assign rfl ?_)
    refine rw_t 20 rfl rfl rfl (do_assign rfl ?_)
    refine rw_nil ?_
    refine w_seq ?_
    by_cases hrz : (runE (makeC (someNet n 12 30)) (begP (someNet n 12 30)) es 0).2.1 = 0
    · -- region 18
      refine w_region ?_
      refine rw_t 118 rfl rfl rfl (n_load_boxagg [_, _, _, _, _, _, _, _, _] rfl rfl (Nat.le_of_ble_eq_true rfl) rfl ?_)
      refine rw_t 119 rfl rfl rfl (n_load_boxagg [_, _, _] rfl rfl (Nat.le_of_ble_eq_true rfl) rfl ?_)
      refine rw_t 120 rfl rfl rfl (do_move rfl ?_)
      refine rw_t 121 rfl rfl rfl (do_callR (X' := .tup [.agg [.slc 14 0 ((begP (someNet n 12 30)).Res.length) none, .slc 15 0 ((begP (someNet n 12 30)).Ex.length) none, .slc 16 0 ((begP (someNet n 12 30)).H.length) none], .val (.int .i64 0), .val (.int .i64 ((runE (makeC (someNet n 12 30)) (begP (someNet n 12 30)) es 0).2.2))]) rfl rfl (t_rRun0 (c := (makeC (someNet n 12 30))) (p := (begP (someNet n 12 30))) (l := es) (hg) (hb) (g3) (by omega) (hrz)) [8, 9, 10, 11, 12, 13, 14, 15, 16, 20] ⟨.inr ⟨_, rfl, srv⟩, .inr ⟨_, rfl, srv⟩, .inr ⟨_, rfl, srv⟩, .inr ⟨_, rfl, srv⟩, .inr ⟨_, rfl, srv⟩, .inr ⟨_, rfl, srv⟩, .inr ⟨_, rfl, srv⟩, .inr ⟨_, rfl, srv⟩, .inr ⟨_, rfl, srv⟩, .inr ⟨_, rfl, srv⟩, trivial⟩ rfl rfl rfl ?_)
      refine rw_t 117 rfl rfl rfl (do_move rfl ?_)
      refine rw_t 122 rfl rfl rfl (do_extract rfl rfl ?_)
      refine rw_t 123 rfl rfl rfl (do_extract rfl rfl ?_)
      refine rw_t 124 rfl rfl rfl (do_extract rfl rfl ?_)
      refine rw_t 21 rfl rfl rfl (n_alloc (n := 28) rfl ?_)
      refine rw_u rfl rfl (n_store_whole rfl rfl rfl rfl rfl rfl ?_)
      refine rw_t 22 rfl rfl rfl (do_assign rfl ?_)
      refine rw_t 23 rfl rfl rfl (do_assign rfl ?_)
      refine rw_nil ?_
      refine w_seqB 6 ((((sameP ((runE (makeC (someNet n 12 30)) (begP (someNet n 12 30)) es 0).1) (begP (someNet n 12 30)) ∧ (runE (makeC (someNet n 12 30)) (begP (someNet n 12 30)) es 0).2.1 = 0) ∧ (runE (makeC (someNet n 12 30)) (begP (someNet n 12 30)) es 0).2.2 = (runE (makeC (someNet n 12 30)) (begP (someNet n 12 30)) es 0).2.2) ∨ false = true)) ?_ ?_
      · -- region 19
        refine w_region ?_
        refine rw_t 125 rfl rfl rfl (n_load_boxagg [_, _, _] rfl rfl (Nat.le_of_ble_eq_true rfl) rfl ?_)
        refine rw_t 126 rfl rfl rfl (n_load_boxagg [_, _, _] rfl rfl (Nat.le_of_ble_eq_true rfl) rfl ?_)
        refine rw_t 127 rfl rfl rfl (do_callR (X' := .val (.bool (decide (sameP ((runE (makeC (someNet n 12 30)) (begP (someNet n 12 30)) es 0).1) (begP (someNet n 12 30)))))) rfl rfl (t_same (a := (runE (makeC (someNet n 12 30)) (begP (someNet n 12 30)) es 0).1) (b := (begP (someNet n 12 30))) (by omega)) [24, 25, 26, 14, 15, 16] ⟨.inr ⟨_, rfl, srv⟩, .inr ⟨_, rfl, srv⟩, .inr ⟨_, rfl, srv⟩, .inr ⟨_, rfl, srv⟩, .inr ⟨_, rfl, srv⟩, .inr ⟨_, rfl, srv⟩, trivial⟩ rfl rfl rfl ?_)
        refine rw_t 128 rfl rfl rfl (do_move rfl ?_)
        refine rw_case 128 rfl (fun g1 => ?_) (fun g1 => ?_)
        · have kg1 := g1
          try simp only [bs] at kg1
          refine rw_gt 129 3 128 true rfl rfl rfl rfl rfl rfl g1 (do_move rfl ?_)
          refine rw_gt 130 3 128 true rfl rfl rfl rfl rfl rfl g1 (do_move rfl ?_)
          refine rw_gt 131 3 128 true rfl rfl rfl rfl rfl rfl g1 (do_bin rfl rfl rfl ?_)
          refine rw_t 132 rfl rfl rfl (do_pick_t rfl g1 rfl ?_)
          refine rw_t 133 rfl rfl rfl (do_move rfl ?_)
          refine rw_case 133 rfl (fun g2 => ?_) (fun g2 => ?_)
          · have kg2 := g2
            try simp only [bs] at kg2
            refine rw_gt 134 8 133 true rfl rfl rfl rfl rfl rfl g2 (do_move rfl ?_)
            refine rw_gt 135 8 133 true rfl rfl rfl rfl rfl rfl g2 (do_move rfl ?_)
            refine rw_gt 136 8 133 true rfl rfl rfl rfl rfl rfl g2 (do_bin rfl rfl rfl ?_)
            refine rw_t 137 rfl rfl rfl (do_pick_t rfl g2 rfl ?_)
            refine rw_t 138 rfl rfl rfl (do_move rfl ?_)
            refine rw_case 138 rfl (fun g3 => ?_) (fun g3 => ?_)
            · have kg3 := g3
              try simp only [bs] at kg3
              refine rw_gt 139 13 138 true rfl rfl rfl rfl rfl rfl g3 (do_callR (X' := .val (.bool true)) rfl rfl (t_awake) [] trivial rfl rfl rfl ?_)
              refine rw_t 140 rfl rfl rfl (do_pick_t rfl g3 rfl ?_)
              refine rw_t 6 rfl rfl rfl (do_assign rfl ?_)
              refine rw_nil ?_
              refine ⟨rfl, ⟨_, rfl, by first | (simp; done) | (simp only [bs]; omega) | (simp [*]; done) | (simp; omega) | (constructor <;> intro h <;> simp_all <;> omega)⟩, ?_⟩
              repeat (refine ⟨⟨_, rfl, rfl⟩, ?_⟩)
              exact trivial
            · have kg3 := g3
              try simp only [bs] at kg3
              refine rw_gf 139 13 138 true rfl rfl rfl rfl rfl rfl (by rw [g3]; decide) ?_
              refine rw_t 140 rfl rfl rfl (do_pick_f rfl g3 rfl ?_)
              refine rw_t 6 rfl rfl rfl (do_assign rfl ?_)
              refine rw_nil ?_
              refine ⟨rfl, ⟨_, rfl, by first | (simp; done) | (simp only [bs]; omega) | (simp [*]; done) | (simp; omega) | (constructor <;> intro h <;> simp_all <;> omega)⟩, ?_⟩
              repeat (refine ⟨⟨_, rfl, rfl⟩, ?_⟩)
              exact trivial
          · have kg2 := g2
            try simp only [bs] at kg2
            refine rw_gf 134 8 133 true rfl rfl rfl rfl rfl rfl (by rw [g2]; decide) ?_
            refine rw_gf 135 8 133 true rfl rfl rfl rfl rfl rfl (by rw [g2]; decide) ?_
            refine rw_gf 136 8 133 true rfl rfl rfl rfl rfl rfl (by rw [g2]; decide) ?_
            refine rw_t 137 rfl rfl rfl (do_pick_f rfl g2 rfl ?_)
            refine rw_t 138 rfl rfl rfl (do_move rfl ?_)
            refine rw_gf 139 13 138 true rfl rfl rfl rfl rfl rfl (by decide) ?_
            refine rw_t 140 rfl rfl rfl (do_pick_f rfl rfl rfl ?_)
            refine rw_t 6 rfl rfl rfl (do_assign rfl ?_)
            refine rw_nil ?_
            refine ⟨rfl, ⟨_, rfl, by first | (simp; done) | (simp only [bs]; omega) | (simp [*]; done) | (simp; omega) | (constructor <;> intro h <;> simp_all <;> omega)⟩, ?_⟩
            repeat (refine ⟨⟨_, rfl, rfl⟩, ?_⟩)
            exact trivial
        · have kg1 := g1
          try simp only [bs] at kg1
          refine rw_gf 129 3 128 true rfl rfl rfl rfl rfl rfl (by rw [g1]; decide) ?_
          refine rw_gf 130 3 128 true rfl rfl rfl rfl rfl rfl (by rw [g1]; decide) ?_
          refine rw_gf 131 3 128 true rfl rfl rfl rfl rfl rfl (by rw [g1]; decide) ?_
          refine rw_t 132 rfl rfl rfl (do_pick_f rfl g1 rfl ?_)
          refine rw_t 133 rfl rfl rfl (do_move rfl ?_)
          refine rw_gf 134 8 133 true rfl rfl rfl rfl rfl rfl (by decide) ?_
          refine rw_gf 135 8 133 true rfl rfl rfl rfl rfl rfl (by decide) ?_
          refine rw_gf 136 8 133 true rfl rfl rfl rfl rfl rfl (by decide) ?_
          refine rw_t 137 rfl rfl rfl (do_pick_f rfl rfl rfl ?_)
          refine rw_t 138 rfl rfl rfl (do_move rfl ?_)
          refine rw_gf 139 13 138 true rfl rfl rfl rfl rfl rfl (by decide) ?_
          refine rw_t 140 rfl rfl rfl (do_pick_f rfl rfl rfl ?_)
          refine rw_t 6 rfl rfl rfl (do_assign rfl ?_)
          refine rw_nil ?_
          refine ⟨rfl, ⟨_, rfl, by first | (simp; done) | (simp only [bs]; omega) | (simp [*]; done) | (simp; omega) | (constructor <;> intro h <;> simp_all <;> omega)⟩, ?_⟩
          repeat (refine ⟨⟨_, rfl, rfl⟩, ?_⟩)
          exact trivial
      intro b1 hb1
      refine w_ret ?_
      exact ret_eq (.inl rfl) (.cons (res_tmp rfl) .nil) [0, 1, 2, 3, 4] (Eq.symm (bool_congr (Eq.symm (hb1.2 (.inl ⟨⟨by rw [(runE_zero hrz).1]; exact ⟨rfl, rfl, rfl⟩, hrz⟩, rfl⟩))))) ⟨.inr ⟨_, rfl, .inl rfl⟩, .inr ⟨_, rfl, .inl rfl⟩, .inr ⟨_, rfl, .inl rfl⟩, .inr ⟨_, rfl, .inl rfl⟩, .inr ⟨_, rfl, .inl rfl⟩, trivial⟩ rfl (pre_ok rfl)
    · -- region 18
      refine w_region ?_
      refine rw_t 118 rfl rfl rfl (n_load_boxagg [_, _, _, _, _, _, _, _, _] rfl rfl (Nat.le_of_ble_eq_true rfl) rfl ?_)
      refine rw_t 119 rfl rfl rfl (n_load_boxagg [_, _, _] rfl rfl (Nat.le_of_ble_eq_true rfl) rfl ?_)
      refine rw_t 120 rfl rfl rfl (do_move rfl ?_)
      refine rw_t 121 rfl rfl rfl (n_callN (X' := .tup [.agg [.slc 28 0 ((runE (makeC (someNet n 12 30)) (begP (someNet n 12 30)) es 0).1.Res.length) none, .slc 29 0 ((runE (makeC (someNet n 12 30)) (begP (someNet n 12 30)) es 0).1.Ex.length) none, .slc 30 0 ((runE (makeC (someNet n 12 30)) (begP (someNet n 12 30)) es 0).1.H.length) none], .val (.int .i64 ((runE (makeC (someNet n 12 30)) (begP (someNet n 12 30)) es 0).2.1)), .val (.int .i64 ((runE (makeC (someNet n 12 30)) (begP (someNet n 12 30)) es 0).2.2))]) (N' := [SO.ints true .i64 ((runE (makeC (someNet n 12 30)) (begP (someNet n 12 30)) es 0).1.Res), SO.ints true .i64 ((runE (makeC (someNet n 12 30)) (begP (someNet n 12 30)) es 0).1.Ex), SO.ints true .i64 ((runE (makeC (someNet n 12 30)) (begP (someNet n 12 30)) es 0).1.H)]) rfl rfl (t_rRun1 (c := (makeC (someNet n 12 30))) (p := (begP (someNet n 12 30))) (l := es) (hg) (hb) (g3) (by omega) (hrz)) [8, 9, 10, 11, 12, 13, 14, 15, 16, 20] ⟨.inr ⟨_, rfl, srv⟩, .inr ⟨_, rfl, srv⟩, .inr ⟨_, rfl, srv⟩, .inr ⟨_, rfl, srv⟩, .inr ⟨_, rfl, srv⟩, .inr ⟨_, rfl, srv⟩, .inr ⟨_, rfl, srv⟩, .inr ⟨_, rfl, srv⟩, .inr ⟨_, rfl, srv⟩, .inr ⟨_, rfl, srv⟩, trivial⟩ rfl rfl rfl rfl rfl ?_)
      refine rw_t 117 rfl rfl rfl (do_move rfl ?_)
      refine rw_t 122 rfl rfl rfl (do_extract rfl rfl ?_)
      refine rw_t 123 rfl rfl rfl (do_extract rfl rfl ?_)
      refine rw_t 124 rfl rfl rfl (do_extract rfl rfl ?_)
      refine rw_t 21 rfl rfl rfl (n_alloc (n := 31) rfl ?_)
      refine rw_u rfl rfl (n_store_whole rfl rfl rfl rfl rfl rfl ?_)
      refine rw_t 22 rfl rfl rfl (do_assign rfl ?_)
      refine rw_t 23 rfl rfl rfl (do_assign rfl ?_)
      refine rw_nil ?_
      refine w_seqB 6 ((((sameP ((runE (makeC (someNet n 12 30)) (begP (someNet n 12 30)) es 0).1) ((runE (makeC (someNet n 12 30)) (begP (someNet n 12 30)) es 0).1) ∧ (runE (makeC (someNet n 12 30)) (begP (someNet n 12 30)) es 0).2.1 = (runE (makeC (someNet n 12 30)) (begP (someNet n 12 30)) es 0).2.1) ∧ (runE (makeC (someNet n 12 30)) (begP (someNet n 12 30)) es 0).2.2 = (runE (makeC (someNet n 12 30)) (begP (someNet n 12 30)) es 0).2.2) ∨ false = true)) ?_ ?_
      · -- region 19
        refine w_region ?_
        refine rw_t 125 rfl rfl rfl (n_load_boxagg [_, _, _] rfl rfl (Nat.le_of_ble_eq_true rfl) rfl ?_)
        refine rw_t 126 rfl rfl rfl (n_load_boxagg [_, _, _] rfl rfl (Nat.le_of_ble_eq_true rfl) rfl ?_)
        refine rw_t 127 rfl rfl rfl (do_callR (X' := .val (.bool (decide (sameP ((runE (makeC (someNet n 12 30)) (begP (someNet n 12 30)) es 0).1) ((runE (makeC (someNet n 12 30)) (begP (someNet n 12 30)) es 0).1))))) rfl rfl (t_same (a := (runE (makeC (someNet n 12 30)) (begP (someNet n 12 30)) es 0).1) (b := (runE (makeC (someNet n 12 30)) (begP (someNet n 12 30)) es 0).1) (by omega)) [24, 25, 26, 28, 29, 30] ⟨.inr ⟨_, rfl, srv⟩, .inr ⟨_, rfl, srv⟩, .inr ⟨_, rfl, srv⟩, .inr ⟨_, rfl, srv⟩, .inr ⟨_, rfl, srv⟩, .inr ⟨_, rfl, srv⟩, trivial⟩ rfl rfl rfl ?_)
        refine rw_t 128 rfl rfl rfl (do_move rfl ?_)
        refine rw_case 128 rfl (fun g4 => ?_) (fun g4 => ?_)
        · have kg4 := g4
          try simp only [bs] at kg4
          refine rw_gt 129 3 128 true rfl rfl rfl rfl rfl rfl g4 (do_move rfl ?_)
          refine rw_gt 130 3 128 true rfl rfl rfl rfl rfl rfl g4 (do_move rfl ?_)
          refine rw_gt 131 3 128 true rfl rfl rfl rfl rfl rfl g4 (do_bin rfl rfl rfl ?_)
          refine rw_t 132 rfl rfl rfl (do_pick_t rfl g4 rfl ?_)
          refine rw_t 133 rfl rfl rfl (do_move rfl ?_)
          refine rw_case 133 rfl (fun g5 => ?_) (fun g5 => ?_)
          · have kg5 := g5
            try simp only [bs] at kg5
            refine rw_gt 134 8 133 true rfl rfl rfl rfl rfl rfl g5 (do_move rfl ?_)
            refine rw_gt 135 8 133 true rfl rfl rfl rfl rfl rfl g5 (do_move rfl ?_)
            refine rw_gt 136 8 133 true rfl rfl rfl rfl rfl rfl g5 (do_bin rfl rfl rfl ?_)
            refine rw_t 137 rfl rfl rfl (do_pick_t rfl g5 rfl ?_)
            refine rw_t 138 rfl rfl rfl (do_move rfl ?_)
            refine rw_case 138 rfl (fun g6 => ?_) (fun g6 => ?_)
            · have kg6 := g6
              try simp only [bs] at kg6
              refine rw_gt 139 13 138 true rfl rfl rfl rfl rfl rfl g6 (do_callR (X' := .val (.bool true)) rfl rfl (t_awake) [] trivial rfl rfl rfl ?_)
              refine rw_t 140 rfl rfl rfl (do_pick_t rfl g6 rfl ?_)
              refine rw_t 6 rfl rfl rfl (do_assign rfl ?_)
              refine rw_nil ?_
              refine ⟨rfl, ⟨_, rfl, by first | (simp; done) | (simp only [bs]; omega) | (simp [*]; done) | (simp; omega) | (constructor <;> intro h <;> simp_all <;> omega)⟩, ?_⟩
              repeat (refine ⟨⟨_, rfl, rfl⟩, ?_⟩)
              exact trivial
            · have kg6 := g6
              try simp only [bs] at kg6
              refine rw_gf 139 13 138 true rfl rfl rfl rfl rfl rfl (by rw [g6]; decide) ?_
              refine rw_t 140 rfl rfl rfl (do_pick_f rfl g6 rfl ?_)
              refine rw_t 6 rfl rfl rfl (do_assign rfl ?_)
              refine rw_nil ?_
              refine ⟨rfl, ⟨_, rfl, by first | (simp; done) | (simp only [bs]; omega) | (simp [*]; done) | (simp; omega) | (constructor <;> intro h <;> simp_all <;> omega)⟩, ?_⟩
              repeat (refine ⟨⟨_, rfl, rfl⟩, ?_⟩)
              exact trivial
          · have kg5 := g5
            try simp only [bs] at kg5
            refine rw_gf 134 8 133 true rfl rfl rfl rfl rfl rfl (by rw [g5]; decide) ?_
            refine rw_gf 135 8 133 true rfl rfl rfl rfl rfl rfl (by rw [g5]; decide) ?_
            refine rw_gf 136 8 133 true rfl rfl rfl rfl rfl rfl (by rw [g5]; decide) ?_
            refine rw_t 137 rfl rfl rfl (do_pick_f rfl g5 rfl ?_)
            refine rw_t 138 rfl rfl rfl (do_move rfl ?_)
            refine rw_gf 139 13 138 true rfl rfl rfl rfl rfl rfl (by decide) ?_
            refine rw_t 140 rfl rfl rfl (do_pick_f rfl rfl rfl ?_)
            refine rw_t 6 rfl rfl rfl (do_assign rfl ?_)
            refine rw_nil ?_
            refine ⟨rfl, ⟨_, rfl, by first | (simp; done) | (simp only [bs]; omega) | (simp [*]; done) | (simp; omega) | (constructor <;> intro h <;> simp_all <;> omega)⟩, ?_⟩
            repeat (refine ⟨⟨_, rfl, rfl⟩, ?_⟩)
            exact trivial
        · have kg4 := g4
          try simp only [bs] at kg4
          refine rw_gf 129 3 128 true rfl rfl rfl rfl rfl rfl (by rw [g4]; decide) ?_
          refine rw_gf 130 3 128 true rfl rfl rfl rfl rfl rfl (by rw [g4]; decide) ?_
          refine rw_gf 131 3 128 true rfl rfl rfl rfl rfl rfl (by rw [g4]; decide) ?_
          refine rw_t 132 rfl rfl rfl (do_pick_f rfl g4 rfl ?_)
          refine rw_t 133 rfl rfl rfl (do_move rfl ?_)
          refine rw_gf 134 8 133 true rfl rfl rfl rfl rfl rfl (by decide) ?_
          refine rw_gf 135 8 133 true rfl rfl rfl rfl rfl rfl (by decide) ?_
          refine rw_gf 136 8 133 true rfl rfl rfl rfl rfl rfl (by decide) ?_
          refine rw_t 137 rfl rfl rfl (do_pick_f rfl rfl rfl ?_)
          refine rw_t 138 rfl rfl rfl (do_move rfl ?_)
          refine rw_gf 139 13 138 true rfl rfl rfl rfl rfl rfl (by decide) ?_
          refine rw_t 140 rfl rfl rfl (do_pick_f rfl rfl rfl ?_)
          refine rw_t 6 rfl rfl rfl (do_assign rfl ?_)
          refine rw_nil ?_
          refine ⟨rfl, ⟨_, rfl, by first | (simp; done) | (simp only [bs]; omega) | (simp [*]; done) | (simp; omega) | (constructor <;> intro h <;> simp_all <;> omega)⟩, ?_⟩
          repeat (refine ⟨⟨_, rfl, rfl⟩, ?_⟩)
          exact trivial
      intro b2 hb2
      refine w_ret ?_
      exact ret_eq (.inl rfl) (.cons (res_tmp rfl) .nil) [0, 1, 2, 3, 4] (Eq.symm (bool_congr (Eq.symm (hb2.2 (.inl ⟨⟨⟨rfl, rfl, rfl⟩, rfl⟩, rfl⟩))))) ⟨.inr ⟨_, rfl, .inl rfl⟩, .inr ⟨_, rfl, .inl rfl⟩, .inr ⟨_, rfl, .inl rfl⟩, .inr ⟨_, rfl, .inl rfl⟩, .inr ⟨_, rfl, .inl rfl⟩, trivial⟩ rfl (pre_ok rfl)
  refine w_skip ?_
  refine w_seq ?_
  refine w_block ?_
  refine w_seq ?_
  have hxe : EvIn (l.getD i Act.none).e := hl _ (getD_mem Act.none (show i < l.length by omega))
  -- region 8
  refine w_region ?_
  refine rw_t 46 rfl rfl rfl (do_ixn rfl rfl rfl (by first | omega | (simp only [ls] <;> omega)) ?_)
  refine rw_t 47 rfl rfl rfl (n_load_arragg [_, _, _, _, _, _, _, _, _] rfl rfl rfl (by first | omega | (simp only [ls] <;> omega)) rfl ?_)
  refine rw_t 12 rfl rfl rfl (n_alloc (n := 24) rfl ?_)
  refine rw_u rfl rfl (n_store_whole rfl rfl rfl rfl rfl rfl ?_)
  refine rw_nil ?_
  refine w_seq ?_
  have hr := g2.1.1
  have hx := g2.1.2.1
  have hh := g2.1.2.2
  have hok := right_ok hg.toCsrT g2
  have hfe := fit_in hg.toCsrOK hok hxe
  have hmr := move_right hg g2 (fitE (makeC (someNet n 12 30)) r (l.getD i Act.none))
  have hm1 := hmr.1.1
  have hmx := hmr.1.2.1
  have hmh := hmr.1.2.2
  have hmi := right_in64 hg.toCsrT hmr
  -- region 9
  refine w_region ?_
  refine rw_t 48 rfl rfl rfl (n_load_boxagg [_, _, _, _, _, _, _, _, _] rfl rfl (Nat.le_of_ble_eq_true rfl) rfl ?_)
  refine rw_t 49 rfl rfl rfl (n_load_boxagg [_, _, _] rfl rfl (Nat.le_of_ble_eq_true rfl) rfl ?_)
  refine rw_t 50 rfl rfl rfl (n_load_boxagg [_, _, _, _, _, _, _, _, _] rfl rfl (Nat.le_of_ble_eq_true rfl) rfl ?_)
  refine rw_t 51 rfl rfl rfl (do_callR (X' := .agg [.val (.int .i64 ((fitE (makeC (someNet n 12 30)) r (l.getD i Act.none)).who)), .val (.int .u8 ((fitE (makeC (someNet n 12 30)) r (l.getD i Act.none)).what)), .val (.int .i64 ((fitE (makeC (someNet n 12 30)) r (l.getD i Act.none)).u)), .val (.int .i64 ((fitE (makeC (someNet n 12 30)) r (l.getD i Act.none)).arc)), .val (.int .i64 ((fitE (makeC (someNet n 12 30)) r (l.getD i Act.none)).d)), .val (.int .i64 ((fitE (makeC (someNet n 12 30)) r (l.getD i Act.none)).h)), .val (.int .i64 ((fitE (makeC (someNet n 12 30)) r (l.getD i Act.none)).low))]) rfl rfl (t_fitted (c := (makeC (someNet n 12 30))) (p := r) (x := (l.getD i Act.none)) (hg.toCsrOK) (hok)) [8, 9, 10, 11, 12, 13, 21, 22, 23] ⟨.inr ⟨_, rfl, srv⟩, .inr ⟨_, rfl, srv⟩, .inr ⟨_, rfl, srv⟩, .inr ⟨_, rfl, srv⟩, .inr ⟨_, rfl, srv⟩, .inr ⟨_, rfl, srv⟩, .inr ⟨_, rfl, srv⟩, .inr ⟨_, rfl, srv⟩, .inr ⟨_, rfl, srv⟩, trivial⟩ rfl rfl rfl ?_)
  refine rw_t 13 rfl rfl rfl (n_alloc (n := 25) rfl ?_)
  refine rw_u rfl rfl (n_store_whole rfl rfl rfl rfl rfl rfl ?_)
  refine rw_nil ?_
  refine w_seq ?_
  -- region 10
  refine w_region ?_
  refine rw_t 52 rfl rfl rfl (do_move rfl ?_)
  refine rw_t 53 rfl rfl rfl (n_load_boxagg [_, _, _, _, _, _, _] rfl rfl (Nat.le_of_ble_eq_true rfl) rfl ?_)
  refine rw_t 54 rfl rfl rfl (n_bs (nm := 26) Event encEvent Event.none [(fitE (makeC (someNet n 12 30)) r (l.getD i Act.none))] rfl rfl rfl rfl rfl (fun _ => rfl) (fun _ _ h => by simp [encEvent] at h; rcases h with rfl | rfl | rfl | rfl | rfl | rfl | rfl <;> rfl) rfl ?_)
  refine rw_t 55 rfl rfl rfl (n_app_own (nm := 27) rfl rfl rfl rfl rfl (by first | omega | (simp only [ls] <;> omega)) (by first | omega | (simp only [ls] <;> omega)) (by omega) (by omega) rfl ?_)
  refine rw_t 9 rfl rfl rfl (do_assign rfl ?_)
  refine rw_nil ?_
  refine w_seq ?_
  by_cases hlg : legalE (makeC (someNet n 12 30)) r (fitE (makeC (someNet n 12 30)) r (l.getD i Act.none)) = 0
  · have hmv : (moveE (makeC (someNet n 12 30)) r (fitE (makeC (someNet n 12 30)) r (l.getD i Act.none))) = (doesP (makeC (someNet n 12 30)) r (fitE (makeC (someNet n 12 30)) r (l.getD i Act.none)), 0) := if_pos hlg
    -- region 11
    refine w_region ?_
    refine rw_t 57 rfl rfl rfl (n_load_boxagg [_, _, _, _, _, _, _, _, _] rfl rfl (Nat.le_of_ble_eq_true rfl) rfl ?_)
    refine rw_t 58 rfl rfl rfl (n_load_boxagg [_, _, _] rfl rfl (Nat.le_of_ble_eq_true rfl) rfl ?_)
    refine rw_t 59 rfl rfl rfl (n_load_boxagg [_, _, _, _, _, _, _] rfl rfl (Nat.le_of_ble_eq_true rfl) rfl ?_)
    refine rw_t 60 rfl rfl rfl (n_callN (X' := .tup [.agg [.slc 28 0 ((moveE (makeC (someNet n 12 30)) r (fitE (makeC (someNet n 12 30)) r (l.getD i Act.none))).1.Res.length) none, .slc 29 0 ((moveE (makeC (someNet n 12 30)) r (fitE (makeC (someNet n 12 30)) r (l.getD i Act.none))).1.Ex.length) none, .slc 30 0 ((moveE (makeC (someNet n 12 30)) r (fitE (makeC (someNet n 12 30)) r (l.getD i Act.none))).1.H.length) none], .val (.int .i64 ((moveE (makeC (someNet n 12 30)) r (fitE (makeC (someNet n 12 30)) r (l.getD i Act.none))).2))]) (N' := [SO.ints true .i64 ((moveE (makeC (someNet n 12 30)) r (fitE (makeC (someNet n 12 30)) r (l.getD i Act.none))).1.Res), SO.ints true .i64 ((moveE (makeC (someNet n 12 30)) r (fitE (makeC (someNet n 12 30)) r (l.getD i Act.none))).1.Ex), SO.ints true .i64 ((moveE (makeC (someNet n 12 30)) r (fitE (makeC (someNet n 12 30)) r (l.getD i Act.none))).1.H)]) rfl rfl (t_Move (c := (makeC (someNet n 12 30))) (p := r) (e := (fitE (makeC (someNet n 12 30)) r (l.getD i Act.none))) (hg) (g2) (hfe)) [8, 9, 10, 11, 12, 13, 21, 22, 23] ⟨.inr ⟨_, rfl, srv⟩, .inr ⟨_, rfl, srv⟩, .inr ⟨_, rfl, srv⟩, .inr ⟨_, rfl, srv⟩, .inr ⟨_, rfl, srv⟩, .inr ⟨_, rfl, srv⟩, .inr ⟨_, rfl, srv⟩, .inr ⟨_, rfl, srv⟩, .inr ⟨_, rfl, srv⟩, trivial⟩ rfl rfl rfl rfl rfl ?_)
    refine rw_t 56 rfl rfl rfl (do_move rfl ?_)
    refine rw_t 61 rfl rfl rfl (do_extract rfl rfl ?_)
    refine rw_t 62 rfl rfl rfl (do_extract rfl rfl ?_)
    refine rw_t 14 rfl rfl rfl (n_alloc (n := 31) rfl ?_)
    refine rw_u rfl rfl (n_store_whole rfl rfl rfl rfl rfl rfl ?_)
    refine rw_t 15 rfl rfl rfl (do_assign rfl ?_)
    refine rw_nil ?_
    refine w_seq ?_
    -- region 12
    refine w_region ?_
    refine rw_t 64 rfl rfl rfl (n_load_boxagg [_, _, _, _, _, _, _, _, _] rfl rfl (Nat.le_of_ble_eq_true rfl) rfl ?_)
    refine rw_t 65 rfl rfl rfl (n_load_boxagg [_, _, _] rfl rfl (Nat.le_of_ble_eq_true rfl) rfl ?_)
    refine rw_t 66 rfl rfl rfl (n_load_boxagg [_, _, _, _, _, _, _] rfl rfl (Nat.le_of_ble_eq_true rfl) rfl ?_)
    refine rw_t 67 rfl rfl rfl (n_callN (X' := .tup [.agg [.slc 32 0 ((doesP (makeC (someNet n 12 30)) r (fitE (makeC (someNet n 12 30)) r (l.getD i Act.none))).Res.length) none, .slc 33 0 ((doesP (makeC (someNet n 12 30)) r (fitE (makeC (someNet n 12 30)) r (l.getD i Act.none))).Ex.length) none, .slc 34 0 ((doesP (makeC (someNet n 12 30)) r (fitE (makeC (someNet n 12 30)) r (l.getD i Act.none))).H.length) none], .val (.int .i64 0)]) (N' := [SO.ints true .i64 ((doesP (makeC (someNet n 12 30)) r (fitE (makeC (someNet n 12 30)) r (l.getD i Act.none))).Res), SO.ints true .i64 ((doesP (makeC (someNet n 12 30)) r (fitE (makeC (someNet n 12 30)) r (l.getD i Act.none))).Ex), SO.ints true .i64 ((doesP (makeC (someNet n 12 30)) r (fitE (makeC (someNet n 12 30)) r (l.getD i Act.none))).H)]) rfl rfl (t_rMoveY (c := (makeC (someNet n 12 30))) (p := r) (e := (fitE (makeC (someNet n 12 30)) r (l.getD i Act.none))) (hg) (g2) (hfe) (hlg)) [8, 9, 10, 11, 12, 13, 21, 22, 23] ⟨.inr ⟨_, rfl, srv⟩, .inr ⟨_, rfl, srv⟩, .inr ⟨_, rfl, srv⟩, .inr ⟨_, rfl, srv⟩, .inr ⟨_, rfl, srv⟩, .inr ⟨_, rfl, srv⟩, .inr ⟨_, rfl, srv⟩, .inr ⟨_, rfl, srv⟩, .inr ⟨_, rfl, srv⟩, trivial⟩ rfl rfl rfl rfl rfl ?_)
    refine rw_t 63 rfl rfl rfl (do_move rfl ?_)
    refine rw_t 68 rfl rfl rfl (do_extract rfl rfl ?_)
    refine rw_t 69 rfl rfl rfl (do_extract rfl rfl ?_)
    refine rw_t 16 rfl rfl rfl (n_alloc (n := 35) rfl ?_)
    refine rw_u rfl rfl (n_store_whole rfl rfl rfl rfl rfl rfl ?_)
    refine rw_t 17 rfl rfl rfl (do_assign rfl ?_)
    refine rw_nil ?_
    refine w_seq ?_
    refine w_env [(7, .ptr 17 0 0), (8, .ptr 18 0 0), (9, .slc 27 0 (es.length + 1) none), (10, .ptr 19 0 0), (12, .ptr 24 0 0), (13, .ptr 25 0 0), (14, .ptr 31 0 0), (15, .val (.int .i64 ((moveE (makeC (someNet n 12 30)) r (fitE (makeC (someNet n 12 30)) r (l.getD i Act.none))).2))), (16, .ptr 35 0 0), (17, .val (.int .i64 0)), (42, .slc 1 0 (min l.length 60) none), (43, .val (.int .i64 (((min l.length 60) : Nat) : Int))), (44, .val (.int .i64 ((i : Nat) : Int))), (45, .val (.bool (decide (((i : Nat) : Int) < (((min l.length 60) : Nat) : Int))))), (46, .ptr 1 i 0), (47, .agg [.val (.int .i64 ((l.getD i Act.none).e.who)), .val (.int .u8 ((l.getD i Act.none).e.what)), .val (.int .i64 ((l.getD i Act.none).e.u)), .val (.int .i64 ((l.getD i Act.none).e.arc)), .val (.int .i64 ((l.getD i Act.none).e.d)), .val (.int .i64 ((l.getD i Act.none).e.h)), .val (.int .i64 ((l.getD i Act.none).e.low)), .val (.bool ((l.getD i Act.none).raw)), .val (.int .u8 ((l.getD i Act.none).fit))]), (48, .agg [.val (.int .i64 ((makeC (someNet n 12 30)).N)), .val (.int .i64 ((makeC (someNet n 12 30)).S)), .val (.int .i64 ((makeC (someNet n 12 30)).T)), .slc 8 0 ((makeC (someNet n 12 30)).First.length) none, .slc 9 0 ((makeC (someNet n 12 30)).Head.length) none, .slc 10 0 ((makeC (someNet n 12 30)).Rev.length) none, .slc 11 0 ((makeC (someNet n 12 30)).Cap.length) none, .slc 12 0 ((makeC (someNet n 12 30)).Arc.length) none, .slc 13 0 ((makeC (someNet n 12 30)).Back.length) none]), (49, .agg [.slc 21 0 r.Res.length none, .slc 22 0 r.Ex.length none, .slc 23 0 r.H.length none]), (50, .agg [.val (.int .i64 ((l.getD i Act.none).e.who)), .val (.int .u8 ((l.getD i Act.none).e.what)), .val (.int .i64 ((l.getD i Act.none).e.u)), .val (.int .i64 ((l.getD i Act.none).e.arc)), .val (.int .i64 ((l.getD i Act.none).e.d)), .val (.int .i64 ((l.getD i Act.none).e.h)), .val (.int .i64 ((l.getD i Act.none).e.low)), .val (.bool ((l.getD i Act.none).raw)), .val (.int .u8 ((l.getD i Act.none).fit))]), (51, .agg [.val (.int .i64 ((fitE (makeC (someNet n 12 30)) r (l.getD i Act.none)).who)), .val (.int .u8 ((fitE (makeC (someNet n 12 30)) r (l.getD i Act.none)).what)), .val (.int .i64 ((fitE (makeC (someNet n 12 30)) r (l.getD i Act.none)).u)), .val (.int .i64 ((fitE (makeC (someNet n 12 30)) r (l.getD i Act.none)).arc)), .val (.int .i64 ((fitE (makeC (someNet n 12 30)) r (l.getD i Act.none)).d)), .val (.int .i64 ((fitE (makeC (someNet n 12 30)) r (l.getD i Act.none)).h)), .val (.int .i64 ((fitE (makeC (someNet n 12 30)) r (l.getD i Act.none)).low))]), (52, .slc 20 0 es.length none), (53, .agg [.val (.int .i64 ((fitE (makeC (someNet n 12 30)) r (l.getD i Act.none)).who)), .val (.int .u8 ((fitE (makeC (someNet n 12 30)) r (l.getD i Act.none)).what)), .val (.int .i64 ((fitE (makeC (someNet n 12 30)) r (l.getD i Act.none)).u)), .val (.int .i64 ((fitE (makeC (someNet n 12 30)) r (l.getD i Act.none)).arc)), .val (.int .i64 ((fitE (makeC (someNet n 12 30)) r (l.getD i Act.none)).d)), .val (.int .i64 ((fitE (makeC (someNet n 12 30)) r (l.getD i Act.none)).h)), .val (.int .i64 ((fitE (makeC (someNet n 12 30)) r (l.getD i Act.none)).low))]), (54, .slc 26 0 1 (some 1)), (55, .slc 27 0 (es.length + 1) none), (56, .tup [.agg [.slc 28 0 ((moveE (makeC (someNet n 12 30)) r (fitE (makeC (someNet n 12 30)) r (l.getD i Act.none))).1.Res.length) none, .slc 29 0 ((moveE (makeC (someNet n 12 30)) r (fitE (makeC (someNet n 12 30)) r (l.getD i Act.none))).1.Ex.length) none, .slc 30 0 ((moveE (makeC (someNet n 12 30)) r (fitE (makeC (someNet n 12 30)) r (l.getD i Act.none))).1.H.length) none], .val (.int .i64 ((moveE (makeC (someNet n 12 30)) r (fitE (makeC (someNet n 12 30)) r (l.getD i Act.none))).2))]), (57, .agg [.val (.int .i64 ((makeC (someNet n 12 30)).N)), .val (.int .i64 ((makeC (someNet n 12 30)).S)), .val (.int .i64 ((makeC (someNet n 12 30)).T)), .slc 8 0 ((makeC (someNet n 12 30)).First.length) none, .slc 9 0 ((makeC (someNet n 12 30)).Head.length) none, .slc 10 0 ((makeC (someNet n 12 30)).Rev.length) none, .slc 11 0 ((makeC (someNet n 12 30)).Cap.length) none, .slc 12 0 ((makeC (someNet n 12 30)).Arc.length) none, .slc 13 0 ((makeC (someNet n 12 30)).Back.length) none]), (58, .agg [.slc 21 0 r.Res.length none, .slc 22 0 r.Ex.length none, .slc 23 0 r.H.length none]), (59, .agg [.val (.int .i64 ((fitE (makeC (someNet n 12 30)) r (l.getD i Act.none)).who)), .val (.int .u8 ((fitE (makeC (someNet n 12 30)) r (l.getD i Act.none)).what)), .val (.int .i64 ((fitE (makeC (someNet n 12 30)) r (l.getD i Act.none)).u)), .val (.int .i64 ((fitE (makeC (someNet n 12 30)) r (l.getD i Act.none)).arc)), .val (.int .i64 ((fitE (makeC (someNet n 12 30)) r (l.getD i Act.none)).d)), .val (.int .i64 ((fitE (makeC (someNet n 12 30)) r (l.getD i Act.none)).h)), .val (.int .i64 ((fitE (makeC (someNet n 12 30)) r (l.getD i Act.none)).low))]), (60, .tup [.agg [.slc 28 0 ((moveE (makeC (someNet n 12 30)) r (fitE (makeC (someNet n 12 30)) r (l.getD i Act.none))).1.Res.length) none, .slc 29 0 ((moveE (makeC (someNet n 12 30)) r (fitE (makeC (someNet n 12 30)) r (l.getD i Act.none))).1.Ex.length) none, .slc 30 0 ((moveE (makeC (someNet n 12 30)) r (fitE (makeC (someNet n 12 30)) r (l.getD i Act.none))).1.H.length) none], .val (.int .i64 ((moveE (makeC (someNet n 12 30)) r (fitE (makeC (someNet n 12 30)) r (l.getD i Act.none))).2))]), (61, .agg [.slc 28 0 ((moveE (makeC (someNet n 12 30)) r (fitE (makeC (someNet n 12 30)) r (l.getD i Act.none))).1.Res.length) none, .slc 29 0 ((moveE (makeC (someNet n 12 30)) r (fitE (makeC (someNet n 12 30)) r (l.getD i Act.none))).1.Ex.length) none, .slc 30 0 ((moveE (makeC (someNet n 12 30)) r (fitE (makeC (someNet n 12 30)) r (l.getD i Act.none))).1.H.length) none]), (62, .val (.int .i64 ((moveE (makeC (someNet n 12 30)) r (fitE (makeC (someNet n 12 30)) r (l.getD i Act.none))).2))), (63, .tup [.agg [.slc 32 0 ((doesP (makeC (someNet n 12 30)) r (fitE (makeC (someNet n 12 30)) r (l.getD i Act.none))).Res.length) none, .slc 33 0 ((doesP (makeC (someNet n 12 30)) r (fitE (makeC (someNet n 12 30)) r (l.getD i Act.none))).Ex.length) none, .slc 34 0 ((doesP (makeC (someNet n 12 30)) r (fitE (makeC (someNet n 12 30)) r (l.getD i Act.none))).H.length) none], .val (.int .i64 0)]), (64, .agg [.val (.int .i64 ((makeC (someNet n 12 30)).N)), .val (.int .i64 ((makeC (someNet n 12 30)).S)), .val (.int .i64 ((makeC (someNet n 12 30)).T)), .slc 8 0 ((makeC (someNet n 12 30)).First.length) none, .slc 9 0 ((makeC (someNet n 12 30)).Head.length) none, .slc 10 0 ((makeC (someNet n 12 30)).Rev.length) none, .slc 11 0 ((makeC (someNet n 12 30)).Cap.length) none, .slc 12 0 ((makeC (someNet n 12 30)).Arc.length) none, .slc 13 0 ((makeC (someNet n 12 30)).Back.length) none]), (65, .agg [.slc 21 0 r.Res.length none, .slc 22 0 r.Ex.length none, .slc 23 0 r.H.length none]), (66, .agg [.val (.int .i64 ((fitE (makeC (someNet n 12 30)) r (l.getD i Act.none)).who)), .val (.int .u8 ((fitE (makeC (someNet n 12 30)) r (l.getD i Act.none)).what)), .val (.int .i64 ((fitE (makeC (someNet n 12 30)) r (l.getD i Act.none)).u)), .val (.int .i64 ((fitE (makeC (someNet n 12 30)) r (l.getD i Act.none)).arc)), .val (.int .i64 ((fitE (makeC (someNet n 12 30)) r (l.getD i Act.none)).d)), .val (.int .i64 ((fitE (makeC (someNet n 12 30)) r (l.getD i Act.none)).h)), .val (.int .i64 ((fitE (makeC (someNet n 12 30)) r (l.getD i Act.none)).low))]), (67, .tup [.agg [.slc 32 0 ((doesP (makeC (someNet n 12 30)) r (fitE (makeC (someNet n 12 30)) r (l.getD i Act.none))).Res.length) none, .slc 33 0 ((doesP (makeC (someNet n 12 30)) r (fitE (makeC (someNet n 12 30)) r (l.getD i Act.none))).Ex.length) none, .slc 34 0 ((doesP (makeC (someNet n 12 30)) r (fitE (makeC (someNet n 12 30)) r (l.getD i Act.none))).H.length) none], .val (.int .i64 0)]), (68, .agg [.slc 32 0 ((doesP (makeC (someNet n 12 30)) r (fitE (makeC (someNet n 12 30)) r (l.getD i Act.none))).Res.length) none, .slc 33 0 ((doesP (makeC (someNet n 12 30)) r (fitE (makeC (someNet n 12 30)) r (l.getD i Act.none))).Ex.length) none, .slc 34 0 ((doesP (makeC (someNet n 12 30)) r (fitE (makeC (someNet n 12 30)) r (l.getD i Act.none))).H.length) none]), (69, .val (.int .i64 0))] ⟨⟨_, rfl, rfl⟩, ⟨_, rfl, rfl⟩, ⟨_, rfl, rfl⟩, ⟨_, rfl, rfl⟩, ⟨_, rfl, rfl⟩, ⟨_, rfl, rfl⟩, ⟨_, rfl, rfl⟩, ⟨_, rfl, rfl⟩, ⟨_, rfl, rfl⟩, ⟨_, rfl, rfl⟩, ⟨_, rfl, rfl⟩, ⟨_, rfl, rfl⟩, ⟨_, rfl, rfl⟩, ⟨_, rfl, rfl⟩, ⟨_, rfl, rfl⟩, ⟨_, rfl, rfl⟩, ⟨_, rfl, rfl⟩, ⟨_, rfl, rfl⟩, ⟨_, rfl, rfl⟩, ⟨_, rfl, rfl⟩, ⟨_, rfl, rfl⟩, ⟨_, rfl, rfl⟩, ⟨_, rfl, rfl⟩, ⟨_, rfl, rfl⟩, ⟨_, rfl, rfl⟩, ⟨_, rfl, rfl⟩, ⟨_, rfl, rfl⟩, ⟨_, rfl, rfl⟩, ⟨_, rfl, rfl⟩, ⟨_, rfl, rfl⟩, ⟨_, rfl, rfl⟩, ⟨_, rfl, rfl⟩, ⟨_, rfl, rfl⟩, ⟨_, rfl, rfl⟩, ⟨_, rfl, rfl⟩, ⟨_, rfl, rfl⟩, ⟨_, rfl, rfl⟩, ⟨_, rfl, rfl⟩, trivial⟩ ?_
    refine w_seqB 106 ((((((moveE (makeC (someNet n 12 30)) r (fitE (makeC (someNet n 12 30)) r (l.getD i Act.none))).2 ≠ 0 ∨ ¬ (sameP ((moveE (makeC (someNet n 12 30)) r (fitE (makeC (someNet n 12 30)) r (l.getD i Act.none))).1) (doesP (makeC (someNet n 12 30)) r (fitE (makeC (someNet n 12 30)) r (l.getD i Act.none))))) ∨ legalE (makeC (someNet n 12 30)) r (fitE (makeC (someNet n 12 30)) r (l.getD i Act.none)) ≠ 0) ∨ ¬ (strictP (makeC (someNet n 12 30)) r (fitE (makeC (someNet n 12 30)) r (l.getD i Act.none)) ↔ strictP (makeC (someNet n 12 30)) r (fitE (makeC (someNet n 12 30)) r (l.getD i Act.none)))) ∨ ¬ (rightP (makeC (someNet n 12 30)) ((moveE (makeC (someNet n 12 30)) r (fitE (makeC (someNet n 12 30)) r (l.getD i Act.none))).1) ↔ rightP (makeC (someNet n 12 30)) ((moveE (makeC (someNet n 12 30)) r (fitE (makeC (someNet n 12 30)) r (l.getD i Act.none))).1)))) ?_ ?_
    · -- region 13
      refine w_draw mixed [0, 0, 3, 7, 15, 15, 63, 127, 255, 511, 1023, 1023, 1023, 8191, 1023, 32767, 65535, 131071, 262143, 262143, 262143, 2097151, 262143, 262143, 262143, 33554431, 67108863, 134217727, 268435455, 536870911, 536870911, 2147483647, 536870911, 536870911] [17179869183, 34359738367, 68719476735] (by kernel_rfl) (by kernel_rfl) rfl rfl rfl (hle hρ rfl) ?_
      refine ra_q (j := 0) rfl rfl rfl rfl (do_move rfl ⟨rfl, rfl⟩) (by rfl) ?_
      refine ra_q (j := 1) rfl rfl rfl rfl (do_move rfl ⟨rfl, rfl⟩) (by rfl) ?_
      refine ra_q (j := 2) rfl rfl rfl rfl (do_bin rfl rfl rfl ⟨rfl, rfl⟩) (by rfl) ?_
      refine ra_q (j := 3) rfl rfl rfl rfl (do_move rfl ⟨rfl, rfl⟩) (by rfl) ?_
      refine ra_case 73 rfl (fun g7 => ?_) (fun g7 => ?_)
      · have kg7 := g7
        try simp only [bs] at kg7
        refine ra_gf (j := 4) rfl rfl rfl rfl (by rw [g7]; decide) rfl rfl rfl ?_
        refine ra_gf (j := 5) rfl rfl rfl rfl (by rw [g7]; decide) rfl rfl rfl ?_
        refine ra_gf (j := 6) rfl rfl rfl rfl (by rw [g7]; decide) rfl rfl rfl ?_
        refine ra_gf (j := 7) rfl rfl rfl rfl (by rw [g7]; decide) rfl rfl rfl ?_
        refine ra_q (j := 8) rfl rfl rfl rfl (do_pick_t rfl g7 rfl ⟨rfl, rfl⟩) (by rfl) ?_
        refine ra_q (j := 9) rfl rfl rfl rfl (do_move rfl ⟨rfl, rfl⟩) (by rfl) ?_
        refine ra_gf (j := 10) rfl rfl rfl rfl (by decide) rfl rfl rfl ?_
        refine ra_gf (j := 11) rfl rfl rfl rfl (by decide) rfl rfl rfl ?_
        refine ra_gf (j := 12) rfl rfl rfl rfl (by decide) rfl rfl rfl ?_
        refine ra_gf (j := 13) rfl rfl rfl rfl (by decide) rfl rfl rfl ?_
        refine ra_gf (j := 14) rfl rfl rfl rfl (by decide) rfl rfl rfl ?_
        refine ra_gf (j := 15) rfl rfl rfl rfl (by decide) rfl rfl rfl ?_
        refine ra_q (j := 16) rfl rfl rfl rfl (do_pick_t rfl rfl rfl ⟨rfl, rfl⟩) (by rfl) ?_
        refine ra_q (j := 17) rfl rfl rfl rfl (do_move rfl ⟨rfl, rfl⟩) (by rfl) ?_
        refine ra_gf (j := 18) rfl rfl rfl rfl (by decide) rfl rfl rfl ?_
        refine ra_gf (j := 19) rfl rfl rfl rfl (by decide) rfl rfl rfl ?_
        refine ra_gf (j := 20) rfl rfl rfl rfl (by decide) rfl rfl rfl ?_
        refine ra_gf (j := 21) rfl rfl rfl rfl (by decide) rfl rfl rfl ?_
        refine ra_gf (j := 22) rfl rfl rfl rfl (by decide) rfl rfl rfl ?_
        refine ra_gf (j := 23) rfl rfl rfl rfl (by decide) rfl rfl rfl ?_
        refine ra_gf (j := 24) rfl rfl rfl rfl (by decide) rfl rfl rfl ?_
        refine ra_gf (j := 25) rfl rfl rfl rfl (by decide) rfl rfl rfl ?_
        refine ra_gf (j := 26) rfl rfl rfl rfl (by decide) rfl rfl rfl ?_
        refine ra_q (j := 27) rfl rfl rfl rfl (do_pick_t rfl rfl rfl ⟨rfl, rfl⟩) (by rfl) ?_
        refine ra_q (j := 28) rfl rfl rfl rfl (do_move rfl ⟨rfl, rfl⟩) (by rfl) ?_
        refine ra_gf (j := 29) rfl rfl rfl rfl (by decide) rfl rfl rfl ?_
        refine ra_gf (j := 30) rfl rfl rfl rfl (by decide) rfl rfl rfl ?_
        refine ra_gf (j := 31) rfl rfl rfl rfl (by decide) rfl rfl rfl ?_
        refine ra_gf (j := 32) rfl rfl rfl rfl (by decide) rfl rfl rfl ?_
        refine ra_gf (j := 33) rfl rfl rfl rfl (by decide) rfl rfl rfl ?_
        refine n_done ?_
        refine rw_gf 104 28 98 false rfl rfl rfl rfl rfl rfl (by decide) ?_
        refine rw_gf 105 28 98 false rfl rfl rfl rfl rfl rfl (by decide) ?_
        refine rw_t 106 rfl rfl rfl (do_pick_t rfl rfl rfl ?_)
        refine rw_nil ?_
        refine ⟨rfl, ⟨_, rfl, by first | (simp; done) | (simp only [bs]; omega) | (simp [*]; done) | (simp; omega) | (constructor <;> intro h <;> simp_all <;> omega)⟩, ?_⟩
        repeat (refine ⟨⟨_, rfl, rfl⟩, ?_⟩)
        exact trivial
      · have kg7 := g7
        try simp only [bs] at kg7
        refine ra_gt (j := 4) rfl rfl rfl rfl g7 rfl rfl rfl (n_load_boxagg [_, _, _] rfl rfl (Nat.le_of_ble_eq_true rfl) rfl ⟨rfl, rfl⟩) (by rfl) ?_
        refine ra_gt (j := 5) rfl rfl rfl rfl g7 rfl rfl rfl (n_load_boxagg [_, _, _] rfl rfl (Nat.le_of_ble_eq_true rfl) rfl ⟨rfl, rfl⟩) (by rfl) ?_
        refine ra_gt (j := 6) rfl rfl rfl rfl g7 rfl rfl rfl (do_callR (X' := .val (.bool (decide (sameP ((moveE (makeC (someNet n 12 30)) r (fitE (makeC (someNet n 12 30)) r (l.getD i Act.none))).1) (doesP (makeC (someNet n 12 30)) r (fitE (makeC (someNet n 12 30)) r (l.getD i Act.none))))))) rfl rfl (t_same (a := (moveE (makeC (someNet n 12 30)) r (fitE (makeC (someNet n 12 30)) r (l.getD i Act.none))).1) (b := (doesP (makeC (someNet n 12 30)) r (fitE (makeC (someNet n 12 30)) r (l.getD i Act.none)))) (by omega)) [28, 29, 30, 32, 33, 34] ⟨.inr ⟨_, rfl, srv⟩, .inr ⟨_, rfl, srv⟩, .inr ⟨_, rfl, srv⟩, .inr ⟨_, rfl, srv⟩, .inr ⟨_, rfl, srv⟩, .inr ⟨_, rfl, srv⟩, trivial⟩ rfl rfl rfl ⟨rfl, rfl⟩) (by rfl) ?_
        refine ra_gt (j := 7) rfl rfl rfl rfl g7 rfl rfl rfl (do_not rfl ⟨rfl, rfl⟩) (by rfl) ?_
        refine ra_q (j := 8) rfl rfl rfl rfl (do_pick_f rfl g7 rfl ⟨rfl, rfl⟩) (by rfl) ?_
        refine ra_q (j := 9) rfl rfl rfl rfl (do_move rfl ⟨rfl, rfl⟩) (by rfl) ?_
        refine ra_case 79 rfl (fun g8 => ?_) (fun g8 => ?_)
        · have kg8 := g8
          try simp only [bs] at kg8
          refine ra_gf (j := 10) rfl rfl rfl rfl (by rw [g8]; decide) rfl rfl rfl ?_
          refine ra_gf (j := 11) rfl rfl rfl rfl (by rw [g8]; decide) rfl rfl rfl ?_
          refine ra_gf (j := 12) rfl rfl rfl rfl (by rw [g8]; decide) rfl rfl rfl ?_
          refine ra_gf (j := 13) rfl rfl rfl rfl (by rw [g8]; decide) rfl rfl rfl ?_
          refine ra_gf (j := 14) rfl rfl rfl rfl (by rw [g8]; decide) rfl rfl rfl ?_
          refine ra_gf (j := 15) rfl rfl rfl rfl (by rw [g8]; decide) rfl rfl rfl ?_
          refine ra_q (j := 16) rfl rfl rfl rfl (do_pick_t rfl g8 rfl ⟨rfl, rfl⟩) (by rfl) ?_
          refine ra_q (j := 17) rfl rfl rfl rfl (do_move rfl ⟨rfl, rfl⟩) (by rfl) ?_
          refine ra_gf (j := 18) rfl rfl rfl rfl (by decide) rfl rfl rfl ?_
          refine ra_gf (j := 19) rfl rfl rfl rfl (by decide) rfl rfl rfl ?_
          refine ra_gf (j := 20) rfl rfl rfl rfl (by decide) rfl rfl rfl ?_
          refine ra_gf (j := 21) rfl rfl rfl rfl (by decide) rfl rfl rfl ?_
          refine ra_gf (j := 22) rfl rfl rfl rfl (by decide) rfl rfl rfl ?_
          refine ra_gf (j := 23) rfl rfl rfl rfl (by decide) rfl rfl rfl ?_
          refine ra_gf (j := 24) rfl rfl rfl rfl (by decide) rfl rfl rfl ?_
          refine ra_gf (j := 25) rfl rfl rfl rfl (by decide) rfl rfl rfl ?_
          refine ra_gf (j := 26) rfl rfl rfl rfl (by decide) rfl rfl rfl ?_
          refine ra_q (j := 27) rfl rfl rfl rfl (do_pick_t rfl rfl rfl ⟨rfl, rfl⟩) (by rfl) ?_
          refine ra_q (j := 28) rfl rfl rfl rfl (do_move rfl ⟨rfl, rfl⟩) (by rfl) ?_
          refine ra_gf (j := 29) rfl rfl rfl rfl (by decide) rfl rfl rfl ?_
          refine ra_gf (j := 30) rfl rfl rfl rfl (by decide) rfl rfl rfl ?_
          refine ra_gf (j := 31) rfl rfl rfl rfl (by decide) rfl rfl rfl ?_
          refine ra_gf (j := 32) rfl rfl rfl rfl (by decide) rfl rfl rfl ?_
          refine ra_gf (j := 33) rfl rfl rfl rfl (by decide) rfl rfl rfl ?_
          refine n_done ?_
          refine rw_gf 104 28 98 false rfl rfl rfl rfl rfl rfl (by decide) ?_
          refine rw_gf 105 28 98 false rfl rfl rfl rfl rfl rfl (by decide) ?_
          refine rw_t 106 rfl rfl rfl (do_pick_t rfl rfl rfl ?_)
          refine rw_nil ?_
          refine ⟨rfl, ⟨_, rfl, by first | (simp; done) | (simp only [bs]; omega) | (simp [*]; done) | (simp; omega) | (constructor <;> intro h <;> simp_all <;> omega)⟩, ?_⟩
          repeat (refine ⟨⟨_, rfl, rfl⟩, ?_⟩)
          exact trivial
        · have kg8 := g8
          try simp only [bs] at kg8
          refine ra_gt (j := 10) rfl rfl rfl rfl g8 rfl rfl rfl (n_load_boxagg [_, _, _, _, _, _, _, _, _] rfl rfl (Nat.le_of_ble_eq_true rfl) rfl ⟨rfl, rfl⟩) (by rfl) ?_
          refine ra_gt (j := 11) rfl rfl rfl rfl g8 rfl rfl rfl (n_load_boxagg [_, _, _] rfl rfl (Nat.le_of_ble_eq_true rfl) rfl ⟨rfl, rfl⟩) (by rfl) ?_
          refine ra_gt (j := 12) rfl rfl rfl rfl g8 rfl rfl rfl (n_load_boxagg [_, _, _, _, _, _, _] rfl rfl (Nat.le_of_ble_eq_true rfl) rfl ⟨rfl, rfl⟩) (by rfl) ?_
          refine ra_gt (j := 13) rfl rfl rfl rfl g8 rfl rfl rfl (do_callR (X' := .val (.int .i64 (legalE (makeC (someNet n 12 30)) r (fitE (makeC (someNet n 12 30)) r (l.getD i Act.none))))) rfl rfl (t_Legal (c := (makeC (someNet n 12 30))) (p := r) (e := (fitE (makeC (someNet n 12 30)) r (l.getD i Act.none))) (hg.toCsrOK) (right_len g2) (hfe)) [8, 9, 10, 11, 12, 13, 21, 22, 23] ⟨.inr ⟨_, rfl, srv⟩, .inr ⟨_, rfl, srv⟩, .inr ⟨_, rfl, srv⟩, .inr ⟨_, rfl, srv⟩, .inr ⟨_, rfl, srv⟩, .inr ⟨_, rfl, srv⟩, .inr ⟨_, rfl, srv⟩, .inr ⟨_, rfl, srv⟩, .inr ⟨_, rfl, srv⟩, trivial⟩ rfl rfl rfl ⟨rfl, rfl⟩) (by rfl) ?_
          refine ra_gt (j := 14) rfl rfl rfl rfl g8 rfl rfl rfl (do_move rfl ⟨rfl, rfl⟩) (by rfl) ?_
          refine ra_gt (j := 15) rfl rfl rfl rfl g8 rfl rfl rfl (do_bin rfl rfl rfl ⟨rfl, rfl⟩) (by rfl) ?_
          refine ra_q (j := 16) rfl rfl rfl rfl (do_pick_f rfl g8 rfl ⟨rfl, rfl⟩) (by rfl) ?_
          refine ra_q (j := 17) rfl rfl rfl rfl (do_move rfl ⟨rfl, rfl⟩) (by rfl) ?_
          refine ra_case 87 rfl (fun g9 => ?_) (fun g9 => ?_)
          · have kg9 := g9
            try simp only [bs] at kg9
            refine ra_gf (j := 18) rfl rfl rfl rfl (by rw [g9]; decide) rfl rfl rfl ?_
            refine ra_gf (j := 19) rfl rfl rfl rfl (by rw [g9]; decide) rfl rfl rfl ?_
            refine ra_gf (j := 20) rfl rfl rfl rfl (by rw [g9]; decide) rfl rfl rfl ?_
            refine ra_gf (j := 21) rfl rfl rfl rfl (by rw [g9]; decide) rfl rfl rfl ?_
            refine ra_gf (j := 22) rfl rfl rfl rfl (by rw [g9]; decide) rfl rfl rfl ?_
            refine ra_gf (j := 23) rfl rfl rfl rfl (by rw [g9]; decide) rfl rfl rfl ?_
            refine ra_gf (j := 24) rfl rfl rfl rfl (by rw [g9]; decide) rfl rfl rfl ?_
            refine ra_gf (j := 25) rfl rfl rfl rfl (by rw [g9]; decide) rfl rfl rfl ?_
            refine ra_gf (j := 26) rfl rfl rfl rfl (by rw [g9]; decide) rfl rfl rfl ?_
            refine ra_q (j := 27) rfl rfl rfl rfl (do_pick_t rfl g9 rfl ⟨rfl, rfl⟩) (by rfl) ?_
            refine ra_q (j := 28) rfl rfl rfl rfl (do_move rfl ⟨rfl, rfl⟩) (by rfl) ?_
            refine ra_gf (j := 29) rfl rfl rfl rfl (by decide) rfl rfl rfl ?_
            refine ra_gf (j := 30) rfl rfl rfl rfl (by decide) rfl rfl rfl ?_
            refine ra_gf (j := 31) rfl rfl rfl rfl (by decide) rfl rfl rfl ?_
            refine ra_gf (j := 32) rfl rfl rfl rfl (by decide) rfl rfl rfl ?_
            refine ra_gf (j := 33) rfl rfl rfl rfl (by decide) rfl rfl rfl ?_
            refine n_done ?_
            refine rw_gf 104 28 98 false rfl rfl rfl rfl rfl rfl (by decide) ?_
            refine rw_gf 105 28 98 false rfl rfl rfl rfl rfl rfl (by decide) ?_
            refine rw_t 106 rfl rfl rfl (do_pick_t rfl rfl rfl ?_)
            refine rw_nil ?_
            refine ⟨rfl, ⟨_, rfl, by first | (simp; done) | (simp only [bs]; omega) | (simp [*]; done) | (simp; omega) | (constructor <;> intro h <;> simp_all <;> omega)⟩, ?_⟩
            repeat (refine ⟨⟨_, rfl, rfl⟩, ?_⟩)
            exact trivial
          · have kg9 := g9
            try simp only [bs] at kg9
            refine ra_gt (j := 18) rfl rfl rfl rfl g9 rfl rfl rfl (n_load_boxagg [_, _, _, _, _, _, _, _, _] rfl rfl (Nat.le_of_ble_eq_true rfl) rfl ⟨rfl, rfl⟩) (by rfl) ?_
            refine ra_gt (j := 19) rfl rfl rfl rfl g9 rfl rfl rfl (n_load_boxagg [_, _, _] rfl rfl (Nat.le_of_ble_eq_true rfl) rfl ⟨rfl, rfl⟩) (by rfl) ?_
            refine ra_gt (j := 20) rfl rfl rfl rfl g9 rfl rfl rfl (n_load_boxagg [_, _, _, _, _, _, _] rfl rfl (Nat.le_of_ble_eq_true rfl) rfl ⟨rfl, rfl⟩) (by rfl) ?_
            refine ra_gt (j := 21) rfl rfl rfl rfl g9 rfl rfl rfl (do_callR (X' := .val (.bool (decide (strictP (makeC (someNet n 12 30)) r (fitE (makeC (someNet n 12 30)) r (l.getD i Act.none)))))) rfl rfl (t_Strict (c := (makeC (someNet n 12 30))) (p := r) (e := (fitE (makeC (someNet n 12 30)) r (l.getD i Act.none))) (hg) (g2) (hfe)) [8, 9, 10, 11, 12, 13, 21, 22, 23] ⟨.inr ⟨_, rfl, srv⟩, .inr ⟨_, rfl, srv⟩, .inr ⟨_, rfl, srv⟩, .inr ⟨_, rfl, srv⟩, .inr ⟨_, rfl, srv⟩, .inr ⟨_, rfl, srv⟩, .inr ⟨_, rfl, srv⟩, .inr ⟨_, rfl, srv⟩, .inr ⟨_, rfl, srv⟩, trivial⟩ rfl rfl rfl ⟨rfl, rfl⟩) (by rfl) ?_
            refine ra_gt (j := 22) rfl rfl rfl rfl g9 rfl rfl rfl (n_load_boxagg [_, _, _, _, _, _, _, _, _] rfl rfl (Nat.le_of_ble_eq_true rfl) rfl ⟨rfl, rfl⟩) (by rfl) ?_
            refine ra_gt (j := 23) rfl rfl rfl rfl g9 rfl rfl rfl (n_load_boxagg [_, _, _] rfl rfl (Nat.le_of_ble_eq_true rfl) rfl ⟨rfl, rfl⟩) (by rfl) ?_
            refine ra_gt (j := 24) rfl rfl rfl rfl g9 rfl rfl rfl (n_load_boxagg [_, _, _, _, _, _, _] rfl rfl (Nat.le_of_ble_eq_true rfl) rfl ⟨rfl, rfl⟩) (by rfl) ?_
            refine ra_gt (j := 25) rfl rfl rfl rfl g9 rfl rfl rfl (do_callR (X' := .val (.bool (decide (strictP (makeC (someNet n 12 30)) r (fitE (makeC (someNet n 12 30)) r (l.getD i Act.none)))))) rfl rfl (t_rStrict (c := (makeC (someNet n 12 30))) (p := r) (e := (fitE (makeC (someNet n 12 30)) r (l.getD i Act.none))) (hg) (g2) (hfe)) [8, 9, 10, 11, 12, 13, 21, 22, 23] ⟨.inr ⟨_, rfl, srv⟩, .inr ⟨_, rfl, srv⟩, .inr ⟨_, rfl, srv⟩, .inr ⟨_, rfl, srv⟩, .inr ⟨_, rfl, srv⟩, .inr ⟨_, rfl, srv⟩, .inr ⟨_, rfl, srv⟩, .inr ⟨_, rfl, srv⟩, .inr ⟨_, rfl, srv⟩, trivial⟩ rfl rfl rfl ⟨rfl, rfl⟩) (by rfl) ?_
            refine ra_gt (j := 26) rfl rfl rfl rfl g9 rfl rfl rfl (do_neB rfl rfl ⟨rfl, rfl⟩) (by rfl) ?_
            refine ra_q (j := 27) rfl rfl rfl rfl (do_pick_f rfl g9 rfl ⟨rfl, rfl⟩) (by rfl) ?_
            refine ra_q (j := 28) rfl rfl rfl rfl (do_move rfl ⟨rfl, rfl⟩) (by rfl) ?_
            refine ra_case 98 rfl (fun g10 => ?_) (fun g10 => ?_)
            · have kg10 := g10
              try simp only [bs] at kg10
              refine ra_gf (j := 29) rfl rfl rfl rfl (by rw [g10]; decide) rfl rfl rfl ?_
              refine ra_gf (j := 30) rfl rfl rfl rfl (by rw [g10]; decide) rfl rfl rfl ?_
              refine ra_gf (j := 31) rfl rfl rfl rfl (by rw [g10]; decide) rfl rfl rfl ?_
              refine ra_gf (j := 32) rfl rfl rfl rfl (by rw [g10]; decide) rfl rfl rfl ?_
              refine ra_gf (j := 33) rfl rfl rfl rfl (by rw [g10]; decide) rfl rfl rfl ?_
              refine n_done ?_
              refine rw_gf 104 28 98 false rfl rfl rfl rfl rfl rfl (by rw [g10]; decide) ?_
              refine rw_gf 105 28 98 false rfl rfl rfl rfl rfl rfl (by rw [g10]; decide) ?_
              refine rw_t 106 rfl rfl rfl (do_pick_t rfl g10 rfl ?_)
              refine rw_nil ?_
              refine ⟨rfl, ⟨_, rfl, by first | (simp; done) | (simp only [bs]; omega) | (simp [*]; done) | (simp; omega) | (constructor <;> intro h <;> simp_all <;> omega)⟩, ?_⟩
              repeat (refine ⟨⟨_, rfl, rfl⟩, ?_⟩)
              exact trivial
            · have kg10 := g10
              try simp only [bs] at kg10
              refine ra_gt (j := 29) rfl rfl rfl rfl g10 rfl rfl rfl (n_load_boxagg [_, _, _, _, _, _, _, _, _] rfl rfl (Nat.le_of_ble_eq_true rfl) rfl ⟨rfl, rfl⟩) (by rfl) ?_
              refine ra_gt (j := 30) rfl rfl rfl rfl g10 rfl rfl rfl (n_load_boxagg [_, _, _] rfl rfl (Nat.le_of_ble_eq_true rfl) rfl ⟨rfl, rfl⟩) (by rfl) ?_
              refine ra_gt (j := 31) rfl rfl rfl rfl g10 rfl rfl rfl (do_callR (X' := .val (.bool (decide (rightP (makeC (someNet n 12 30)) ((moveE (makeC (someNet n 12 30)) r (fitE (makeC (someNet n 12 30)) r (l.getD i Act.none))).1))))) rfl rfl (t_Right (c := (makeC (someNet n 12 30))) (p := (moveE (makeC (someNet n 12 30)) r (fitE (makeC (someNet n 12 30)) r (l.getD i Act.none))).1) (hg.toCsrT) (hmi)) [8, 9, 10, 11, 12, 13, 28, 29, 30] ⟨.inr ⟨_, rfl, srv⟩, .inr ⟨_, rfl, srv⟩, .inr ⟨_, rfl, srv⟩, .inr ⟨_, rfl, srv⟩, .inr ⟨_, rfl, srv⟩, .inr ⟨_, rfl, srv⟩, .inr ⟨_, rfl, srv⟩, .inr ⟨_, rfl, srv⟩, .inr ⟨_, rfl, srv⟩, trivial⟩ rfl rfl rfl ⟨rfl, rfl⟩) (by rfl) ?_
              refine ra_gt (j := 32) rfl rfl rfl rfl g10 rfl rfl rfl (n_load_boxagg [_, _, _, _, _, _, _, _, _] rfl rfl (Nat.le_of_ble_eq_true rfl) rfl ⟨rfl, rfl⟩) (by rfl) ?_
              refine ra_gt (j := 33) rfl rfl rfl rfl g10 rfl rfl rfl (n_load_boxagg [_, _, _] rfl rfl (Nat.le_of_ble_eq_true rfl) rfl ⟨rfl, rfl⟩) (by rfl) ?_
              refine n_done ?_
              refine rw_gt 104 28 98 false rfl rfl rfl rfl rfl rfl g10 (do_callR (X' := .val (.bool (decide (rightP (makeC (someNet n 12 30)) ((moveE (makeC (someNet n 12 30)) r (fitE (makeC (someNet n 12 30)) r (l.getD i Act.none))).1))))) rfl rfl (t_rRight (c := (makeC (someNet n 12 30))) (p := (moveE (makeC (someNet n 12 30)) r (fitE (makeC (someNet n 12 30)) r (l.getD i Act.none))).1) (hg.toCsrT)) [8, 9, 10, 11, 12, 13, 28, 29, 30] ⟨.inr ⟨_, rfl, srv⟩, .inr ⟨_, rfl, srv⟩, .inr ⟨_, rfl, srv⟩, .inr ⟨_, rfl, srv⟩, .inr ⟨_, rfl, srv⟩, .inr ⟨_, rfl, srv⟩, .inr ⟨_, rfl, srv⟩, .inr ⟨_, rfl, srv⟩, .inr ⟨_, rfl, srv⟩, trivial⟩ rfl rfl rfl ?_)
              refine rw_gt 105 28 98 false rfl rfl rfl rfl rfl rfl g10 (do_neB rfl rfl ?_)
              refine rw_t 106 rfl rfl rfl (do_pick_f rfl g10 rfl ?_)
              refine rw_nil ?_
              refine ⟨rfl, ⟨_, rfl, by first | (simp; done) | (simp only [bs]; omega) | (simp [*]; done) | (simp; omega) | (constructor <;> intro h <;> simp_all <;> omega)⟩, ?_⟩
              repeat (refine ⟨⟨_, rfl, rfl⟩, ?_⟩)
              exact trivial
    intro b3 hb3
    refine w_condP hb3 rfl (fun hc3 => ?_) (fun hc3 => ?_)
    · exfalso; rcases hc3 with (((q | q) | q) | q) | q; exact q (by rw [hmv]); exact q (by rw [hmv]; exact ⟨rfl, rfl, rfl⟩); exact q hlg; exact q Iff.rfl; exact q Iff.rfl
    refine w_skip ?_
    -- region 15
    refine w_region ?_
    refine rw_t 107 rfl rfl rfl (n_load_boxagg [_, _, _] rfl rfl (Nat.le_of_ble_eq_true rfl) rfl ?_)
    refine rw_u rfl rfl (n_store_whole rfl rfl rfl rfl rfl rfl ?_)
    refine rw_nil ?_
    -- region 16
    refine w_region ?_
    refine rw_t 108 rfl rfl rfl (do_add rfl rfl (by omega) ?_)
    refine rw_t 44 rfl rfl rfl (do_move rfl ?_)
    refine rw_nil ?_
    refine ⟨(i + 1, (moveE (makeC (someNet n 12 30)) r (fitE (makeC (someNet n 12 30)) r (l.getD i Act.none))).1, es ++ [(fitE (makeC (someNet n 12 30)) r (l.getD i Act.none))]), [0, 1, 2, 3, 4, 5, 6, 7, 8, 9, 10, 11, 12, 13, 14, 15, 16, 17, 18, 19, 27, 28, 29, 30], by dsimp only; omega, ⟨by dsimp only; omega, hmr, fun z hz => by simp only [List.mem_append, List.mem_singleton] at hz; rcases hz with q | q; exact g3 z q; rw [q]; exact hfe, by simp only [List.length_append, List.length_singleton]; omega⟩, ⟨.inr ⟨_, rfl, .inl rfl⟩, .inr ⟨_, rfl, .inl rfl⟩, .inr ⟨_, rfl, .inl rfl⟩, .inr ⟨_, rfl, .inl rfl⟩, .inr ⟨_, rfl, .inl rfl⟩, .inr ⟨_, rfl, .inl rfl⟩, .inr ⟨_, rfl, .inl rfl⟩, .inr ⟨_, rfl, .inl rfl⟩, .inr ⟨_, rfl, .inl rfl⟩, .inr ⟨_, rfl, .inl rfl⟩, .inr ⟨_, rfl, .inl rfl⟩, .inr ⟨_, rfl, .inl rfl⟩, .inr ⟨_, rfl, .inl rfl⟩, .inr ⟨_, rfl, .inl rfl⟩, .inr ⟨_, rfl, .inl rfl⟩, .inr ⟨_, rfl, .inl rfl⟩, .inr ⟨_, rfl, .inl rfl⟩, .inr ⟨_, rfl, .inl rfl⟩, .inr ⟨_, rfl, .inl rfl⟩, .inr ⟨_, rfl, .inl rfl⟩, .inr ⟨_, rfl, .inl rfl⟩, .inr ⟨_, rfl, srv⟩, .inr ⟨_, rfl, srv⟩, .inr ⟨_, rfl, srv⟩, trivial⟩, rfl, pre_ok rfl, ⟨⟨_, rfl, rfl⟩, ⟨_, rfl, rfl⟩, ⟨_, rfl, (congrArg (fun n => SV.slc 27 0 n none) (by simp : es.length + 1 = (es ++ [(fitE (makeC (someNet n 12 30)) r (l.getD i Act.none))]).length)).trans rfl⟩, ⟨_, rfl, rfl⟩, ⟨_, rfl, rfl⟩, ⟨_, rfl, rfl⟩, ⟨_, rfl, rfl⟩, trivial⟩⟩
  · have hmv : (moveE (makeC (someNet n 12 30)) r (fitE (makeC (someNet n 12 30)) r (l.getD i Act.none))) = (r, legalE (makeC (someNet n 12 30)) r (fitE (makeC (someNet n 12 30)) r (l.getD i Act.none))) := if_neg hlg
    -- region 11
    refine w_region ?_
    refine rw_t 57 rfl rfl rfl (n_load_boxagg [_, _, _, _, _, _, _, _, _] rfl rfl (Nat.le_of_ble_eq_true rfl) rfl ?_)
    refine rw_t 58 rfl rfl rfl (n_load_boxagg [_, _, _] rfl rfl (Nat.le_of_ble_eq_true rfl) rfl ?_)
    refine rw_t 59 rfl rfl rfl (n_load_boxagg [_, _, _, _, _, _, _] rfl rfl (Nat.le_of_ble_eq_true rfl) rfl ?_)
    refine rw_t 60 rfl rfl rfl (n_callN (X' := .tup [.agg [.slc 28 0 ((moveE (makeC (someNet n 12 30)) r (fitE (makeC (someNet n 12 30)) r (l.getD i Act.none))).1.Res.length) none, .slc 29 0 ((moveE (makeC (someNet n 12 30)) r (fitE (makeC (someNet n 12 30)) r (l.getD i Act.none))).1.Ex.length) none, .slc 30 0 ((moveE (makeC (someNet n 12 30)) r (fitE (makeC (someNet n 12 30)) r (l.getD i Act.none))).1.H.length) none], .val (.int .i64 ((moveE (makeC (someNet n 12 30)) r (fitE (makeC (someNet n 12 30)) r (l.getD i Act.none))).2))]) (N' := [SO.ints true .i64 ((moveE (makeC (someNet n 12 30)) r (fitE (makeC (someNet n 12 30)) r (l.getD i Act.none))).1.Res), SO.ints true .i64 ((moveE (makeC (someNet n 12 30)) r (fitE (makeC (someNet n 12 30)) r (l.getD i Act.none))).1.Ex), SO.ints true .i64 ((moveE (makeC (someNet n 12 30)) r (fitE (makeC (someNet n 12 30)) r (l.getD i Act.none))).1.H)]) rfl rfl (t_Move (c := (makeC (someNet n 12 30))) (p := r) (e := (fitE (makeC (someNet n 12 30)) r (l.getD i Act.none))) (hg) (g2) (hfe)) [8, 9, 10, 11, 12, 13, 21, 22, 23] ⟨.inr ⟨_, rfl, srv⟩, .inr ⟨_, rfl, srv⟩, .inr ⟨_, rfl, srv⟩, .inr ⟨_, rfl, srv⟩, .inr ⟨_, rfl, srv⟩, .inr ⟨_, rfl, srv⟩, .inr ⟨_, rfl, srv⟩, .inr ⟨_, rfl, srv⟩, .inr ⟨_, rfl, srv⟩, trivial⟩ rfl rfl rfl rfl rfl ?_)
    refine rw_t 56 rfl rfl rfl (do_move rfl ?_)
    refine rw_t 61 rfl rfl rfl (do_extract rfl rfl ?_)
    refine rw_t 62 rfl rfl rfl (do_extract rfl rfl ?_)
    refine rw_t 14 rfl rfl rfl (n_alloc (n := 31) rfl ?_)
    refine rw_u rfl rfl (n_store_whole rfl rfl rfl rfl rfl rfl ?_)
    refine rw_t 15 rfl rfl rfl (do_assign rfl ?_)
    refine rw_nil ?_
    refine w_seq ?_
    -- region 12
    refine w_region ?_
    refine rw_t 64 rfl rfl rfl (n_load_boxagg [_, _, _, _, _, _, _, _, _] rfl rfl (Nat.le_of_ble_eq_true rfl) rfl ?_)
    refine rw_t 65 rfl rfl rfl (n_load_boxagg [_, _, _] rfl rfl (Nat.le_of_ble_eq_true rfl) rfl ?_)
    refine rw_t 66 rfl rfl rfl (n_load_boxagg [_, _, _, _, _, _, _] rfl rfl (Nat.le_of_ble_eq_true rfl) rfl ?_)
    refine rw_t 67 rfl rfl rfl (do_callR (X' := .tup [.agg [.slc 21 0 r.Res.length none, .slc 22 0 r.Ex.length none, .slc 23 0 r.H.length none], .val (.int .i64 (legalE (makeC (someNet n 12 30)) r (fitE (makeC (someNet n 12 30)) r (l.getD i Act.none))))]) rfl rfl (t_rMoveN (c := (makeC (someNet n 12 30))) (p := r) (e := (fitE (makeC (someNet n 12 30)) r (l.getD i Act.none))) (hg) (g2) (hfe) (hlg)) [8, 9, 10, 11, 12, 13, 21, 22, 23] ⟨.inr ⟨_, rfl, srv⟩, .inr ⟨_, rfl, srv⟩, .inr ⟨_, rfl, srv⟩, .inr ⟨_, rfl, srv⟩, .inr ⟨_, rfl, srv⟩, .inr ⟨_, rfl, srv⟩, .inr ⟨_, rfl, srv⟩, .inr ⟨_, rfl, srv⟩, .inr ⟨_, rfl, srv⟩, trivial⟩ rfl rfl rfl ?_)
    refine rw_t 63 rfl rfl rfl (do_move rfl ?_)
    refine rw_t 68 rfl rfl rfl (do_extract rfl rfl ?_)
    refine rw_t 69 rfl rfl rfl (do_extract rfl rfl ?_)
    refine rw_t 16 rfl rfl rfl (n_alloc (n := 32) rfl ?_)
    refine rw_u rfl rfl (n_store_whole rfl rfl rfl rfl rfl rfl ?_)
    refine rw_t 17 rfl rfl rfl (do_assign rfl ?_)
    refine rw_nil ?_
    refine w_seq ?_
    refine w_env [(7, .ptr 17 0 0), (8, .ptr 18 0 0), (9, .slc 27 0 (es.length + 1) none), (10, .ptr 19 0 0), (12, .ptr 24 0 0), (13, .ptr 25 0 0), (14, .ptr 31 0 0), (15, .val (.int .i64 ((moveE (makeC (someNet n 12 30)) r (fitE (makeC (someNet n 12 30)) r (l.getD i Act.none))).2))), (16, .ptr 32 0 0), (17, .val (.int .i64 (legalE (makeC (someNet n 12 30)) r (fitE (makeC (someNet n 12 30)) r (l.getD i Act.none))))), (42, .slc 1 0 (min l.length 60) none), (43, .val (.int .i64 (((min l.length 60) : Nat) : Int))), (44, .val (.int .i64 ((i : Nat) : Int))), (45, .val (.bool (decide (((i : Nat) : Int) < (((min l.length 60) : Nat) : Int))))), (46, .ptr 1 i 0), (47, .agg [.val (.int .i64 ((l.getD i Act.none).e.who)), .val (.int .u8 ((l.getD i Act.none).e.what)), .val (.int .i64 ((l.getD i Act.none).e.u)), .val (.int .i64 ((l.getD i Act.none).e.arc)), .val (.int .i64 ((l.getD i Act.none).e.d)), .val (.int .i64 ((l.getD i Act.none).e.h)), .val (.int .i64 ((l.getD i Act.none).e.low)), .val (.bool ((l.getD i Act.none).raw)), .val (.int .u8 ((l.getD i Act.none).fit))]), (48, .agg [.val (.int .i64 ((makeC (someNet n 12 30)).N)), .val (.int .i64 ((makeC (someNet n 12 30)).S)), .val (.int .i64 ((makeC (someNet n 12 30)).T)), .slc 8 0 ((makeC (someNet n 12 30)).First.length) none, .slc 9 0 ((makeC (someNet n 12 30)).Head.length) none, .slc 10 0 ((makeC (someNet n 12 30)).Rev.length) none, .slc 11 0 ((makeC (someNet n 12 30)).Cap.length) none, .slc 12 0 ((makeC (someNet n 12 30)).Arc.length) none, .slc 13 0 ((makeC (someNet n 12 30)).Back.length) none]), (49, .agg [.slc 21 0 r.Res.length none, .slc 22 0 r.Ex.length none, .slc 23 0 r.H.length none]), (50, .agg [.val (.int .i64 ((l.getD i Act.none).e.who)), .val (.int .u8 ((l.getD i Act.none).e.what)), .val (.int .i64 ((l.getD i Act.none).e.u)), .val (.int .i64 ((l.getD i Act.none).e.arc)), .val (.int .i64 ((l.getD i Act.none).e.d)), .val (.int .i64 ((l.getD i Act.none).e.h)), .val (.int .i64 ((l.getD i Act.none).e.low)), .val (.bool ((l.getD i Act.none).raw)), .val (.int .u8 ((l.getD i Act.none).fit))]), (51, .agg [.val (.int .i64 ((fitE (makeC (someNet n 12 30)) r (l.getD i Act.none)).who)), .val (.int .u8 ((fitE (makeC (someNet n 12 30)) r (l.getD i Act.none)).what)), .val (.int .i64 ((fitE (makeC (someNet n 12 30)) r (l.getD i Act.none)).u)), .val (.int .i64 ((fitE (makeC (someNet n 12 30)) r (l.getD i Act.none)).arc)), .val (.int .i64 ((fitE (makeC (someNet n 12 30)) r (l.getD i Act.none)).d)), .val (.int .i64 ((fitE (makeC (someNet n 12 30)) r (l.getD i Act.none)).h)), .val (.int .i64 ((fitE (makeC (someNet n 12 30)) r (l.getD i Act.none)).low))]), (52, .slc 20 0 es.length none), (53, .agg [.val (.int .i64 ((fitE (makeC (someNet n 12 30)) r (l.getD i Act.none)).who)), .val (.int .u8 ((fitE (makeC (someNet n 12 30)) r (l.getD i Act.none)).what)), .val (.int .i64 ((fitE (makeC (someNet n 12 30)) r (l.getD i Act.none)).u)), .val (.int .i64 ((fitE (makeC (someNet n 12 30)) r (l.getD i Act.none)).arc)), .val (.int .i64 ((fitE (makeC (someNet n 12 30)) r (l.getD i Act.none)).d)), .val (.int .i64 ((fitE (makeC (someNet n 12 30)) r (l.getD i Act.none)).h)), .val (.int .i64 ((fitE (makeC (someNet n 12 30)) r (l.getD i Act.none)).low))]), (54, .slc 26 0 1 (some 1)), (55, .slc 27 0 (es.length + 1) none), (56, .tup [.agg [.slc 28 0 ((moveE (makeC (someNet n 12 30)) r (fitE (makeC (someNet n 12 30)) r (l.getD i Act.none))).1.Res.length) none, .slc 29 0 ((moveE (makeC (someNet n 12 30)) r (fitE (makeC (someNet n 12 30)) r (l.getD i Act.none))).1.Ex.length) none, .slc 30 0 ((moveE (makeC (someNet n 12 30)) r (fitE (makeC (someNet n 12 30)) r (l.getD i Act.none))).1.H.length) none], .val (.int .i64 ((moveE (makeC (someNet n 12 30)) r (fitE (makeC (someNet n 12 30)) r (l.getD i Act.none))).2))]), (57, .agg [.val (.int .i64 ((makeC (someNet n 12 30)).N)), .val (.int .i64 ((makeC (someNet n 12 30)).S)), .val (.int .i64 ((makeC (someNet n 12 30)).T)), .slc 8 0 ((makeC (someNet n 12 30)).First.length) none, .slc 9 0 ((makeC (someNet n 12 30)).Head.length) none, .slc 10 0 ((makeC (someNet n 12 30)).Rev.length) none, .slc 11 0 ((makeC (someNet n 12 30)).Cap.length) none, .slc 12 0 ((makeC (someNet n 12 30)).Arc.length) none, .slc 13 0 ((makeC (someNet n 12 30)).Back.length) none]), (58, .agg [.slc 21 0 r.Res.length none, .slc 22 0 r.Ex.length none, .slc 23 0 r.H.length none]), (59, .agg [.val (.int .i64 ((fitE (makeC (someNet n 12 30)) r (l.getD i Act.none)).who)), .val (.int .u8 ((fitE (makeC (someNet n 12 30)) r (l.getD i Act.none)).what)), .val (.int .i64 ((fitE (makeC (someNet n 12 30)) r (l.getD i Act.none)).u)), .val (.int .i64 ((fitE (makeC (someNet n 12 30)) r (l.getD i Act.none)).arc)), .val (.int .i64 ((fitE (makeC (someNet n 12 30)) r (l.getD i Act.none)).d)), .val (.int .i64 ((fitE (makeC (someNet n 12 30)) r (l.getD i Act.none)).h)), .val (.int .i64 ((fitE (makeC (someNet n 12 30)) r (l.getD i Act.none)).low))]), (60, .tup [.agg [.slc 28 0 ((moveE (makeC (someNet n 12 30)) r (fitE (makeC (someNet n 12 30)) r (l.getD i Act.none))).1.Res.length) none, .slc 29 0 ((moveE (makeC (someNet n 12 30)) r (fitE (makeC (someNet n 12 30)) r (l.getD i Act.none))).1.Ex.length) none, .slc 30 0 ((moveE (makeC (someNet n 12 30)) r (fitE (makeC (someNet n 12 30)) r (l.getD i Act.none))).1.H.length) none], .val (.int .i64 ((moveE (makeC (someNet n 12 30)) r (fitE (makeC (someNet n 12 30)) r (l.getD i Act.none))).2))]), (61, .agg [.slc 28 0 ((moveE (makeC (someNet n 12 30)) r (fitE (makeC (someNet n 12 30)) r (l.getD i Act.none))).1.Res.length) none, .slc 29 0 ((moveE (makeC (someNet n 12 30)) r (fitE (makeC (someNet n 12 30)) r (l.getD i Act.none))).1.Ex.length) none, .slc 30 0 ((moveE (makeC (someNet n 12 30)) r (fitE (makeC (someNet n 12 30)) r (l.getD i Act.none))).1.H.length) none]), (62, .val (.int .i64 ((moveE (makeC (someNet n 12 30)) r (fitE (makeC (someNet n 12 30)) r (l.getD i Act.none))).2))), (63, .tup [.agg [.slc 21 0 r.Res.length none, .slc 22 0 r.Ex.length none, .slc 23 0 r.H.length none], .val (.int .i64 (legalE (makeC (someNet n 12 30)) r (fitE (makeC (someNet n 12 30)) r (l.getD i Act.none))))]), (64, .agg [.val (.int .i64 ((makeC (someNet n 12 30)).N)), .val (.int .i64 ((makeC (someNet n 12 30)).S)), .val (.int .i64 ((makeC (someNet n 12 30)).T)), .slc 8 0 ((makeC (someNet n 12 30)).First.length) none, .slc 9 0 ((makeC (someNet n 12 30)).Head.length) none, .slc 10 0 ((makeC (someNet n 12 30)).Rev.length) none, .slc 11 0 ((makeC (someNet n 12 30)).Cap.length) none, .slc 12 0 ((makeC (someNet n 12 30)).Arc.length) none, .slc 13 0 ((makeC (someNet n 12 30)).Back.length) none]), (65, .agg [.slc 21 0 r.Res.length none, .slc 22 0 r.Ex.length none, .slc 23 0 r.H.length none]), (66, .agg [.val (.int .i64 ((fitE (makeC (someNet n 12 30)) r (l.getD i Act.none)).who)), .val (.int .u8 ((fitE (makeC (someNet n 12 30)) r (l.getD i Act.none)).what)), .val (.int .i64 ((fitE (makeC (someNet n 12 30)) r (l.getD i Act.none)).u)), .val (.int .i64 ((fitE (makeC (someNet n 12 30)) r (l.getD i Act.none)).arc)), .val (.int .i64 ((fitE (makeC (someNet n 12 30)) r (l.getD i Act.none)).d)), .val (.int .i64 ((fitE (makeC (someNet n 12 30)) r (l.getD i Act.none)).h)), .val (.int .i64 ((fitE (makeC (someNet n 12 30)) r (l.getD i Act.none)).low))]), (67, .tup [.agg [.slc 21 0 r.Res.length none, .slc 22 0 r.Ex.length none, .slc 23 0 r.H.length none], .val (.int .i64 (legalE (makeC (someNet n 12 30)) r (fitE (makeC (someNet n 12 30)) r (l.getD i Act.none))))]), (68, .agg [.slc 21 0 r.Res.length none, .slc 22 0 r.Ex.length none, .slc 23 0 r.H.length none]), (69, .val (.int .i64 (legalE (makeC (someNet n 12 30)) r (fitE (makeC (someNet n 12 30)) r (l.getD i Act.none)))))] ⟨⟨_, rfl, rfl⟩, ⟨_, rfl, rfl⟩, ⟨_, rfl, rfl⟩, ⟨_, rfl, rfl⟩, ⟨_, rfl, rfl⟩, ⟨_, rfl, rfl⟩, ⟨_, rfl, rfl⟩, ⟨_, rfl, rfl⟩, ⟨_, rfl, rfl⟩, ⟨_, rfl, rfl⟩, ⟨_, rfl, rfl⟩, ⟨_, rfl, rfl⟩, ⟨_, rfl, rfl⟩, ⟨_, rfl, rfl⟩, ⟨_, rfl, rfl⟩, ⟨_, rfl, rfl⟩, ⟨_, rfl, rfl⟩, ⟨_, rfl, rfl⟩, ⟨_, rfl, rfl⟩, ⟨_, rfl, rfl⟩, ⟨_, rfl, rfl⟩, ⟨_, rfl, rfl⟩, ⟨_, rfl, rfl⟩, ⟨_, rfl, rfl⟩, ⟨_, rfl, rfl⟩, ⟨_, rfl, rfl⟩, ⟨_, rfl, rfl⟩, ⟨_, rfl, rfl⟩, ⟨_, rfl, rfl⟩, ⟨_, rfl, rfl⟩, ⟨_, rfl, rfl⟩, ⟨_, rfl, rfl⟩, ⟨_, rfl, rfl⟩, ⟨_, rfl, rfl⟩, ⟨_, rfl, rfl⟩, ⟨_, rfl, rfl⟩, ⟨_, rfl, rfl⟩, ⟨_, rfl, rfl⟩, trivial⟩ ?_
    refine w_seqB 106 ((((((moveE (makeC (someNet n 12 30)) r (fitE (makeC (someNet n 12 30)) r (l.getD i Act.none))).2 ≠ legalE (makeC (someNet n 12 30)) r (fitE (makeC (someNet n 12 30)) r (l.getD i Act.none)) ∨ ¬ (sameP ((moveE (makeC (someNet n 12 30)) r (fitE (makeC (someNet n 12 30)) r (l.getD i Act.none))).1) r)) ∨ legalE (makeC (someNet n 12 30)) r (fitE (makeC (someNet n 12 30)) r (l.getD i Act.none)) ≠ legalE (makeC (someNet n 12 30)) r (fitE (makeC (someNet n 12 30)) r (l.getD i Act.none))) ∨ ¬ (strictP (makeC (someNet n 12 30)) r (fitE (makeC (someNet n 12 30)) r (l.getD i Act.none)) ↔ strictP (makeC (someNet n 12 30)) r (fitE (makeC (someNet n 12 30)) r (l.getD i Act.none)))) ∨ ¬ (rightP (makeC (someNet n 12 30)) ((moveE (makeC (someNet n 12 30)) r (fitE (makeC (someNet n 12 30)) r (l.getD i Act.none))).1) ↔ rightP (makeC (someNet n 12 30)) ((moveE (makeC (someNet n 12 30)) r (fitE (makeC (someNet n 12 30)) r (l.getD i Act.none))).1)))) ?_ ?_
    · -- region 13
      refine w_draw mixed [0, 0, 3, 7, 15, 15, 63, 127, 255, 511, 1023, 1023, 1023, 8191, 1023, 32767, 65535, 131071, 262143, 262143, 262143, 2097151, 262143, 262143, 262143, 33554431, 67108863, 134217727, 268435455, 536870911, 536870911, 2147483647, 536870911, 536870911] [17179869183, 34359738367, 68719476735] (by kernel_rfl) (by kernel_rfl) rfl rfl rfl (hle hρ rfl) ?_
      refine ra_q (j := 0) rfl rfl rfl rfl (do_move rfl ⟨rfl, rfl⟩) (by rfl) ?_
      refine ra_q (j := 1) rfl rfl rfl rfl (do_move rfl ⟨rfl, rfl⟩) (by rfl) ?_
      refine ra_q (j := 2) rfl rfl rfl rfl (do_bin rfl rfl rfl ⟨rfl, rfl⟩) (by rfl) ?_
      refine ra_q (j := 3) rfl rfl rfl rfl (do_move rfl ⟨rfl, rfl⟩) (by rfl) ?_
      refine ra_case 73 rfl (fun g11 => ?_) (fun g11 => ?_)
      · have kg11 := g11
        try simp only [bs] at kg11
        refine ra_gf (j := 4) rfl rfl rfl rfl (by rw [g11]; decide) rfl rfl rfl ?_
        refine ra_gf (j := 5) rfl rfl rfl rfl (by rw [g11]; decide) rfl rfl rfl ?_
        refine ra_gf (j := 6) rfl rfl rfl rfl (by rw [g11]; decide) rfl rfl rfl ?_
        refine ra_gf (j := 7) rfl rfl rfl rfl (by rw [g11]; decide) rfl rfl rfl ?_
        refine ra_q (j := 8) rfl rfl rfl rfl (do_pick_t rfl g11 rfl ⟨rfl, rfl⟩) (by rfl) ?_
        refine ra_q (j := 9) rfl rfl rfl rfl (do_move rfl ⟨rfl, rfl⟩) (by rfl) ?_
        refine ra_gf (j := 10) rfl rfl rfl rfl (by decide) rfl rfl rfl ?_
        refine ra_gf (j := 11) rfl rfl rfl rfl (by decide) rfl rfl rfl ?_
        refine ra_gf (j := 12) rfl rfl rfl rfl (by decide) rfl rfl rfl ?_
        refine ra_gf (j := 13) rfl rfl rfl rfl (by decide) rfl rfl rfl ?_
        refine ra_gf (j := 14) rfl rfl rfl rfl (by decide) rfl rfl rfl ?_
        refine ra_gf (j := 15) rfl rfl rfl rfl (by decide) rfl rfl rfl ?_
        refine ra_q (j := 16) rfl rfl rfl rfl (do_pick_t rfl rfl rfl ⟨rfl, rfl⟩) (by rfl) ?_
        refine ra_q (j := 17) rfl rfl rfl rfl (do_move rfl ⟨rfl, rfl⟩) (by rfl) ?_
        refine ra_gf (j := 18) rfl rfl rfl rfl (by decide) rfl rfl rfl ?_
        refine ra_gf (j := 19) rfl rfl rfl rfl (by decide) rfl rfl rfl ?_
        refine ra_gf (j := 20) rfl rfl rfl rfl (by decide) rfl rfl rfl ?_
        refine ra_gf (j := 21) rfl rfl rfl rfl (by decide) rfl rfl rfl ?_
        refine ra_gf (j := 22) rfl rfl rfl rfl (by decide) rfl rfl rfl ?_
        refine ra_gf (j := 23) rfl rfl rfl rfl (by decide) rfl rfl rfl ?_
        refine ra_gf (j := 24) rfl rfl rfl rfl (by decide) rfl rfl rfl ?_
        refine ra_gf (j := 25) rfl rfl rfl rfl (by decide) rfl rfl rfl ?_
        refine ra_gf (j := 26) rfl rfl rfl rfl (by decide) rfl rfl rfl ?_
        refine ra_q (j := 27) rfl rfl rfl rfl (do_pick_t rfl rfl rfl ⟨rfl, rfl⟩) (by rfl) ?_
        refine ra_q (j := 28) rfl rfl rfl rfl (do_move rfl ⟨rfl, rfl⟩) (by rfl) ?_
        refine ra_gf (j := 29) rfl rfl rfl rfl (by decide) rfl rfl rfl ?_
        refine ra_gf (j := 30) rfl rfl rfl rfl (by decide) rfl rfl rfl ?_
        refine ra_gf (j := 31) rfl rfl rfl rfl (by decide) rfl rfl rfl ?_
        refine ra_gf (j := 32) rfl rfl rfl rfl (by decide) rfl rfl rfl ?_
        refine ra_gf (j := 33) rfl rfl rfl rfl (by decide) rfl rfl rfl ?_
        refine n_done ?_
        refine rw_gf 104 28 98 false rfl rfl rfl rfl rfl rfl (by decide) ?_
        refine rw_gf 105 28 98 false rfl rfl rfl rfl rfl rfl (by decide) ?_
        refine rw_t 106 rfl rfl rfl (do_pick_t rfl rfl rfl ?_)
        refine rw_nil ?_
        refine ⟨rfl, ⟨_, rfl, by first | (simp; done) | (simp only [bs]; omega) | (simp [*]; done) | (simp; omega) | (constructor <;> intro h <;> simp_all <;> omega)⟩, ?_⟩
        repeat (refine ⟨⟨_, rfl, rfl⟩, ?_⟩)
        exact trivial
      · have kg11 := g11
        try simp only [bs] at kg11
        refine ra_gt (j := 4) rfl rfl rfl rfl g11 rfl rfl rfl (n_load_boxagg [_, _, _] rfl rfl (Nat.le_of_ble_eq_true rfl) rfl ⟨rfl, rfl⟩) (by rfl) ?_
        refine ra_gt (j := 5) rfl rfl rfl rfl g11 rfl rfl rfl (n_load_boxagg [_, _, _] rfl rfl (Nat.le_of_ble_eq_true rfl) rfl ⟨rfl, rfl⟩) (by rfl) ?_
        refine ra_gt (j := 6) rfl rfl rfl rfl g11 rfl rfl rfl (do_callR (X' := .val (.bool (decide (sameP ((moveE (makeC (someNet n 12 30)) r (fitE (makeC (someNet n 12 30)) r (l.getD i Act.none))).1) r)))) rfl rfl (t_same (a := (moveE (makeC (someNet n 12 30)) r (fitE (makeC (someNet n 12 30)) r (l.getD i Act.none))).1) (b := r) (by omega)) [28, 29, 30, 21, 22, 23] ⟨.inr ⟨_, rfl, srv⟩, .inr ⟨_, rfl, srv⟩, .inr ⟨_, rfl, srv⟩, .inr ⟨_, rfl, srv⟩, .inr ⟨_, rfl, srv⟩, .inr ⟨_, rfl, srv⟩, trivial⟩ rfl rfl rfl ⟨rfl, rfl⟩) (by rfl) ?_
        refine ra_gt (j := 7) rfl rfl rfl rfl g11 rfl rfl rfl (do_not rfl ⟨rfl, rfl⟩) (by rfl) ?_
        refine ra_q (j := 8) rfl rfl rfl rfl (do_pick_f rfl g11 rfl ⟨rfl, rfl⟩) (by rfl) ?_
        refine ra_q (j := 9) rfl rfl rfl rfl (do_move rfl ⟨rfl, rfl⟩) (by rfl) ?_
        refine ra_case 79 rfl (fun g12 => ?_) (fun g12 => ?_)
        · have kg12 := g12
          try simp only [bs] at kg12
          refine ra_gf (j := 10) rfl rfl rfl rfl (by rw [g12]; decide) rfl rfl rfl ?_
          refine ra_gf (j := 11) rfl rfl rfl rfl (by rw [g12]; decide) rfl rfl rfl ?_
          refine ra_gf (j := 12) rfl rfl rfl rfl (by rw [g12]; decide) rfl rfl rfl ?_
          refine ra_gf (j := 13) rfl rfl rfl rfl (by rw [g12]; decide) rfl rfl rfl ?_
          refine ra_gf (j := 14) rfl rfl rfl rfl (by rw [g12]; decide) rfl rfl rfl ?_
          refine ra_gf (j := 15) rfl rfl rfl rfl (by rw [g12]; decide) rfl rfl rfl ?_
          refine ra_q (j := 16) rfl rfl rfl rfl (do_pick_t rfl g12 rfl ⟨rfl, rfl⟩) (by rfl) ?_
          refine ra_q (j := 17) rfl rfl rfl rfl (do_move rfl ⟨rfl, rfl⟩) (by rfl) ?_
          refine ra_gf (j := 18) rfl rfl rfl rfl (by decide) rfl rfl rfl ?_
          refine ra_gf (j := 19) rfl rfl rfl rfl (by decide) rfl rfl rfl ?_
          refine ra_gf (j := 20) rfl rfl rfl rfl (by decide) rfl rfl rfl ?_
          refine ra_gf (j := 21) rfl rfl rfl rfl (by decide) rfl rfl rfl ?_
          refine ra_gf (j := 22) rfl rfl rfl rfl (by decide) rfl rfl rfl ?_
          refine ra_gf (j := 23) rfl rfl rfl rfl (by decide) rfl rfl rfl ?_
          refine ra_gf (j := 24) rfl rfl rfl rfl (by decide) rfl rfl rfl ?_
          refine ra_gf (j := 25) rfl rfl rfl rfl (by decide) rfl rfl rfl ?_
          refine ra_gf (j := 26) rfl rfl rfl rfl (by decide) rfl rfl rfl ?_
          refine ra_q (j := 27) rfl rfl rfl rfl (do_pick_t rfl rfl rfl ⟨rfl, rfl⟩) (by rfl) ?_
          refine ra_q (j := 28) rfl rfl rfl rfl (do_move rfl ⟨rfl, rfl⟩) (by rfl) ?_
          refine ra_gf (j := 29) rfl rfl rfl rfl (by decide) rfl rfl rfl ?_
          refine ra_gf (j := 30) rfl rfl rfl rfl (by decide) rfl rfl rfl ?_
          refine ra_gf (j := 31) rfl rfl rfl rfl (by decide) rfl rfl rfl ?_
          refine ra_gf (j := 32) rfl rfl rfl rfl (by decide) rfl rfl rfl ?_
          refine ra_gf (j := 33) rfl rfl rfl rfl (by decide) rfl rfl rfl ?_
          refine n_done ?_
          refine rw_gf 104 28 98 false rfl rfl rfl rfl rfl rfl (by decide) ?_
          refine rw_gf 105 28 98 false rfl rfl rfl rfl rfl rfl (by decide) ?_
          refine rw_t 106 rfl rfl rfl (do_pick_t rfl rfl rfl ?_)
          refine rw_nil ?_
          refine ⟨rfl, ⟨_, rfl, by first | (simp; done) | (simp only [bs]; omega) | (simp [*]; done) | (simp; omega) | (constructor <;> intro h <;> simp_all <;> omega)⟩, ?_⟩
          repeat (refine ⟨⟨_, rfl, rfl⟩, ?_⟩)
          exact trivial
        · have kg12 := g12
          try simp only [bs] at kg12
          refine ra_gt (j := 10) rfl rfl rfl rfl g12 rfl rfl rfl (n_load_boxagg [_, _, _, _, _, _, _, _, _] rfl rfl (Nat.le_of_ble_eq_true rfl) rfl ⟨rfl, rfl⟩) (by rfl) ?_
          refine ra_gt (j := 11) rfl rfl rfl rfl g12 rfl rfl rfl (n_load_boxagg [_, _, _] rfl rfl (Nat.le_of_ble_eq_true rfl) rfl ⟨rfl, rfl⟩) (by rfl) ?_
          refine ra_gt (j := 12) rfl rfl rfl rfl g12 rfl rfl rfl (n_load_boxagg [_, _, _, _, _, _, _] rfl rfl (Nat.le_of_ble_eq_true rfl) rfl ⟨rfl, rfl⟩) (by rfl) ?_
          refine ra_gt (j := 13) rfl rfl rfl rfl g12 rfl rfl rfl (do_callR (X' := .val (.int .i64 (legalE (makeC (someNet n 12 30)) r (fitE (makeC (someNet n 12 30)) r (l.getD i Act.none))))) rfl rfl (t_Legal (c := (makeC (someNet n 12 30))) (p := r) (e := (fitE (makeC (someNet n 12 30)) r (l.getD i Act.none))) (hg.toCsrOK) (right_len g2) (hfe)) [8, 9, 10, 11, 12, 13, 21, 22, 23] ⟨.inr ⟨_, rfl, srv⟩, .inr ⟨_, rfl, srv⟩, .inr ⟨_, rfl, srv⟩, .inr ⟨_, rfl, srv⟩, .inr ⟨_, rfl, srv⟩, .inr ⟨_, rfl, srv⟩, .inr ⟨_, rfl, srv⟩, .inr ⟨_, rfl, srv⟩, .inr ⟨_, rfl, srv⟩, trivial⟩ rfl rfl rfl ⟨rfl, rfl⟩) (by rfl) ?_
          refine ra_gt (j := 14) rfl rfl rfl rfl g12 rfl rfl rfl (do_move rfl ⟨rfl, rfl⟩) (by rfl) ?_
          refine ra_gt (j := 15) rfl rfl rfl rfl g12 rfl rfl rfl (do_bin rfl rfl rfl ⟨rfl, rfl⟩) (by rfl) ?_
          refine ra_q (j := 16) rfl rfl rfl rfl (do_pick_f rfl g12 rfl ⟨rfl, rfl⟩) (by rfl) ?_
          refine ra_q (j := 17) rfl rfl rfl rfl (do_move rfl ⟨rfl, rfl⟩) (by rfl) ?_
          refine ra_case 87 rfl (fun g13 => ?_) (fun g13 => ?_)
          · have kg13 := g13
            try simp only [bs] at kg13
            refine ra_gf (j := 18) rfl rfl rfl rfl (by rw [g13]; decide) rfl rfl rfl ?_
            refine ra_gf (j := 19) rfl rfl rfl rfl (by rw [g13]; decide) rfl rfl rfl ?_
            refine ra_gf (j := 20) rfl rfl rfl rfl (by rw [g13]; decide) rfl rfl rfl ?_
            refine ra_gf (j := 21) rfl rfl rfl rfl (by rw [g13]; decide) rfl rfl rfl ?_
            refine ra_gf (j := 22) rfl rfl rfl rfl (by rw [g13]; decide) rfl rfl rfl ?_
            refine ra_gf (j := 23) rfl rfl rfl rfl (by rw [g13]; decide) rfl rfl rfl ?_
            refine ra_gf (j := 24) rfl rfl rfl rfl (by rw [g13]; decide) rfl rfl rfl ?_
            refine ra_gf (j := 25) rfl rfl rfl rfl (by rw [g13]; decide) rfl rfl rfl ?_
            refine ra_gf (j := 26) rfl rfl rfl rfl (by rw [g13]; decide) rfl rfl rfl ?_
            refine ra_q (j := 27) rfl rfl rfl rfl (do_pick_t rfl g13 rfl ⟨rfl, rfl⟩) (by rfl) ?_
            refine ra_q (j := 28) rfl rfl rfl rfl (do_move rfl ⟨rfl, rfl⟩) (by rfl) ?_
            refine ra_gf (j := 29) rfl rfl rfl rfl (by decide) rfl rfl rfl ?_
            refine ra_gf (j := 30) rfl rfl rfl rfl (by decide) rfl rfl rfl ?_
            refine ra_gf (j := 31) rfl rfl rfl rfl (by decide) rfl rfl rfl ?_
            refine ra_gf (j := 32) rfl rfl rfl rfl (by decide) rfl rfl rfl ?_
            refine ra_gf (j := 33) rfl rfl rfl rfl (by decide) rfl rfl rfl ?_
            refine n_done ?_
            refine rw_gf 104 28 98 false rfl rfl rfl rfl rfl rfl (by decide) ?_
            refine rw_gf 105 28 98 false rfl rfl rfl rfl rfl rfl (by decide) ?_
            refine rw_t 106 rfl rfl rfl (do_pick_t rfl rfl rfl ?_)
            refine rw_nil ?_
            refine ⟨rfl, ⟨_, rfl, by first | (simp; done) | (simp only [bs]; omega) | (simp [*]; done) | (simp; omega) | (constructor <;> intro h <;> simp_all <;> omega)⟩, ?_⟩
            repeat (refine ⟨⟨_, rfl, rfl⟩, ?_⟩)
            exact trivial
          · have kg13 := g13
            try simp only [bs] at kg13
            refine ra_gt (j := 18) rfl rfl rfl rfl g13 rfl rfl rfl (n_load_boxagg [_, _, _, _, _, _, _, _, _] rfl rfl (Nat.le_of_ble_eq_true rfl) rfl ⟨rfl, rfl⟩) (by rfl) ?_
            refine ra_gt (j := 19) rfl rfl rfl rfl g13 rfl rfl rfl (n_load_boxagg [_, _, _] rfl rfl (Nat.le_of_ble_eq_true rfl) rfl ⟨rfl, rfl⟩) (by rfl) ?_
            refine ra_gt (j := 20) rfl rfl rfl rfl g13 rfl rfl rfl (n_load_boxagg [_, _, _, _, _, _, _] rfl rfl (Nat.le_of_ble_eq_true rfl) rfl ⟨rfl, rfl⟩) (by rfl) ?_
            refine ra_gt (j := 21) rfl rfl rfl rfl g13 rfl rfl rfl (do_callR (X' := .val (.bool (decide (strictP (makeC (someNet n 12 30)) r (fitE (makeC (someNet n 12 30)) r (l.getD i Act.none)))))) rfl rfl (t_Strict (c := (makeC (someNet n 12 30))) (p := r) (e := (fitE (makeC (someNet n 12 30)) r (l.getD i Act.none))) (hg) (g2) (hfe)) [8, 9, 10, 11, 12, 13, 21, 22, 23] ⟨.inr ⟨_, rfl, srv⟩, .inr ⟨_, rfl, srv⟩, .inr ⟨_, rfl, srv⟩, .inr ⟨_, rfl, srv⟩, .inr ⟨_, rfl, srv⟩, .inr ⟨_, rfl, srv⟩, .inr ⟨_, rfl, srv⟩, .inr ⟨_, rfl, srv⟩, .inr ⟨_, rfl, srv⟩, trivial⟩ rfl rfl rfl ⟨rfl, rfl⟩) (by rfl) ?_
            refine ra_gt (j := 22) rfl rfl rfl rfl g13 rfl rfl rfl (n_load_boxagg [_, _, _, _, _, _, _, _, _] rfl rfl (Nat.le_of_ble_eq_true rfl) rfl ⟨rfl, rfl⟩) (by rfl) ?_
            refine ra_gt (j := 23) rfl rfl rfl rfl g13 rfl rfl rfl (n_load_boxagg [_, _, _] rfl rfl (Nat.le_of_ble_eq_true rfl) rfl ⟨rfl, rfl⟩) (by rfl) ?_
            refine ra_gt (j := 24) rfl rfl rfl rfl g13 rfl rfl rfl (n_load_boxagg [_, _, _, _, _, _, _] rfl rfl (Nat.le_of_ble_eq_true rfl) rfl ⟨rfl, rfl⟩) (by rfl) ?_
            refine ra_gt (j := 25) rfl rfl rfl rfl g13 rfl rfl rfl (do_callR (X' := .val (.bool (decide (strictP (makeC (someNet n 12 30)) r (fitE (makeC (someNet n 12 30)) r (l.getD i Act.none)))))) rfl rfl (t_rStrict (c := (makeC (someNet n 12 30))) (p := r) (e := (fitE (makeC (someNet n 12 30)) r (l.getD i Act.none))) (hg) (g2) (hfe)) [8, 9, 10, 11, 12, 13, 21, 22, 23] ⟨.inr ⟨_, rfl, srv⟩, .inr ⟨_, rfl, srv⟩, .inr ⟨_, rfl, srv⟩, .inr ⟨_, rfl, srv⟩, .inr ⟨_, rfl, srv⟩, .inr ⟨_, rfl, srv⟩, .inr ⟨_, rfl, srv⟩, .inr ⟨_, rfl, srv⟩, .inr ⟨_, rfl, srv⟩, trivial⟩ rfl rfl rfl ⟨rfl, rfl⟩) (by rfl) ?_
            refine ra_gt (j := 26) rfl rfl rfl rfl g13 rfl rfl rfl (do_neB rfl rfl ⟨rfl, rfl⟩) (by rfl) ?_
            refine ra_q (j := 27) rfl rfl rfl rfl (do_pick_f rfl g13 rfl ⟨rfl, rfl⟩) (by rfl) ?_
            refine ra_q (j := 28) rfl rfl rfl rfl (do_move rfl ⟨rfl, rfl⟩) (by rfl) ?_
            refine ra_case 98 rfl (fun g14 => ?_) (fun g14 => ?_)
            · have kg14 := g14
              try simp only [bs] at kg14
              refine ra_gf (j := 29) rfl rfl rfl rfl (by rw [g14]; decide) rfl rfl rfl ?_
              refine ra_gf (j := 30) rfl rfl rfl rfl (by rw [g14]; decide) rfl rfl rfl ?_
              refine ra_gf (j := 31) rfl rfl rfl rfl (by rw [g14]; decide) rfl rfl rfl ?_
              refine ra_gf (j := 32) rfl rfl rfl rfl (by rw [g14]; decide) rfl rfl rfl ?_
              refine ra_gf (j := 33) rfl rfl rfl rfl (by rw [g14]; decide) rfl rfl rfl ?_
              refine n_done ?_
              refine rw_gf 104 28 98 false rfl rfl rfl rfl rfl rfl (by rw [g14]; decide) ?_
              refine rw_gf 105 28 98 false rfl rfl rfl rfl rfl rfl (by rw [g14]; decide) ?_
              refine rw_t 106 rfl rfl rfl (do_pick_t rfl g14 rfl ?_)
              refine rw_nil ?_
              refine ⟨rfl, ⟨_, rfl, by first | (simp; done) | (simp only [bs]; omega) | (simp [*]; done) | (simp; omega) | (constructor <;> intro h <;> simp_all <;> omega)⟩, ?_⟩
              repeat (refine ⟨⟨_, rfl, rfl⟩, ?_⟩)
              exact trivial
            · have kg14 := g14
              try simp only [bs] at kg14
              refine ra_gt (j := 29) rfl rfl rfl rfl g14 rfl rfl rfl (n_load_boxagg [_, _, _, _, _, _, _, _, _] rfl rfl (Nat.le_of_ble_eq_true rfl) rfl ⟨rfl, rfl⟩) (by rfl) ?_
              refine ra_gt (j := 30) rfl rfl rfl rfl g14 rfl rfl rfl (n_load_boxagg [_, _, _] rfl rfl (Nat.le_of_ble_eq_true rfl) rfl ⟨rfl, rfl⟩) (by rfl) ?_
              refine ra_gt (j := 31) rfl rfl rfl rfl g14 rfl rfl rfl (do_callR (X' := .val (.bool (decide (rightP (makeC (someNet n 12 30)) ((moveE (makeC (someNet n 12 30)) r (fitE (makeC (someNet n 12 30)) r (l.getD i Act.none))).1))))) rfl rfl (t_Right (c := (makeC (someNet n 12 30))) (p := (moveE (makeC (someNet n 12 30)) r (fitE (makeC (someNet n 12 30)) r (l.getD i Act.none))).1) (hg.toCsrT) (hmi)) [8, 9, 10, 11, 12, 13, 28, 29, 30] ⟨.inr ⟨_, rfl, srv⟩, .inr ⟨_, rfl, srv⟩, .inr ⟨_, rfl, srv⟩, .inr ⟨_, rfl, srv⟩, .inr ⟨_, rfl, srv⟩, .inr ⟨_, rfl, srv⟩, .inr ⟨_, rfl, srv⟩, .inr ⟨_, rfl, srv⟩, .inr ⟨_, rfl, srv⟩, trivial⟩ rfl rfl rfl ⟨rfl, rfl⟩) (by rfl) ?_
              refine ra_gt (j := 32) rfl rfl rfl rfl g14 rfl rfl rfl (n_load_boxagg [_, _, _, _, _, _, _, _, _] rfl rfl (Nat.le_of_ble_eq_true rfl) rfl ⟨rfl, rfl⟩) (by rfl) ?_
              refine ra_gt (j := 33) rfl rfl rfl rfl g14 rfl rfl rfl (n_load_boxagg [_, _, _] rfl rfl (Nat.le_of_ble_eq_true rfl) rfl ⟨rfl, rfl⟩) (by rfl) ?_
              refine n_done ?_
              refine rw_gt 104 28 98 false rfl rfl rfl rfl rfl rfl g14 (do_callR (X' := .val (.bool (decide (rightP (makeC (someNet n 12 30)) ((moveE (makeC (someNet n 12 30)) r (fitE (makeC (someNet n 12 30)) r (l.getD i Act.none))).1))))) rfl rfl (t_rRight (c := (makeC (someNet n 12 30))) (p := (moveE (makeC (someNet n 12 30)) r (fitE (makeC (someNet n 12 30)) r (l.getD i Act.none))).1) (hg.toCsrT)) [8, 9, 10, 11, 12, 13, 28, 29, 30] ⟨.inr ⟨_, rfl, srv⟩, .inr ⟨_, rfl, srv⟩, .inr ⟨_, rfl, srv⟩, .inr ⟨_, rfl, srv⟩, .inr ⟨_, rfl, srv⟩, .inr ⟨_, rfl, srv⟩, .inr ⟨_, rfl, srv⟩, .inr ⟨_, rfl, srv⟩, .inr ⟨_, rfl, srv⟩, trivial⟩ rfl rfl rfl ?_)
              refine rw_gt 105 28 98 false rfl rfl rfl rfl rfl rfl g14 (do_neB rfl rfl ?_)
              refine rw_t 106 rfl rfl rfl (do_pick_f rfl g14 rfl ?_)
              refine rw_nil ?_
              refine ⟨rfl, ⟨_, rfl, by first | (simp; done) | (simp only [bs]; omega) | (simp [*]; done) | (simp; omega) | (constructor <;> intro h <;> simp_all <;> omega)⟩, ?_⟩
              repeat (refine ⟨⟨_, rfl, rfl⟩, ?_⟩)
              exact trivial
    intro b4 hb4
    refine w_condP hb4 rfl (fun hc4 => ?_) (fun hc4 => ?_)
    · exfalso; rcases hc4 with (((q | q) | q) | q) | q; exact q (by rw [hmv]); exact q (by rw [hmv]; exact ⟨rfl, rfl, rfl⟩); exact q rfl; exact q Iff.rfl; exact q Iff.rfl
    refine w_skip ?_
    -- region 15
    refine w_region ?_
    refine rw_t 107 rfl rfl rfl (n_load_boxagg [_, _, _] rfl rfl (Nat.le_of_ble_eq_true rfl) rfl ?_)
    refine rw_u rfl rfl (n_store_whole rfl rfl rfl rfl rfl rfl ?_)
    refine rw_nil ?_
    -- region 16
    refine w_region ?_
    refine rw_t 108 rfl rfl rfl (do_add rfl rfl (by omega) ?_)
    refine rw_t 44 rfl rfl rfl (do_move rfl ?_)
    refine rw_nil ?_
    refine ⟨(i + 1, (moveE (makeC (someNet n 12 30)) r (fitE (makeC (someNet n 12 30)) r (l.getD i Act.none))).1, es ++ [(fitE (makeC (someNet n 12 30)) r (l.getD i Act.none))]), [0, 1, 2, 3, 4, 5, 6, 7, 8, 9, 10, 11, 12, 13, 14, 15, 16, 17, 18, 19, 27, 28, 29, 30], by dsimp only; omega, ⟨by dsimp only; omega, hmr, fun z hz => by simp only [List.mem_append, List.mem_singleton] at hz; rcases hz with q | q; exact g3 z q; rw [q]; exact hfe, by simp only [List.length_append, List.length_singleton]; omega⟩, ⟨.inr ⟨_, rfl, .inl rfl⟩, .inr ⟨_, rfl, .inl rfl⟩, .inr ⟨_, rfl, .inl rfl⟩, .inr ⟨_, rfl, .inl rfl⟩, .inr ⟨_, rfl, .inl rfl⟩, .inr ⟨_, rfl, .inl rfl⟩, .inr ⟨_, rfl, .inl rfl⟩, .inr ⟨_, rfl, .inl rfl⟩, .inr ⟨_, rfl, .inl rfl⟩, .inr ⟨_, rfl, .inl rfl⟩, .inr ⟨_, rfl, .inl rfl⟩, .inr ⟨_, rfl, .inl rfl⟩, .inr ⟨_, rfl, .inl rfl⟩, .inr ⟨_, rfl, .inl rfl⟩, .inr ⟨_, rfl, .inl rfl⟩, .inr ⟨_, rfl, .inl rfl⟩, .inr ⟨_, rfl, .inl rfl⟩, .inr ⟨_, rfl, .inl rfl⟩, .inr ⟨_, rfl, .inl rfl⟩, .inr ⟨_, rfl, .inl rfl⟩, .inr ⟨_, rfl, .inl rfl⟩, .inr ⟨_, rfl, srv⟩, .inr ⟨_, rfl, srv⟩, .inr ⟨_, rfl, srv⟩, trivial⟩, rfl, pre_ok rfl, ⟨⟨_, rfl, rfl⟩, ⟨_, rfl, rfl⟩, ⟨_, rfl, (congrArg (fun n => SV.slc 27 0 n none) (by simp : es.length + 1 = (es ++ [(fitE (makeC (someNet n 12 30)) r (l.getD i Act.none))]).length)).trans rfl⟩, ⟨_, rfl, rfl⟩, ⟨_, rfl, rfl⟩, ⟨_, rfl, rfl⟩, ⟨_, rfl, rfl⟩, trivial⟩⟩
end Go.Proofs
