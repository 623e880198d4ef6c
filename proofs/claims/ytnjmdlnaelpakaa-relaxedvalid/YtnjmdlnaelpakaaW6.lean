/- RelaxedValid answers true for every input that can be read, and leaves the input as it was. Part 6. -/
import Derived.Test.YtnjmdlnaelpakaaW5
set_option linter.unusedVariables false
set_option linter.unusedSimpArgs false
set_option linter.unusedVariables false
namespace Go.Proofs
open Go Go.Sx Go.RowKit
-- f6 "acequia/acequialaw09.RelaxedValid"
set_option maxHeartbeats 8000000 in
set_option synthInstance.maxHeartbeats 400000 in
set_option synthInstance.maxSize 2000 in
theorem t_rValid (n : Net) (hn : In64 n.N ∧ In64 n.S ∧ In64 n.T) (hna : ∀ a ∈ n.arcs, In64 a.frm ∧ In64 a.to ∧ In64 a.cap) (hnl : n.arcs.length ≤ 9223372036854775807) (l : List Act) (hl : ∀ x ∈ l, EvIn x.e) (hll : l.length ≤ 9223372036854775807) : Tri Try.prog 6 [.agg [.val (.int .i64 n.N), .val (.int .i64 n.S), .val (.int .i64 n.T), .slc 0 0 n.arcs.length none], .slc 1 0 l.length none] [SO.arcs false n.arcs, SO.acts false l] (fun s H => s = .val (.bool true) ∧ H = [SO.arcs false n.arcs, SO.acts false l]) := by
  refine tri_of_w (fn := Try.f6) Try.func6 rfl (by simp [Try.f6]) ?_
  intro ρ w hρ
  refine w_seq ?_
  -- region 0
  refine w_region ?_
  refine rw_t 2 rfl rfl rfl (n_box_agg (n := 2) rfl rfl ?_)
  refine rw_t 4 rfl rfl rfl (do_assign rfl ?_)
  refine rw_nil ?_
  refine w_seq ?_
  have hsm : Small (someNet n 12 30) := some_small n (by omega) (by omega) (by decide) hn hna
  have hg := make_g hsm
  have hb := beg_right hsm
  have hcn : (makeC (someNet n 12 30)).N = (someNet n 12 30).N := rfl
  have hhl := hg.small
  have hN := hg.n
  have hSS := hg.s
  have hTT := hg.t
  -- region 1
  refine w_region ?_
  refine rw_t 13 rfl rfl rfl (n_load_boxagg [_, _, _, _] rfl rfl (Nat.le_of_ble_eq_true rfl) rfl ?_)
  refine rw_t 14 rfl rfl rfl (n_callN (X' := .agg [.val (.int .i64 ((someNet n 12 30).N)), .val (.int .i64 ((someNet n 12 30).S)), .val (.int .i64 ((someNet n 12 30).T)), .slc 3 0 ((someNet n 12 30).arcs.length) none]) (N' := [SO.arcs true ((someNet n 12 30).arcs)]) rfl rfl (t_Some (n := n) (va := 12) (ar := 30) (by omega) (by omega) (fun a ha => (hna a ha).2.2) (hnl)) [0] ⟨.inr ⟨_, rfl, srv⟩, trivial⟩ rfl rfl rfl rfl rfl ?_)
  refine rw_t 15 rfl rfl rfl (n_callN (X' := .tup [.agg [.val (.int .i64 ((makeC (someNet n 12 30)).N)), .val (.int .i64 ((makeC (someNet n 12 30)).S)), .val (.int .i64 ((makeC (someNet n 12 30)).T)), .slc 4 0 ((makeC (someNet n 12 30)).First.length) none, .slc 5 0 ((makeC (someNet n 12 30)).Head.length) none, .slc 6 0 ((makeC (someNet n 12 30)).Rev.length) none, .slc 7 0 ((makeC (someNet n 12 30)).Cap.length) none, .slc 8 0 ((makeC (someNet n 12 30)).Arc.length) none, .slc 9 0 ((makeC (someNet n 12 30)).Back.length) none], .agg [.slc 10 0 ((begP (someNet n 12 30)).Res.length) none, .slc 11 0 ((begP (someNet n 12 30)).Ex.length) none, .slc 12 0 ((begP (someNet n 12 30)).H.length) none]]) (N' := [SO.ints true .i64 ((makeC (someNet n 12 30)).First), SO.ints true .i64 ((makeC (someNet n 12 30)).Head), SO.ints true .i64 ((makeC (someNet n 12 30)).Rev), SO.ints true .i64 ((makeC (someNet n 12 30)).Cap), SO.ints true .i64 ((makeC (someNet n 12 30)).Arc), SO.bools true ((makeC (someNet n 12 30)).Back), SO.ints true .i64 ((begP (someNet n 12 30)).Res), SO.ints true .i64 ((begP (someNet n 12 30)).Ex), SO.ints true .i64 ((begP (someNet n 12 30)).H)]) rfl rfl (t_begun (n := (someNet n 12 30)) (hsm.toNetOK) (hsm.sz)) [3] ⟨.inr ⟨_, rfl, srv⟩, trivial⟩ rfl rfl rfl rfl rfl ?_)
  refine rw_t 12 rfl rfl rfl (do_move rfl ?_)
  refine rw_t 16 rfl rfl rfl (do_extract rfl rfl ?_)
  refine rw_t 17 rfl rfl rfl (do_extract rfl rfl ?_)
  refine rw_t 5 rfl rfl rfl (n_alloc (n := 13) rfl ?_)
  refine rw_t 6 rfl rfl rfl (n_alloc (n := 14) rfl ?_)
  refine rw_u rfl rfl (n_store_whole rfl rfl rfl rfl rfl rfl ?_)
  refine rw_u rfl rfl (n_store_whole rfl rfl rfl rfl rfl rfl ?_)
  refine rw_nil ?_
  refine w_seq ?_
  refine w_seq ?_
  have hvb := valid_beg hsm
  have hb1 := hb.1.1
  have hb2 := hb.1.2.2
  -- region 2
  refine w_region ?_
  refine rw_t 18 rfl rfl rfl (n_load_boxagg [_, _, _, _, _, _, _, _, _] rfl rfl (Nat.le_of_ble_eq_true rfl) rfl ?_)
  refine rw_t 19 rfl rfl rfl (do_fieldaddr rfl ?_)
  refine rw_t 20 rfl rfl rfl (do_load_box rfl rfl rfl ?_)
  refine rw_t 21 rfl rfl rfl (do_fieldaddr rfl ?_)
  refine rw_t 22 rfl rfl rfl (do_load_box rfl rfl rfl ?_)
  refine rw_t 23 rfl rfl rfl (do_callR (X' := .val (.bool (decide (validP (makeC (someNet n 12 30)) ((begP (someNet n 12 30)).Res) ((begP (someNet n 12 30)).H))))) rfl rfl (t_Valid (c := (makeC (someNet n 12 30))) (f := (begP (someNet n 12 30)).Res) (hh := (begP (someNet n 12 30)).H) (hg.toCsrT) (by omega) (by omega)) [4, 5, 6, 7, 8, 9, 10, 12] ⟨.inr ⟨_, rfl, srv⟩, .inr ⟨_, rfl, srv⟩, .inr ⟨_, rfl, srv⟩, .inr ⟨_, rfl, srv⟩, .inr ⟨_, rfl, srv⟩, .inr ⟨_, rfl, srv⟩, .inr ⟨_, rfl, srv⟩, .inr ⟨_, rfl, srv⟩, trivial⟩ rfl rfl rfl ?_)
  refine rw_t 24 rfl rfl rfl (do_not rfl ?_)
  refine rw_nil ?_
  refine w_cond rfl (fun hc1 => ?_) (fun hc1 => ?_)
  · exfalso; simp [hvb] at hc1
  refine w_skip ?_
  refine w_seq ?_
  refine w_seq ?_
  -- region 4
  refine w_region ?_
  refine rw_t 25 rfl rfl rfl (do_move rfl ?_)
  refine rw_t 26 rfl rfl rfl (do_move rfl ?_)
  refine rw_t 27 rfl rfl rfl (do_len rfl ?_)
  refine rw_t 28 rfl rfl rfl (do_min rfl rfl ?_)
  refine rw_t 29 rfl rfl rfl (do_slice rfl rfl rfl rfl rfl (by omega) (by omega) (by omega) ?_)
  refine rw_as (.slc 1 0 (min l.length 60) none) (slc_eq rfl (by split <;> omega)) ?_
  refine rw_t 30 rfl rfl rfl (do_len rfl ?_)
  refine rw_t 31 rfl rfl rfl (do_move rfl ?_)
  refine rw_nil ?_
  refine w_block ?_
  refine w_loopS (ι := Nat × Pre) (fun q => [(5, .ptr 13 0 0), (6, .ptr 14 0 0), (29, .slc 1 0 (min l.length 60) none), (30, .val (.int .i64 (((min l.length 60) : Nat) : Int))), (31, .val (.int .i64 ((q.1 : Nat) : Int)))]) (fun q => [SO.arcs false n.arcs, SO.acts false l, .box [.val (.int .i64 n.N), .val (.int .i64 n.S), .val (.int .i64 n.T), .slc 0 0 n.arcs.length none], SO.arcs true ((someNet n 12 30).arcs), SO.ints true .i64 ((makeC (someNet n 12 30)).First), SO.ints true .i64 ((makeC (someNet n 12 30)).Head), SO.ints true .i64 ((makeC (someNet n 12 30)).Rev), SO.ints true .i64 ((makeC (someNet n 12 30)).Cap), SO.ints true .i64 ((makeC (someNet n 12 30)).Arc), SO.bools true ((makeC (someNet n 12 30)).Back), SO.ints true .i64 q.2.Res, SO.ints true .i64 q.2.Ex, SO.ints true .i64 q.2.H, .box [.val (.int .i64 ((makeC (someNet n 12 30)).N)), .val (.int .i64 ((makeC (someNet n 12 30)).S)), .val (.int .i64 ((makeC (someNet n 12 30)).T)), .slc 4 0 ((makeC (someNet n 12 30)).First.length) none, .slc 5 0 ((makeC (someNet n 12 30)).Head.length) none, .slc 6 0 ((makeC (someNet n 12 30)).Rev.length) none, .slc 7 0 ((makeC (someNet n 12 30)).Cap.length) none, .slc 8 0 ((makeC (someNet n 12 30)).Arc.length) none, .slc 9 0 ((makeC (someNet n 12 30)).Back.length) none], .box [.slc 10 0 q.2.Res.length none, .slc 11 0 q.2.Ex.length none, .slc 12 0 q.2.H.length none]]) (fun q => min l.length 60 - q.1) (fun q => q.1 ≤ min l.length 60 ∧ rightP (makeC (someNet n 12 30)) q.2 ∧ validP (makeC (someNet n 12 30)) q.2.Res q.2.H) ((0, begP (someNet n 12 30))) [0, 1, 2, 3, 4, 5, 6, 7, 8, 9, 10, 11, 12, 13, 14] (⟨by simp, hb, hvb⟩) ⟨.inr ⟨_, rfl, .inl rfl⟩, .inr ⟨_, rfl, .inl rfl⟩, .inr ⟨_, rfl, .inl rfl⟩, .inr ⟨_, rfl, .inl rfl⟩, .inr ⟨_, rfl, .inl rfl⟩, .inr ⟨_, rfl, .inl rfl⟩, .inr ⟨_, rfl, .inl rfl⟩, .inr ⟨_, rfl, .inl rfl⟩, .inr ⟨_, rfl, .inl rfl⟩, .inr ⟨_, rfl, .inl rfl⟩, .inr ⟨_, rfl, .inl rfl⟩, .inr ⟨_, rfl, .inl rfl⟩, .inr ⟨_, rfl, .inl rfl⟩, .inr ⟨_, rfl, .inl rfl⟩, .inr ⟨_, rfl, .inl rfl⟩, trivial⟩ rfl (pre_ok rfl) hρ ⟨⟨_, rfl, rfl⟩, ⟨_, rfl, rfl⟩, ⟨_, rfl, rfl⟩, ⟨_, rfl, rfl⟩, ⟨_, rfl, rfl⟩, trivial⟩ ?_
  rintro ⟨i, r⟩ ⟨g1, g2, g3⟩
  dsimp only at g1 g2 g3 ⊢
  refine w_seq ?_
  -- region 5
  refine w_region ?_
  refine rw_t 32 rfl rfl rfl (do_bin rfl rfl rfl ?_)
  refine rw_nil ?_
  refine w_seq ?_
  refine w_cond rfl (fun hc2 => ?_) (fun hc2 => ?_)
  all_goals try simp only [bs] at hc2
  rotate_left
  · refine w_exit ?_ -- exit 0
    refine w_seq ?_
    -- region 14
    refine w_region ?_
    refine rw_t 76 rfl rfl rfl (do_callR (X' := .val (.bool true)) rfl rfl (t_awake) [] trivial rfl rfl rfl ?_)
    refine rw_t 4 rfl rfl rfl (do_assign rfl ?_)
    refine rw_nil ?_
    refine w_ret ?_
    exact ret_eq (.inl rfl) (.cons (res_tmp rfl) .nil) [0, 1] (rfl) ⟨.inr ⟨_, rfl, .inl rfl⟩, .inr ⟨_, rfl, .inl rfl⟩, trivial⟩ rfl (pre_ok rfl)
  refine w_skip ?_
  refine w_seq ?_
  refine w_block ?_
  refine w_seq ?_
  have hxe : EvIn (l.getD i Act.none).e := hl _ (getD_mem Act.none (show i < l.length by omega))
  -- region 6
  refine w_region ?_
  refine rw_t 33 rfl rfl rfl (do_ixn rfl rfl rfl (by first | omega | (simp only [ls] <;> omega)) ?_)
  refine rw_t 34 rfl rfl rfl (n_load_arragg [_, _, _, _, _, _, _, _, _] rfl rfl rfl (by first | omega | (simp only [ls] <;> omega)) rfl ?_)
  refine rw_t 8 rfl rfl rfl (n_alloc (n := 15) rfl ?_)
  refine rw_u rfl rfl (n_store_whole rfl rfl rfl rfl rfl rfl ?_)
  refine rw_nil ?_
  refine w_seq ?_
  have hr := g2.1.1
  have hx := g2.1.2.1
  have hh := g2.1.2.2
  have hok := right_ok hg.toCsrT g2
  have hfe := fit_in hg.toCsrOK hok hxe
  have hmr := move_right hg g2 (fitE (makeC (someNet n 12 30)) r (l.getD i Act.none))
  -- region 7
  refine w_region ?_
  refine rw_t 35 rfl rfl rfl (n_load_boxagg [_, _, _, _, _, _, _, _, _] rfl rfl (Nat.le_of_ble_eq_true rfl) rfl ?_)
  refine rw_t 36 rfl rfl rfl (n_load_boxagg [_, _, _] rfl rfl (Nat.le_of_ble_eq_true rfl) rfl ?_)
  refine rw_t 37 rfl rfl rfl (n_load_boxagg [_, _, _, _, _, _, _, _, _] rfl rfl (Nat.le_of_ble_eq_true rfl) rfl ?_)
  refine rw_t 38 rfl rfl rfl (do_callR (X' := .agg [.val (.int .i64 ((fitE (makeC (someNet n 12 30)) r (l.getD i Act.none)).who)), .val (.int .u8 ((fitE (makeC (someNet n 12 30)) r (l.getD i Act.none)).what)), .val (.int .i64 ((fitE (makeC (someNet n 12 30)) r (l.getD i Act.none)).u)), .val (.int .i64 ((fitE (makeC (someNet n 12 30)) r (l.getD i Act.none)).arc)), .val (.int .i64 ((fitE (makeC (someNet n 12 30)) r (l.getD i Act.none)).d)), .val (.int .i64 ((fitE (makeC (someNet n 12 30)) r (l.getD i Act.none)).h)), .val (.int .i64 ((fitE (makeC (someNet n 12 30)) r (l.getD i Act.none)).low))]) rfl rfl (t_fitted (c := (makeC (someNet n 12 30))) (p := r) (x := (l.getD i Act.none)) (hg.toCsrOK) (hok)) [4, 5, 6, 7, 8, 9, 10, 11, 12] ⟨.inr ⟨_, rfl, srv⟩, .inr ⟨_, rfl, srv⟩, .inr ⟨_, rfl, srv⟩, .inr ⟨_, rfl, srv⟩, .inr ⟨_, rfl, srv⟩, .inr ⟨_, rfl, srv⟩, .inr ⟨_, rfl, srv⟩, .inr ⟨_, rfl, srv⟩, .inr ⟨_, rfl, srv⟩, trivial⟩ rfl rfl rfl ?_)
  refine rw_t 9 rfl rfl rfl (n_alloc (n := 16) rfl ?_)
  refine rw_u rfl rfl (n_store_whole rfl rfl rfl rfl rfl rfl ?_)
  refine rw_nil ?_
  refine w_seq ?_
  refine w_seqB 55 ((¬ (strictP (makeC (someNet n 12 30)) r (fitE (makeC (someNet n 12 30)) r (l.getD i Act.none))) ∨ ((fitE (makeC (someNet n 12 30)) r (l.getD i Act.none)).what = 2 ∧ (fitE (makeC (someNet n 12 30)) r (l.getD i Act.none)).h > (makeC (someNet n 12 30)).N))) ?_ ?_
  · -- region 8
    refine w_region ?_
    refine rw_t 39 rfl rfl rfl (n_load_boxagg [_, _, _, _, _, _, _, _, _] rfl rfl (Nat.le_of_ble_eq_true rfl) rfl ?_)
    refine rw_t 40 rfl rfl rfl (n_load_boxagg [_, _, _] rfl rfl (Nat.le_of_ble_eq_true rfl) rfl ?_)
    refine rw_t 41 rfl rfl rfl (n_load_boxagg [_, _, _, _, _, _, _] rfl rfl (Nat.le_of_ble_eq_true rfl) rfl ?_)
    refine rw_t 42 rfl rfl rfl (do_callR (X' := .val (.bool (decide (strictP (makeC (someNet n 12 30)) r (fitE (makeC (someNet n 12 30)) r (l.getD i Act.none)))))) rfl rfl (t_Strict (c := (makeC (someNet n 12 30))) (p := r) (e := (fitE (makeC (someNet n 12 30)) r (l.getD i Act.none))) (hg) (g2) (hfe)) [4, 5, 6, 7, 8, 9, 10, 11, 12] ⟨.inr ⟨_, rfl, srv⟩, .inr ⟨_, rfl, srv⟩, .inr ⟨_, rfl, srv⟩, .inr ⟨_, rfl, srv⟩, .inr ⟨_, rfl, srv⟩, .inr ⟨_, rfl, srv⟩, .inr ⟨_, rfl, srv⟩, .inr ⟨_, rfl, srv⟩, .inr ⟨_, rfl, srv⟩, trivial⟩ rfl rfl rfl ?_)
    refine rw_t 43 rfl rfl rfl (do_not rfl ?_)
    refine rw_t 44 rfl rfl rfl (do_move rfl ?_)
    refine rw_case 44 rfl (fun g1 => ?_) (fun g1 => ?_)
    · have kg1 := g1
      try simp only [bs] at kg1
      refine rw_gf 45 5 44 false rfl rfl rfl rfl rfl rfl (by rw [g1]; decide) ?_
      refine rw_gf 46 5 44 false rfl rfl rfl rfl rfl rfl (by rw [g1]; decide) ?_
      refine rw_gf 47 5 44 false rfl rfl rfl rfl rfl rfl (by rw [g1]; decide) ?_
      refine rw_gf 48 5 44 false rfl rfl rfl rfl rfl rfl (by rw [g1]; decide) ?_
      refine rw_gu 49 9 48 true rfl rfl rfl rfl rfl rfl ?_
      refine rw_gu 50 9 48 true rfl rfl rfl rfl rfl rfl ?_
      refine rw_gu 51 9 48 true rfl rfl rfl rfl rfl rfl ?_
      refine rw_gu 52 9 48 true rfl rfl rfl rfl rfl rfl ?_
      refine rw_gu 53 9 48 true rfl rfl rfl rfl rfl rfl ?_
      refine rw_gf 54 5 44 false rfl rfl rfl rfl rfl rfl (by rw [g1]; decide) ?_
      refine rw_t 55 rfl rfl rfl (do_pick_t rfl g1 rfl ?_)
      refine rw_nil ?_
      refine ⟨rfl, ⟨_, rfl, by first | (simp; done) | (simp only [bs]; omega) | (simp [*]; done) | (simp; omega) | (constructor <;> intro h <;> simp_all <;> omega)⟩, ?_⟩
      repeat (refine ⟨⟨_, rfl, rfl⟩, ?_⟩)
      exact trivial
    · have kg1 := g1
      try simp only [bs] at kg1
      refine rw_gt 45 5 44 false rfl rfl rfl rfl rfl rfl g1 (do_fieldaddr rfl ?_)
      refine rw_gt 46 5 44 false rfl rfl rfl rfl rfl rfl g1 (do_load_box rfl rfl rfl ?_)
      refine rw_gt 47 5 44 false rfl rfl rfl rfl rfl rfl g1 (do_bin rfl rfl rfl ?_)
      refine rw_gt 48 5 44 false rfl rfl rfl rfl rfl rfl g1 (do_move rfl ?_)
      refine rw_case 48 rfl (fun g2 => ?_) (fun g2 => ?_)
      · have kg2 := g2
        try simp only [bs] at kg2
        refine rw_gt 49 9 48 true rfl rfl rfl rfl rfl rfl g2 (do_fieldaddr rfl ?_)
        refine rw_gt 50 9 48 true rfl rfl rfl rfl rfl rfl g2 (do_load_box rfl rfl rfl ?_)
        refine rw_gt 51 9 48 true rfl rfl rfl rfl rfl rfl g2 (do_fieldaddr rfl ?_)
        refine rw_gt 52 9 48 true rfl rfl rfl rfl rfl rfl g2 (do_load_box rfl rfl rfl ?_)
        refine rw_gt 53 9 48 true rfl rfl rfl rfl rfl rfl g2 (do_bin rfl rfl rfl ?_)
        refine rw_gt 54 5 44 false rfl rfl rfl rfl rfl rfl g1 (do_pick_t rfl g2 rfl ?_)
        refine rw_t 55 rfl rfl rfl (do_pick_f rfl g1 rfl ?_)
        refine rw_nil ?_
        refine ⟨rfl, ⟨_, rfl, by first | (simp; done) | (simp only [bs]; omega) | (simp [*]; done) | (simp; omega) | (constructor <;> intro h <;> simp_all <;> omega)⟩, ?_⟩
        repeat (refine ⟨⟨_, rfl, rfl⟩, ?_⟩)
        exact trivial
      · have kg2 := g2
        try simp only [bs] at kg2
        refine rw_gf 49 9 48 true rfl rfl rfl rfl rfl rfl (by rw [g2]; decide) ?_
        refine rw_gf 50 9 48 true rfl rfl rfl rfl rfl rfl (by rw [g2]; decide) ?_
        refine rw_gf 51 9 48 true rfl rfl rfl rfl rfl rfl (by rw [g2]; decide) ?_
        refine rw_gf 52 9 48 true rfl rfl rfl rfl rfl rfl (by rw [g2]; decide) ?_
        refine rw_gf 53 9 48 true rfl rfl rfl rfl rfl rfl (by rw [g2]; decide) ?_
        refine rw_gt 54 5 44 false rfl rfl rfl rfl rfl rfl g1 (do_pick_f rfl g2 rfl ?_)
        refine rw_t 55 rfl rfl rfl (do_pick_f rfl g1 rfl ?_)
        refine rw_nil ?_
        refine ⟨rfl, ⟨_, rfl, by first | (simp; done) | (simp only [bs]; omega) | (simp [*]; done) | (simp; omega) | (constructor <;> intro h <;> simp_all <;> omega)⟩, ?_⟩
        repeat (refine ⟨⟨_, rfl, rfl⟩, ?_⟩)
        exact trivial
  intro b1 hb1
  refine w_condP hb1 rfl (fun hc3 => ?_) (fun hc3 => ?_)
  · refine w_exit ?_ -- exit 1
    -- region 13
    refine w_region ?_
    refine rw_t 75 rfl rfl rfl (do_add rfl rfl (by omega) ?_)
    refine rw_t 31 rfl rfl rfl (do_move rfl ?_)
    refine rw_nil ?_
    refine ⟨(i + 1, r), [0, 1, 2, 3, 4, 5, 6, 7, 8, 9, 10, 11, 12, 13, 14], by dsimp only; omega, ⟨by dsimp only; omega, g2, g3⟩, ⟨.inr ⟨_, rfl, .inl rfl⟩, .inr ⟨_, rfl, .inl rfl⟩, .inr ⟨_, rfl, .inl rfl⟩, .inr ⟨_, rfl, .inl rfl⟩, .inr ⟨_, rfl, .inl rfl⟩, .inr ⟨_, rfl, .inl rfl⟩, .inr ⟨_, rfl, .inl rfl⟩, .inr ⟨_, rfl, .inl rfl⟩, .inr ⟨_, rfl, .inl rfl⟩, .inr ⟨_, rfl, .inl rfl⟩, .inr ⟨_, rfl, .inl rfl⟩, .inr ⟨_, rfl, .inl rfl⟩, .inr ⟨_, rfl, .inl rfl⟩, .inr ⟨_, rfl, .inl rfl⟩, .inr ⟨_, rfl, .inl rfl⟩, trivial⟩, rfl, pre_ok rfl, ⟨⟨_, rfl, rfl⟩, ⟨_, rfl, rfl⟩, ⟨_, rfl, rfl⟩, ⟨_, rfl, rfl⟩, ⟨_, rfl, rfl⟩, trivial⟩⟩
  refine w_skip ?_
  refine w_seq ?_
  have hs9 : strictP (makeC (someNet n 12 30)) r (fitE (makeC (someNet n 12 30)) r (l.getD i Act.none)) := Decidable.byContradiction fun q => hc3 (.inl q)
  have hn9 : ¬ ((fitE (makeC (someNet n 12 30)) r (l.getD i Act.none)).what = 2 ∧ (fitE (makeC (someNet n 12 30)) r (l.getD i Act.none)).h > (makeC (someNet n 12 30)).N) := fun q => hc3 (.inr q)
  have hmv : (moveE (makeC (someNet n 12 30)) r (fitE (makeC (someNet n 12 30)) r (l.getD i Act.none))) = ((doesP (makeC (someNet n 12 30)) r (fitE (makeC (someNet n 12 30)) r (l.getD i Act.none))), 0) := if_pos hs9.1
  have hvd := valid_does hg g2 g3 hs9 hn9
  have hdl := (hmv ▸ hmr : rightP (makeC (someNet n 12 30)) ((doesP (makeC (someNet n 12 30)) r (fitE (makeC (someNet n 12 30)) r (l.getD i Act.none))), (0 : Int)).1)
  have hm1 := hmr.1.1
  have hm2 := hmr.1.2.2
  -- region 9
  refine w_region ?_
  refine rw_t 57 rfl rfl rfl (n_load_boxagg [_, _, _, _, _, _, _, _, _] rfl rfl (Nat.le_of_ble_eq_true rfl) rfl ?_)
  refine rw_t 58 rfl rfl rfl (n_load_boxagg [_, _, _] rfl rfl (Nat.le_of_ble_eq_true rfl) rfl ?_)
  refine rw_t 59 rfl rfl rfl (n_load_boxagg [_, _, _, _, _, _, _] rfl rfl (Nat.le_of_ble_eq_true rfl) rfl ?_)
  refine rw_t 60 rfl rfl rfl (n_callN (X' := .tup [.agg [.slc 17 0 ((moveE (makeC (someNet n 12 30)) r (fitE (makeC (someNet n 12 30)) r (l.getD i Act.none))).1.Res.length) none, .slc 18 0 ((moveE (makeC (someNet n 12 30)) r (fitE (makeC (someNet n 12 30)) r (l.getD i Act.none))).1.Ex.length) none, .slc 19 0 ((moveE (makeC (someNet n 12 30)) r (fitE (makeC (someNet n 12 30)) r (l.getD i Act.none))).1.H.length) none], .val (.int .i64 ((moveE (makeC (someNet n 12 30)) r (fitE (makeC (someNet n 12 30)) r (l.getD i Act.none))).2))]) (N' := [SO.ints true .i64 ((moveE (makeC (someNet n 12 30)) r (fitE (makeC (someNet n 12 30)) r (l.getD i Act.none))).1.Res), SO.ints true .i64 ((moveE (makeC (someNet n 12 30)) r (fitE (makeC (someNet n 12 30)) r (l.getD i Act.none))).1.Ex), SO.ints true .i64 ((moveE (makeC (someNet n 12 30)) r (fitE (makeC (someNet n 12 30)) r (l.getD i Act.none))).1.H)]) rfl rfl (t_Move (c := (makeC (someNet n 12 30))) (p := r) (e := (fitE (makeC (someNet n 12 30)) r (l.getD i Act.none))) (hg) (g2) (hfe)) [4, 5, 6, 7, 8, 9, 10, 11, 12] ⟨.inr ⟨_, rfl, srv⟩, .inr ⟨_, rfl, srv⟩, .inr ⟨_, rfl, srv⟩, .inr ⟨_, rfl, srv⟩, .inr ⟨_, rfl, srv⟩, .inr ⟨_, rfl, srv⟩, .inr ⟨_, rfl, srv⟩, .inr ⟨_, rfl, srv⟩, .inr ⟨_, rfl, srv⟩, trivial⟩ rfl rfl rfl rfl rfl ?_)
  refine rw_t 56 rfl rfl rfl (do_move rfl ?_)
  refine rw_t 61 rfl rfl rfl (do_extract rfl rfl ?_)
  refine rw_t 62 rfl rfl rfl (do_extract rfl rfl ?_)
  refine rw_t 10 rfl rfl rfl (n_alloc (n := 20) rfl ?_)
  refine rw_u rfl rfl (n_store_whole rfl rfl rfl rfl rfl rfl ?_)
  refine rw_t 11 rfl rfl rfl (do_assign rfl ?_)
  refine rw_nil ?_
  refine w_seq ?_
  refine w_seqB 73 (((moveE (makeC (someNet n 12 30)) r (fitE (makeC (someNet n 12 30)) r (l.getD i Act.none))).2 ≠ 0 ∨ ¬ (validP (makeC (someNet n 12 30)) ((moveE (makeC (someNet n 12 30)) r (fitE (makeC (someNet n 12 30)) r (l.getD i Act.none))).1.Res) ((moveE (makeC (someNet n 12 30)) r (fitE (makeC (someNet n 12 30)) r (l.getD i Act.none))).1.H)))) ?_ ?_
  · -- region 10
    refine w_region ?_
    refine rw_t 63 rfl rfl rfl (do_move rfl ?_)
    refine rw_t 64 rfl rfl rfl (do_bin rfl rfl rfl ?_)
    refine rw_t 65 rfl rfl rfl (do_move rfl ?_)
    refine rw_case 65 rfl (fun g3 => ?_) (fun g3 => ?_)
    · have kg3 := g3
      try simp only [bs] at kg3
      refine rw_gf 66 2 65 false rfl rfl rfl rfl rfl rfl (by rw [g3]; decide) ?_
      refine rw_gf 67 2 65 false rfl rfl rfl rfl rfl rfl (by rw [g3]; decide) ?_
      refine rw_gf 68 2 65 false rfl rfl rfl rfl rfl rfl (by rw [g3]; decide) ?_
      refine rw_gf 69 2 65 false rfl rfl rfl rfl rfl rfl (by rw [g3]; decide) ?_
      refine rw_gf 70 2 65 false rfl rfl rfl rfl rfl rfl (by rw [g3]; decide) ?_
      refine rw_gf 71 2 65 false rfl rfl rfl rfl rfl rfl (by rw [g3]; decide) ?_
      refine rw_gf 72 2 65 false rfl rfl rfl rfl rfl rfl (by rw [g3]; decide) ?_
      refine rw_t 73 rfl rfl rfl (do_pick_t rfl g3 rfl ?_)
      refine rw_nil ?_
      refine ⟨rfl, ⟨_, rfl, by first | (simp; done) | (simp only [bs]; omega) | (simp [*]; done) | (simp; omega) | (constructor <;> intro h <;> simp_all <;> omega)⟩, ?_⟩
      repeat (refine ⟨⟨_, rfl, rfl⟩, ?_⟩)
      exact trivial
    · have kg3 := g3
      try simp only [bs] at kg3
      refine rw_gt 66 2 65 false rfl rfl rfl rfl rfl rfl g3 (n_load_boxagg [_, _, _, _, _, _, _, _, _] rfl rfl (Nat.le_of_ble_eq_true rfl) rfl ?_)
      refine rw_gt 67 2 65 false rfl rfl rfl rfl rfl rfl g3 (do_fieldaddr rfl ?_)
      refine rw_gt 68 2 65 false rfl rfl rfl rfl rfl rfl g3 (do_load_box rfl rfl rfl ?_)
      refine rw_gt 69 2 65 false rfl rfl rfl rfl rfl rfl g3 (do_fieldaddr rfl ?_)
      refine rw_gt 70 2 65 false rfl rfl rfl rfl rfl rfl g3 (do_load_box rfl rfl rfl ?_)
      refine rw_gt 71 2 65 false rfl rfl rfl rfl rfl rfl g3 (do_callR (X' := .val (.bool (decide (validP (makeC (someNet n 12 30)) ((moveE (makeC (someNet n 12 30)) r (fitE (makeC (someNet n 12 30)) r (l.getD i Act.none))).1.Res) ((moveE (makeC (someNet n 12 30)) r (fitE (makeC (someNet n 12 30)) r (l.getD i Act.none))).1.H))))) rfl rfl (t_Valid (c := (makeC (someNet n 12 30))) (f := (moveE (makeC (someNet n 12 30)) r (fitE (makeC (someNet n 12 30)) r (l.getD i Act.none))).1.Res) (hh := (moveE (makeC (someNet n 12 30)) r (fitE (makeC (someNet n 12 30)) r (l.getD i Act.none))).1.H) (hg.toCsrT) (by omega) (by omega)) [4, 5, 6, 7, 8, 9, 17, 19] ⟨.inr ⟨_, rfl, srv⟩, .inr ⟨_, rfl, srv⟩, .inr ⟨_, rfl, srv⟩, .inr ⟨_, rfl, srv⟩, .inr ⟨_, rfl, srv⟩, .inr ⟨_, rfl, srv⟩, .inr ⟨_, rfl, srv⟩, .inr ⟨_, rfl, srv⟩, trivial⟩ rfl rfl rfl ?_)
      refine rw_gt 72 2 65 false rfl rfl rfl rfl rfl rfl g3 (do_not rfl ?_)
      refine rw_t 73 rfl rfl rfl (do_pick_f rfl g3 rfl ?_)
      refine rw_nil ?_
      refine ⟨rfl, ⟨_, rfl, by first | (simp; done) | (simp only [bs]; omega) | (simp [*]; done) | (simp; omega) | (constructor <;> intro h <;> simp_all <;> omega)⟩, ?_⟩
      repeat (refine ⟨⟨_, rfl, rfl⟩, ?_⟩)
      exact trivial
  intro b2 hb2
  refine w_condP hb2 rfl (fun hc4 => ?_) (fun hc4 => ?_)
  · exfalso; rcases hc4 with q | q; exact q (by rw [hmv]); exact q (by rw [hmv]; exact hvd)
  refine w_skip ?_
  -- region 12
  refine w_region ?_
  refine rw_t 74 rfl rfl rfl (n_load_boxagg [_, _, _] rfl rfl (Nat.le_of_ble_eq_true rfl) rfl ?_)
  refine rw_u rfl rfl (n_store_whole rfl rfl rfl rfl rfl rfl ?_)
  refine rw_nil ?_
  -- region 13
  refine w_region ?_
  refine rw_t 75 rfl rfl rfl (do_add rfl rfl (by omega) ?_)
  refine rw_t 31 rfl rfl rfl (do_move rfl ?_)
  refine rw_nil ?_
  refine ⟨(i + 1, (moveE (makeC (someNet n 12 30)) r (fitE (makeC (someNet n 12 30)) r (l.getD i Act.none))).1), [0, 1, 2, 3, 4, 5, 6, 7, 8, 9, 17, 18, 19, 13, 14], by dsimp only; omega, ⟨by dsimp only; omega, hmr, by rw [hmv]; exact hvd⟩, ⟨.inr ⟨_, rfl, .inl rfl⟩, .inr ⟨_, rfl, .inl rfl⟩, .inr ⟨_, rfl, .inl rfl⟩, .inr ⟨_, rfl, .inl rfl⟩, .inr ⟨_, rfl, .inl rfl⟩, .inr ⟨_, rfl, .inl rfl⟩, .inr ⟨_, rfl, .inl rfl⟩, .inr ⟨_, rfl, .inl rfl⟩, .inr ⟨_, rfl, .inl rfl⟩, .inr ⟨_, rfl, .inl rfl⟩, .inr ⟨_, rfl, .inl rfl⟩, .inr ⟨_, rfl, .inl rfl⟩, .inr ⟨_, rfl, .inl rfl⟩, .inr ⟨_, rfl, .inl rfl⟩, .inr ⟨_, rfl, .inl rfl⟩, trivial⟩, rfl, pre_ok rfl, ⟨⟨_, rfl, rfl⟩, ⟨_, rfl, rfl⟩, ⟨_, rfl, rfl⟩, ⟨_, rfl, rfl⟩, ⟨_, rfl, rfl⟩, trivial⟩⟩
end Go.Proofs
